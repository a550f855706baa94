/- Proofs as bytes: how they are read. -/
import Derived.Test.YtnkeolokhcljpaaThaw
import Derived.Test.YtnkeolokhcljpaaA1
import Derived.Deep.OwnRows
import Derived.BigQuiet
import Derived.BigRegion
import Derived.Deep.Draws
import Derived.Deep.LoopGhost
import Derived.Test.YtnkeolokhcljpaaWayP
set_option linter.unusedSimpArgs false
set_option linter.unusedVariables false
namespace Go.Proofs.Ytnkeolokhcljpaa
open Go Go.RowKit
theorem encodeP_bad (p : Pf) (hw : p.wf) (h : p.chk ≠ 0) : VC Try.prog 8 [p.av] [] (.tup [.v (.slice none 0 0), errv p.chk]) := by
  have hc := pcheck_v p hw
  have hsl := bas_len p.s
  obtain ⟨h1, h2, h3, h4⟩ := id hw.e
  refine mE Try.func8 ?_; intro N w0 a w hN hR H
  simp only [Pf.av, Nd.av] at H hc
  refine mW ?_; clear H; intro a w H
  refine mCall [] [] (hc) H ?_; clear H; intro a w H; try refine wpList_nil ?_
  refine mW ?_; clear H; intro a w H
  refine mC H (fun hb => ?_) (fun hb => ?_)
  · refine mW ?_; clear H; intro a w H
    refine wp_ret ?_; exact mEnd [] [] [.tmp 2, .tmp 3] [_, _] hN hR H
  · simp at hb; exact absurd hb h
/-- The sides that marks and bytes say, what is left, and whether bytes were lacking. -/
def runS : List Bool → List UInt8 → List (List UInt8) × List UInt8 × Bool
  | [], r => ([], r, false)
  | m :: ms, r => if m = true ∧ r.length < 32 then ([E0], r, true) else ((if m then r.take 32 else E0) :: (runS ms (if m then r.drop 32 else r)).1, (runS ms (if m then r.drop 32 else r)).2)
def marksOf (bits : List UInt8) (n : Nat) : List Bool := (List.range n).map fun i => bitAt (bits.getD (i / 8) 0) (i % 8)
def rdQ (l : List UInt8) : Pf × Bool :=
  if l.length < 2 then (⟨[], .zero⟩, false) else
  if 256 < num 0 (l.take 2) then (⟨[], .zero⟩, false) else
  if (l.drop 2).length < (num 0 (l.take 2) + 7) / 8 then (⟨[], .zero⟩, false) else
  let x := runS (marksOf ((l.drop 2).take ((num 0 (l.take 2) + 7) / 8)) (num 0 (l.take 2))) ((l.drop 2).drop ((num 0 (l.take 2) + 7) / 8))
  if x.2.2 then (⟨x.1, .zero⟩, false) else (⟨x.1, dec x.2.1⟩, decide (decOk x.2.1))
theorem pmarks_len (bits : List UInt8) (n : Nat) : (marksOf bits n).length = n := by simp [marksOf]
theorem marks_drop (bits : List UInt8) (n k : Nat) (hk : k < n) : (marksOf bits n).drop k = bitAt (bits.getD (k / 8) 0) (k % 8) :: (marksOf bits n).drop (k + 1) := by
  rw [List.drop_eq_getElem_cons (by rw [pmarks_len]; exact hk)]
  simp [marksOf]
theorem E0_len : E0.length = 32 := sum_length [0]
theorem runS_w : ∀ (ms : List Bool) (r : List UInt8), ∀ h ∈ (runS ms r).1, h.length = 32
  | [], r => fun h hh => by cases hh
  | m :: ms, r => by
    intro h hh
    unfold runS at hh
    split at hh
    · simp at hh; subst hh; exact E0_len
    · rename_i hc
      rcases List.mem_cons.1 hh with rfl | hh
      · split
        · rename_i hm; rw [List.length_take]; have : ¬ r.length < 32 := fun e => hc ⟨hm, e⟩; omega
        · exact E0_len
      · exact runS_w ms _ h hh
/-- Where the reading stands. -/
structure At (ms : List Bool) (l : List UInt8) (i : Nat × List (List UInt8) × List UInt8 × Bool) : Prop where
  k : i.1 ≤ ms.length
  len : i.2.1.length = i.1
  lr : i.2.2.1.length ≤ l.length
  ok : i.2.2.2 = false → runS ms l = (i.2.1 ++ (runS (ms.drop i.1) i.2.2.1).1, (runS (ms.drop i.1) i.2.2.1).2)
  no : i.2.2.2 = true → runS ms l = (i.2.1, i.2.2.1, true)
theorem at_start (ms : List Bool) (l : List UInt8) : At ms l (0, [], l, false) :=
  ⟨Nat.zero_le _, rfl, Nat.le_refl _, fun _ => rfl, fun h => by cases h⟩
theorem at_next {ms ms' : List Bool} {l r : List UInt8} {k : Nat} {ss : List (List UInt8)} {m : Bool} (h : At ms l (k, ss, r, false)) (hd : ms.drop k = m :: ms.drop (k + 1)) (hk : k < ms.length) (hm : ¬ (m = true ∧ r.length < 32)) :
    At ms l (k + 1, ss ++ [if m then r.take 32 else E0], if m then r.drop 32 else r, false) := by
  refine ⟨hk, by simp [h.len], ?_, fun _ => ?_, fun e => by cases e⟩
  · dsimp only; have := h.lr; dsimp only at this; split <;> simp <;> omega
  · have := h.ok rfl
    dsimp only at this ⊢
    rw [this, hd, runS, if_neg hm]
    simp
theorem at_bad {ms ms' : List Bool} {l r : List UInt8} {k : Nat} {ss : List (List UInt8)} (h : At ms l (k, ss, r, false)) (hd : ms.drop k = true :: ms.drop (k + 1)) (hk : k < ms.length) (hr : r.length < 32) :
    At ms l (k + 1, ss ++ [E0], r, true) := by
  refine ⟨hk, by simp [h.len], h.lr, fun e => (by cases e), fun _ => ?_⟩
  have := h.ok rfl
  dsimp only at this ⊢
  rw [this, hd, runS, if_pos ⟨rfl, hr⟩]
set_option maxRecDepth 20000 in
set_option maxHeartbeats 1000000 in
theorem readPT_main (l : List UInt8) (hl : l.length ≤ 34359730000) (hs : ¬ l.length < 2) (hn : ¬ 256 < num 0 (l.take 2)) (hq : ¬ (l.drop 2).length < (num 0 (l.take 2) + 7) / 8) :
    VC Try.prog 47 [.bs l none] [(26, (rdQ l).1.s.length)] (.tup [.st [.sl (.ba 32) (bas (rdQ l).1.s) (some 0), (rdQ l).1.e.av], .v (.bool (rdQ l).2)]) := by
  rw [rdQ, if_neg hs, if_neg hn, if_neg hq]
  obtain ⟨n, hne⟩ : ∃ n, n = num 0 (l.take 2) := ⟨_, rfl⟩
  rw [← hne] at hn hq ⊢
  dsimp only
  have h1 := newRd_v l (by omega)
  have h2 := u16_ok l (by omega) (by omega)
  rw [← hne] at h2
  obtain ⟨l2, hl2⟩ : ∃ l2, l2 = l.drop 2 := ⟨_, rfl⟩
  have hl2l : l2.length ≤ l.length := by rw [hl2, List.length_drop]; omega
  rw [← hl2] at h2 hq ⊢
  have h3 := take_ok l2 ((n + 7) / 8) (by omega) (by omega)
  obtain ⟨l3, hl3⟩ : ∃ l3, l3 = l2.drop ((n + 7) / 8) := ⟨_, rfl⟩
  obtain ⟨bits, hbits⟩ : ∃ bits, bits = l2.take ((n + 7) / 8) := ⟨_, rfl⟩
  have hl3l : l3.length ≤ l.length := by rw [hl3, List.length_drop]; omega
  have hbl : bits.length = (n + 7) / 8 := by rw [hbits, List.length_take]; omega
  rw [← hl3, ← hbits] at h3 ⊢
  have hb1 := bits_v n (by omega)
  obtain ⟨ms, hms⟩ : ∃ ms, ms = marksOf bits n := ⟨_, rfl⟩
  rw [← hms]
  have hml : ms.length = n := by rw [hms, pmarks_len]
  have hsum := sum_length [0]
  have eE : sum [0] = E0 := rfl
  refine mE Try.func47 ?_; intro N w0 a w hN hR H
  simp only [rdv] at H h1 h2 h3
  refine mW ?_; clear H; intro a w H
  refine mCall [] [] (h1) H ?_; clear H; intro a w H; try refine wpList_nil ?_
  refine mW ?_; clear H; intro a w H
  refine mCall [1] [] (h2) H ?_; clear H; intro a w H; try refine wpList_nil ?_
  refine mW ?_; clear H; intro a w H
  refine mC H (fun hb => ?_) (fun hb => ?_)
  · exfalso; simp at hb; omega
  refine mW ?_; clear H; intro a w H
  refine mCall [] [] (hb1) H ?_; clear H; intro a w H; try refine wpList_nil ?_
  refine mW ?_; clear H; intro a w H
  refine mCall [1] [] (h3) H ?_; clear H; intro a w H; try refine wpList_nil ?_
  refine mW ?_; clear H; intro a w H
  refine mCall [] [] (empty_v) H ?_; clear H; intro a w H; try refine wpList_nil ?_
  refine mW ?_; clear H; intro a w H
  rw [eE] at H hsum
  have H := v_sub H 6 (x := .bs bits (some 0)) (y := .bs bits none) (by simp only [sub]) rfl (fun _ e => by cases e) rfl
  simp only [nilT, reduceIte, Nat.reduceEqDiff] at H
  have H := v_nilX tab_ok H 2 0 26 (j := ti26) (.ba 32) rfl (by decide) rfl rfl
  simp only [List.set_cons_succ, List.set_cons_zero, List.length_cons, List.length_nil, Nat.reduceAdd, List.cons_append, List.nil_append, hz] at H
  refine v_loop (fun i : Nat × List (List UInt8) × List UInt8 × Bool => ⟨[(9, none, .v (.int .i64 (i.1 : Int))), (8, none, .ptr 3 []), (7, none, .ptr 2 []), (6, none, .bs bits none), (5, none, .v (.int .i64 (n : Int))), (4, none, .ptr 1 []), (3, none, .v (.bool false)), (2, none, .ptr 0 [])],
    [(ti30.ty, .st [.v (.slice none 0 0), .st [.v (.int .u8 0), .ba z32, .ba z32, .ba z32, .ba z32]]), (rdT, .st [.v (.bool true), .v (.bool i.2.2.2), .bs i.2.2.1 none]), (ti30.ty, .st [.sl (.ba 32) (bas i.2.1) (some 1), .st [.v (.int .u8 0), .ba z32, .ba z32, .ba z32, .ba z32]]), (.ba 32, .ba E0)], [], [(5, (n + 7) / 8), (26, i.2.1.length)]⟩)
    (At ms l3) (fun i => n - i.1) (0, [], l3, false) (at_start ms l3) (H.to 4 2 ⟨Nat.le_trans hN (by decide), Nat.le_trans hR (by decide)⟩ ⟨rfl, rfl, rfl, rfl, rfl, rfl, rfl, rfl, trivial⟩ rfl rfl rfl rfl rfl) ?_
  clear H
  rintro ⟨k, ss, r, bad⟩ a w hat H
  dsimp only at H
  have hk := hat.k
  have hlr := hat.lr
  have hsl := hat.len
  dsimp only at hk hlr hsl
  have hbd := bad_v bad r
  simp only [rdv] at hbd
  refine mW ?_; clear H; intro a w H
  refine mCallG [1] [] (hbd) H ?_; clear H; intro a w H; try refine wpList_nil ?_
  refine mW ?_; clear H; intro a w H
  refine mC H (fun hb => ?_) (fun hb => ?_)
  · have hb1 : k < n ∧ bad = false := by simpa using hb
    obtain ⟨hkn, rfl⟩ := hb1
    have e8 : ((k : Int) / 8).toNat = k / 8 := by omega
    have e7 : (if ((k : Int) % 8).toNat ≤ 8 then ((k : Int) % 8).toNat else 8) = k % 8 := by split <;> omega
    have hX := And.intro @e8 (@e7)
    have hY := And.intro @e8 (@e7)
    refine mW ?_; clear H; intro a w H
    refine mS ?_; refine mD 2 [] [] H ?_; clear H; intro gS H; refine mT ?_; clear H; intro a w H
    refine v_drawNil H ?_; clear H; intro H
    refine mW ?_; clear H; intro a w H
    rw [and_bit] at H
    have hdr := marks_drop bits n k hkn
    rw [← hms] at hdr
    have hkm : k < ms.length := by omega
    have hbs : bas (ss ++ [E0]) = bas ss ++ [.ba E0] := by simp [bas]
    have hE32 : E0.take 32 = E0 := List.take_of_length_le (by omega)
    have hE33 : E0.drop 32 = [] := List.drop_eq_nil_of_le (by omega)
    have hbl' := bas_len ss
    refine mC H (fun hb => ?_) (fun hb => ?_)
    · rw [hb] at hdr
      replace H := mK [2, 3, 4, 5, 6, 7, 8, 9, 10] 5 2 hN hR H
      by_cases hr : r.length < 32
      · have ht := take_bad r 32 hr
        simp only [rdv] at ht
        refine mS ?_; refine mD 0 [2, 3] [0] H ?_; clear H; intro gS H; refine mT ?_; clear H; intro a w H
        refine mCallT [1] [] (ht) H ?_; clear H; intro a w H
        refine mT ?_; clear H; intro a w H
        refine v_drawNil H ?_; clear H; intro H
        refine mW ?_; clear H; intro a w H
        exact ⟨(k + 1, ss ++ [E0], r, true), at_bad (ms' := ms) hat hdr hkm hr, by dsimp only; omega, H.to 4 2 ⟨Nat.le_trans hN (by decide), Nat.le_trans hR (by decide)⟩ ⟨rfl, rfl, rfl, rfl, rfl, rfl, rfl, rfl, trivial⟩ (by dsimp only; rw [hbs]; rfl) (by dsimp only; rw [List.length_append, hbl']; rfl) rfl rfl rfl⟩
      · have ht := take_ok r 32 (by omega) (by omega)
        simp only [rdv] at ht
        refine mS ?_; refine mD 0 [2, 3] [0] H ?_; clear H; intro gS H; refine mT ?_; clear H; intro a w H
        refine mCallT [1] [] (ht) H ?_; clear H; intro a w H
        refine mT ?_; clear H; intro a w H
        refine v_drawNil H ?_; clear H; intro H
        refine mW ?_; clear H; intro a w H
        have h32 : (r.take 32).length = 32 := by rw [List.length_take]; omega
        have ht2 : (r.take 32).take 32 ++ E0.drop ((r.take 32).take 32).length = r.take 32 := by rw [List.take_of_length_le (Nat.le_of_eq h32), h32, hE33, List.append_nil]
        have hbs2 : bas (ss ++ [r.take 32]) = bas ss ++ [.ba (r.take 32)] := by simp [bas]
        rw [ht2] at H
        exact ⟨(k + 1, ss ++ [r.take 32], r.drop 32, false), at_next (ms' := ms) (m := true) hat hdr hkm (fun h => hr h.2), by dsimp only; omega, H.to 4 2 ⟨Nat.le_trans hN (by decide), Nat.le_trans hR (by decide)⟩ ⟨rfl, rfl, rfl, rfl, rfl, rfl, rfl, rfl, trivial⟩ (by dsimp only; rw [hbs2]; rfl) (by dsimp only; rw [List.length_append, hbl']; rfl) rfl rfl rfl⟩
    · rw [hb] at hdr
      refine mW ?_; clear H; intro a w H
      exact ⟨(k + 1, ss ++ [E0], r, false), at_next (ms' := ms) (m := false) hat hdr hkm (fun h => by cases h.1), by dsimp only; omega, H.to 4 2 ⟨Nat.le_trans hN (by decide), Nat.le_trans hR (by decide)⟩ ⟨rfl, rfl, rfl, rfl, rfl, rfl, rfl, rfl, trivial⟩ (by dsimp only; rw [hbs]; rfl) (by dsimp only; rw [List.length_append, hbl']; rfl) rfl rfl rfl⟩
  · have hbc : bad = true ∨ (bad = false ∧ k = n) := by
      cases bad
      · right; refine ⟨rfl, ?_⟩; simp at hb; omega
      · exact .inl rfl
    have hsum := E0_len
    rcases hbc with rfl | ⟨rfl, rfl⟩
    · have hrun := hat.no rfl
      have h4 := left_v true r
      have h5 := take_was r 0
      have hd := decode_v []
      have hdb : ¬ decOk [] := by simp [decOk]
      have hdl := z32_len
      rw [if_neg hdb, dec_bad hdb] at hd
      simp only [rdv, Nd.av, Nd.zero, if_true] at h4 h5 hd
      dsimp only at hrun
      rw [hrun]
      dsimp only
      rw [if_pos rfl]
      refine mW ?_; clear H; intro a w H
      refine mCall [1] [] (h4) H ?_; clear H; intro a w H; try refine wpList_nil ?_
      refine mW ?_; clear H; intro a w H
      refine mCall [1] [] (h5) H ?_; clear H; intro a w H; try refine wpList_nil ?_
      refine mW ?_; clear H; intro a w H
      refine mCall [] [] (hd) H ?_; clear H; intro a w H; try refine wpList_nil ?_
      refine mW ?_; clear H; intro a w H
      replace H := mK [0, 2, 3, 4, 7, 12] 4 2 hN hR H
      repeat (first | refine wp_seq ?_ | refine wp_block ?_)
      refine v_drawZ 0 [1, 0, 2, 3, 4, 5, 6, 7, 8, 9] [0, 2, 8] [1, 3, 4, 5, 6, 7] [(0, 2)] (by kernel_rfl) (by kernel_rfl) (by kernel_rfl) (by kernel_rfl) (by kernel_rfl) H (by rfl) ?_; clear H; intro gS H; try replace H := ntf H
      refine wpZ_run 1 (i := 1) (n' := 9) (pend' := [0, 2, 3, 4, 5, 6, 7, 8, 9]) (by rfl) (by rfl) (by rfl) (by rfl) (by rfl) ?_
      repeat ((first | refine v_someT 3 tab_ok hN H (by rfl) ctX ?_ | refine v_someT 2 tab_ok hN H (by rfl) ctX ?_ | refine v_someT 1 tab_ok hN H (by rfl) ctX ?_); clear H; intro a w H; replace H := ntf H; simp only [List.drop_succ_cons, List.drop_zero, List.drop_nil])
      refine wpT_nil ?_
      try dsimp only
      refine wpZ_two (cs := [2]) (by rfl) (by rfl) ?_
      refine all2 ?_
      refine ⟨?_, ?_⟩
      focus
        refine wpZ_pick (pend' := [2, 3, 4, 5, 6, 7, 8, 9]) (by rfl) (by rfl) ?_
        repeat ((first | refine v_someT 3 tab_ok hN H (by rfl) ctX ?_ | refine v_someT 2 tab_ok hN H (by rfl) ctX ?_ | refine v_someT 1 tab_ok hN H (by rfl) ctX ?_); clear H; intro a w H; replace H := ntf H; simp only [List.drop_succ_cons, List.drop_zero, List.drop_nil])
        refine wpT_nil ?_
        try dsimp only
        refine wpZ_two (cs := []) (by rfl) (by rfl) ?_
        refine all1 ?_
        refine wpZ_pick (pend' := [3, 4, 5, 6, 7, 8, 9]) (by rfl) (by rfl) ?_
        refine mCallT [1] [] (hbd) H ?_; clear H; intro a w H
        refine wpT_nil ?_
        try dsimp only
        refine wpZ_run 5 (i := 3) (n' := 2) (pend' := [8, 9]) (by rfl) (by rfl) (by rfl) (by rfl) (by rfl) ?_
        repeat ((first | refine v_someT 3 tab_ok hN H (by rfl) ctX ?_ | refine v_someT 2 tab_ok hN H (by rfl) ctX ?_ | refine v_someT 1 tab_ok hN H (by rfl) ctX ?_); clear H; intro a w H; replace H := ntf H; simp only [List.drop_succ_cons, List.drop_zero, List.drop_nil])
        refine wpT_nil ?_
        try dsimp only
        refine wpZ_two (cs := []) (by rfl) (by rfl) ?_
        refine all1 ?_
        refine wpZ_pick (pend' := [9]) (by rfl) (by rfl) ?_
        repeat ((first | refine v_someT 3 tab_ok hN H (by rfl) ctX ?_ | refine v_someT 2 tab_ok hN H (by rfl) ctX ?_ | refine v_someT 1 tab_ok hN H (by rfl) ctX ?_); clear H; intro a w H; replace H := ntf H; simp only [List.drop_succ_cons, List.drop_zero, List.drop_nil])
        refine wpT_nil ?_
        try dsimp only
        refine wpZ_run 1 (i := 9) (n' := 0) (pend' := []) (by rfl) (by rfl) (by rfl) (by rfl) (by rfl) ?_
        repeat ((first | refine v_someT 3 tab_ok hN H (by rfl) ctX ?_ | refine v_someT 2 tab_ok hN H (by rfl) ctX ?_ | refine v_someT 1 tab_ok hN H (by rfl) ctX ?_); clear H; intro a w H; replace H := ntf H; simp only [List.drop_succ_cons, List.drop_zero, List.drop_nil])
        refine wpT_nil ?_
        try dsimp only
        refine wpZ_nil ?_
        replace H := RelT.toRel H
      rotate_left 1
      focus
        refine wpZ_pick (pend' := [0, 3, 4, 5, 6, 7, 8, 9]) (by rfl) (by rfl) ?_
        refine mCallT [1] [] (hbd) H ?_; clear H; intro a w H
        refine wpT_nil ?_
        try dsimp only
        refine wpZ_two (cs := []) (by rfl) (by rfl) ?_
        refine all1 ?_
        refine wpZ_pick (pend' := [3, 4, 5, 6, 7, 8, 9]) (by rfl) (by rfl) ?_
        repeat ((first | refine v_someT 3 tab_ok hN H (by rfl) ctX ?_ | refine v_someT 2 tab_ok hN H (by rfl) ctX ?_ | refine v_someT 1 tab_ok hN H (by rfl) ctX ?_); clear H; intro a w H; replace H := ntf H; simp only [List.drop_succ_cons, List.drop_zero, List.drop_nil])
        refine wpT_nil ?_
        try dsimp only
        refine wpZ_run 5 (i := 3) (n' := 2) (pend' := [8, 9]) (by rfl) (by rfl) (by rfl) (by rfl) (by rfl) ?_
        repeat ((first | refine v_someT 3 tab_ok hN H (by rfl) ctX ?_ | refine v_someT 2 tab_ok hN H (by rfl) ctX ?_ | refine v_someT 1 tab_ok hN H (by rfl) ctX ?_); clear H; intro a w H; replace H := ntf H; simp only [List.drop_succ_cons, List.drop_zero, List.drop_nil])
        refine wpT_nil ?_
        try dsimp only
        refine wpZ_two (cs := []) (by rfl) (by rfl) ?_
        refine all1 ?_
        refine wpZ_pick (pend' := [9]) (by rfl) (by rfl) ?_
        repeat ((first | refine v_someT 3 tab_ok hN H (by rfl) ctX ?_ | refine v_someT 2 tab_ok hN H (by rfl) ctX ?_ | refine v_someT 1 tab_ok hN H (by rfl) ctX ?_); clear H; intro a w H; replace H := ntf H; simp only [List.drop_succ_cons, List.drop_zero, List.drop_nil])
        refine wpT_nil ?_
        try dsimp only
        refine wpZ_run 1 (i := 9) (n' := 0) (pend' := []) (by rfl) (by rfl) (by rfl) (by rfl) (by rfl) ?_
        repeat ((first | refine v_someT 3 tab_ok hN H (by rfl) ctX ?_ | refine v_someT 2 tab_ok hN H (by rfl) ctX ?_ | refine v_someT 1 tab_ok hN H (by rfl) ctX ?_); clear H; intro a w H; replace H := ntf H; simp only [List.drop_succ_cons, List.drop_zero, List.drop_nil])
        refine wpT_nil ?_
        try dsimp only
        refine wpZ_nil ?_
        replace H := RelT.toRel H
      all_goals
        simp only [Nd.av, Nd.zero]
        refine mS ?_
        refine wp_ret ?_; exact mEnd [] [1] [.cell 2 30, .tmp 3] [_, _] hN hR H
    · have hrun := hat.ok rfl
      dsimp only at hrun
      rw [List.drop_of_length_le (by omega)] at hrun
      simp only [runS, List.append_nil] at hrun
      have h4 := left_v false r
      have h5 := take_ok r r.length (Nat.le_refl _) (by omega)
      have hd := decode_v r
      obtain ⟨g1, g2, g3, g4⟩ := id (dec_wf r)
      simp only [rdv, Nd.av, Bool.false_eq_true, if_false, List.take_length, List.drop_length] at h4 h5 hd
      rw [hrun]
      dsimp only
      rw [if_neg (by decide)]
      have hbd := bad_v false []
      simp only [rdv] at hbd
      refine mW ?_; clear H; intro a w H
      refine mCall [1] [] (h4) H ?_; clear H; intro a w H; try refine wpList_nil ?_
      refine mW ?_; clear H; intro a w H
      refine mCall [1] [] (h5) H ?_; clear H; intro a w H; try refine wpList_nil ?_
      refine mW ?_; clear H; intro a w H
      refine mCall [] [] (hd) H ?_; clear H; intro a w H; try refine wpList_nil ?_
      refine mW ?_; clear H; intro a w H
      replace H := mK [0, 2, 3, 4, 7, 12] 4 2 hN hR H
      by_cases ho : decOk r
      · simp only [if_pos ho] at H
        repeat (first | refine wp_seq ?_ | refine wp_block ?_)
        refine v_drawZ 0 [1, 0, 2, 3, 4, 5, 6, 7, 8, 9] [0, 2, 8] [1, 3, 4, 5, 6, 7] [(0, 2)] (by kernel_rfl) (by kernel_rfl) (by kernel_rfl) (by kernel_rfl) (by kernel_rfl) H (by rfl) ?_; clear H; intro gS H; try replace H := ntf H
        refine wpZ_run 1 (i := 1) (n' := 9) (pend' := [0, 2, 3, 4, 5, 6, 7, 8, 9]) (by rfl) (by rfl) (by rfl) (by rfl) (by rfl) ?_
        repeat ((first | refine v_someT 3 tab_ok hN H (by rfl) ctX ?_ | refine v_someT 2 tab_ok hN H (by rfl) ctX ?_ | refine v_someT 1 tab_ok hN H (by rfl) ctX ?_); clear H; intro a w H; replace H := ntf H; simp only [List.drop_succ_cons, List.drop_zero, List.drop_nil])
        refine wpT_nil ?_
        try dsimp only
        refine wpZ_two (cs := [2]) (by rfl) (by rfl) ?_
        refine all2 ?_
        refine ⟨?_, ?_⟩
        focus
          refine wpZ_pick (pend' := [2, 3, 4, 5, 6, 7, 8, 9]) (by rfl) (by rfl) ?_
          repeat ((first | refine v_someT 3 tab_ok hN H (by rfl) ctX ?_ | refine v_someT 2 tab_ok hN H (by rfl) ctX ?_ | refine v_someT 1 tab_ok hN H (by rfl) ctX ?_); clear H; intro a w H; replace H := ntf H; simp only [List.drop_succ_cons, List.drop_zero, List.drop_nil])
          refine wpT_nil ?_
          try dsimp only
          refine wpZ_two (cs := []) (by rfl) (by rfl) ?_
          refine all1 ?_
          refine wpZ_pick (pend' := [3, 4, 5, 6, 7, 8, 9]) (by rfl) (by rfl) ?_
          refine mCallT [1] [] (hbd) H ?_; clear H; intro a w H
          refine wpT_nil ?_
          try dsimp only
          refine wpZ_run 5 (i := 3) (n' := 2) (pend' := [8, 9]) (by rfl) (by rfl) (by rfl) (by rfl) (by rfl) ?_
          repeat ((first | refine v_someT 3 tab_ok hN H (by rfl) ctX ?_ | refine v_someT 2 tab_ok hN H (by rfl) ctX ?_ | refine v_someT 1 tab_ok hN H (by rfl) ctX ?_); clear H; intro a w H; replace H := ntf H; simp only [List.drop_succ_cons, List.drop_zero, List.drop_nil])
          refine wpT_nil ?_
          try dsimp only
          refine wpZ_two (cs := []) (by rfl) (by rfl) ?_
          refine all1 ?_
          refine wpZ_pick (pend' := [9]) (by rfl) (by rfl) ?_
          repeat ((first | refine v_someT 3 tab_ok hN H (by rfl) ctX ?_ | refine v_someT 2 tab_ok hN H (by rfl) ctX ?_ | refine v_someT 1 tab_ok hN H (by rfl) ctX ?_); clear H; intro a w H; replace H := ntf H; simp only [List.drop_succ_cons, List.drop_zero, List.drop_nil])
          refine wpT_nil ?_
          try dsimp only
          refine wpZ_run 1 (i := 9) (n' := 0) (pend' := []) (by rfl) (by rfl) (by rfl) (by rfl) (by rfl) ?_
          repeat ((first | refine v_someT 3 tab_ok hN H (by rfl) ctX ?_ | refine v_someT 2 tab_ok hN H (by rfl) ctX ?_ | refine v_someT 1 tab_ok hN H (by rfl) ctX ?_); clear H; intro a w H; replace H := ntf H; simp only [List.drop_succ_cons, List.drop_zero, List.drop_nil])
          refine wpT_nil ?_
          try dsimp only
          refine wpZ_nil ?_
          replace H := RelT.toRel H
        rotate_left 1
        focus
          refine wpZ_pick (pend' := [0, 3, 4, 5, 6, 7, 8, 9]) (by rfl) (by rfl) ?_
          refine mCallT [1] [] (hbd) H ?_; clear H; intro a w H
          refine wpT_nil ?_
          try dsimp only
          refine wpZ_two (cs := []) (by rfl) (by rfl) ?_
          refine all1 ?_
          refine wpZ_pick (pend' := [3, 4, 5, 6, 7, 8, 9]) (by rfl) (by rfl) ?_
          repeat ((first | refine v_someT 3 tab_ok hN H (by rfl) ctX ?_ | refine v_someT 2 tab_ok hN H (by rfl) ctX ?_ | refine v_someT 1 tab_ok hN H (by rfl) ctX ?_); clear H; intro a w H; replace H := ntf H; simp only [List.drop_succ_cons, List.drop_zero, List.drop_nil])
          refine wpT_nil ?_
          try dsimp only
          refine wpZ_run 5 (i := 3) (n' := 2) (pend' := [8, 9]) (by rfl) (by rfl) (by rfl) (by rfl) (by rfl) ?_
          repeat ((first | refine v_someT 3 tab_ok hN H (by rfl) ctX ?_ | refine v_someT 2 tab_ok hN H (by rfl) ctX ?_ | refine v_someT 1 tab_ok hN H (by rfl) ctX ?_); clear H; intro a w H; replace H := ntf H; simp only [List.drop_succ_cons, List.drop_zero, List.drop_nil])
          refine wpT_nil ?_
          try dsimp only
          refine wpZ_two (cs := []) (by rfl) (by rfl) ?_
          refine all1 ?_
          refine wpZ_pick (pend' := [9]) (by rfl) (by rfl) ?_
          repeat ((first | refine v_someT 3 tab_ok hN H (by rfl) ctX ?_ | refine v_someT 2 tab_ok hN H (by rfl) ctX ?_ | refine v_someT 1 tab_ok hN H (by rfl) ctX ?_); clear H; intro a w H; replace H := ntf H; simp only [List.drop_succ_cons, List.drop_zero, List.drop_nil])
          refine wpT_nil ?_
          try dsimp only
          refine wpZ_run 1 (i := 9) (n' := 0) (pend' := []) (by rfl) (by rfl) (by rfl) (by rfl) (by rfl) ?_
          repeat ((first | refine v_someT 3 tab_ok hN H (by rfl) ctX ?_ | refine v_someT 2 tab_ok hN H (by rfl) ctX ?_ | refine v_someT 1 tab_ok hN H (by rfl) ctX ?_); clear H; intro a w H; replace H := ntf H; simp only [List.drop_succ_cons, List.drop_zero, List.drop_nil])
          refine wpT_nil ?_
          try dsimp only
          refine wpZ_nil ?_
          replace H := RelT.toRel H
        all_goals
          simp only [Nd.av, ho, decide_true, decide_false]
          refine mS ?_
          refine wp_ret ?_; exact mEnd [] [1] [.cell 2 30, .tmp 3] [_, _] hN hR H
      · simp only [if_neg ho] at H
        repeat (first | refine wp_seq ?_ | refine wp_block ?_)
        refine v_drawZ 0 [1, 0, 2, 3, 4, 5, 6, 7, 8, 9] [0, 2, 8] [1, 3, 4, 5, 6, 7] [(0, 2)] (by kernel_rfl) (by kernel_rfl) (by kernel_rfl) (by kernel_rfl) (by kernel_rfl) H (by rfl) ?_; clear H; intro gS H; try replace H := ntf H
        refine wpZ_run 1 (i := 1) (n' := 9) (pend' := [0, 2, 3, 4, 5, 6, 7, 8, 9]) (by rfl) (by rfl) (by rfl) (by rfl) (by rfl) ?_
        repeat ((first | refine v_someT 3 tab_ok hN H (by rfl) ctX ?_ | refine v_someT 2 tab_ok hN H (by rfl) ctX ?_ | refine v_someT 1 tab_ok hN H (by rfl) ctX ?_); clear H; intro a w H; replace H := ntf H; simp only [List.drop_succ_cons, List.drop_zero, List.drop_nil])
        refine wpT_nil ?_
        try dsimp only
        refine wpZ_two (cs := [2]) (by rfl) (by rfl) ?_
        refine all2 ?_
        refine ⟨?_, ?_⟩
        focus
          refine wpZ_pick (pend' := [2, 3, 4, 5, 6, 7, 8, 9]) (by rfl) (by rfl) ?_
          repeat ((first | refine v_someT 3 tab_ok hN H (by rfl) ctX ?_ | refine v_someT 2 tab_ok hN H (by rfl) ctX ?_ | refine v_someT 1 tab_ok hN H (by rfl) ctX ?_); clear H; intro a w H; replace H := ntf H; simp only [List.drop_succ_cons, List.drop_zero, List.drop_nil])
          refine wpT_nil ?_
          try dsimp only
          refine wpZ_two (cs := []) (by rfl) (by rfl) ?_
          refine all1 ?_
          refine wpZ_pick (pend' := [3, 4, 5, 6, 7, 8, 9]) (by rfl) (by rfl) ?_
          refine mCallT [1] [] (hbd) H ?_; clear H; intro a w H
          refine wpT_nil ?_
          try dsimp only
          refine wpZ_run 5 (i := 3) (n' := 2) (pend' := [8, 9]) (by rfl) (by rfl) (by rfl) (by rfl) (by rfl) ?_
          repeat ((first | refine v_someT 3 tab_ok hN H (by rfl) ctX ?_ | refine v_someT 2 tab_ok hN H (by rfl) ctX ?_ | refine v_someT 1 tab_ok hN H (by rfl) ctX ?_); clear H; intro a w H; replace H := ntf H; simp only [List.drop_succ_cons, List.drop_zero, List.drop_nil])
          refine wpT_nil ?_
          try dsimp only
          refine wpZ_two (cs := []) (by rfl) (by rfl) ?_
          refine all1 ?_
          refine wpZ_pick (pend' := [9]) (by rfl) (by rfl) ?_
          repeat ((first | refine v_someT 3 tab_ok hN H (by rfl) ctX ?_ | refine v_someT 2 tab_ok hN H (by rfl) ctX ?_ | refine v_someT 1 tab_ok hN H (by rfl) ctX ?_); clear H; intro a w H; replace H := ntf H; simp only [List.drop_succ_cons, List.drop_zero, List.drop_nil])
          refine wpT_nil ?_
          try dsimp only
          refine wpZ_run 1 (i := 9) (n' := 0) (pend' := []) (by rfl) (by rfl) (by rfl) (by rfl) (by rfl) ?_
          repeat ((first | refine v_someT 3 tab_ok hN H (by rfl) ctX ?_ | refine v_someT 2 tab_ok hN H (by rfl) ctX ?_ | refine v_someT 1 tab_ok hN H (by rfl) ctX ?_); clear H; intro a w H; replace H := ntf H; simp only [List.drop_succ_cons, List.drop_zero, List.drop_nil])
          refine wpT_nil ?_
          try dsimp only
          refine wpZ_nil ?_
          replace H := RelT.toRel H
        rotate_left 1
        focus
          refine wpZ_pick (pend' := [0, 3, 4, 5, 6, 7, 8, 9]) (by rfl) (by rfl) ?_
          refine mCallT [1] [] (hbd) H ?_; clear H; intro a w H
          refine wpT_nil ?_
          try dsimp only
          refine wpZ_two (cs := []) (by rfl) (by rfl) ?_
          refine all1 ?_
          refine wpZ_pick (pend' := [3, 4, 5, 6, 7, 8, 9]) (by rfl) (by rfl) ?_
          repeat ((first | refine v_someT 3 tab_ok hN H (by rfl) ctX ?_ | refine v_someT 2 tab_ok hN H (by rfl) ctX ?_ | refine v_someT 1 tab_ok hN H (by rfl) ctX ?_); clear H; intro a w H; replace H := ntf H; simp only [List.drop_succ_cons, List.drop_zero, List.drop_nil])
          refine wpT_nil ?_
          try dsimp only
          refine wpZ_run 5 (i := 3) (n' := 2) (pend' := [8, 9]) (by rfl) (by rfl) (by rfl) (by rfl) (by rfl) ?_
          repeat ((first | refine v_someT 3 tab_ok hN H (by rfl) ctX ?_ | refine v_someT 2 tab_ok hN H (by rfl) ctX ?_ | refine v_someT 1 tab_ok hN H (by rfl) ctX ?_); clear H; intro a w H; replace H := ntf H; simp only [List.drop_succ_cons, List.drop_zero, List.drop_nil])
          refine wpT_nil ?_
          try dsimp only
          refine wpZ_two (cs := []) (by rfl) (by rfl) ?_
          refine all1 ?_
          refine wpZ_pick (pend' := [9]) (by rfl) (by rfl) ?_
          repeat ((first | refine v_someT 3 tab_ok hN H (by rfl) ctX ?_ | refine v_someT 2 tab_ok hN H (by rfl) ctX ?_ | refine v_someT 1 tab_ok hN H (by rfl) ctX ?_); clear H; intro a w H; replace H := ntf H; simp only [List.drop_succ_cons, List.drop_zero, List.drop_nil])
          refine wpT_nil ?_
          try dsimp only
          refine wpZ_run 1 (i := 9) (n' := 0) (pend' := []) (by rfl) (by rfl) (by rfl) (by rfl) (by rfl) ?_
          repeat ((first | refine v_someT 3 tab_ok hN H (by rfl) ctX ?_ | refine v_someT 2 tab_ok hN H (by rfl) ctX ?_ | refine v_someT 1 tab_ok hN H (by rfl) ctX ?_); clear H; intro a w H; replace H := ntf H; simp only [List.drop_succ_cons, List.drop_zero, List.drop_nil])
          refine wpT_nil ?_
          try dsimp only
          refine wpZ_nil ?_
          replace H := RelT.toRel H
        all_goals
          simp only [Nd.av, ho, decide_true, decide_false]
          refine mS ?_
          refine wp_ret ?_; exact mEnd [] [1] [.cell 2 30, .tmp 3] [_, _] hN hR H
theorem readP_main (l : List UInt8) (hl : l.length ≤ 34359730000) (hs : ¬ l.length < 2) (hn : ¬ 256 < num 0 (l.take 2)) (hq : ¬ (l.drop 2).length < (num 0 (l.take 2) + 7) / 8) :
    VC Try.prog 47 [.bs l none] [] (.tup [(rdQ l).1.av, .v (.bool (rdQ l).2)]) := by
  refine (readPT_main l hl hs hn hq).lessT ⟨⟨⟨rfl, rfl⟩, sub_refl _ _, trivial⟩, sub_refl _ _, trivial⟩ ?_
  rfl
theorem readP_many (l : List UInt8) (hl : l.length ≤ 34359730000) (hs : ¬ l.length < 2) (hn : 256 < num 0 (l.take 2)) :
    VC Try.prog 47 [.bs l none] [] (.tup [(rdQ l).1.av, .v (.bool (rdQ l).2)]) := by
  rw [rdQ, if_neg hs, if_pos hn]
  have h1 := newRd_v l (by omega)
  have h2 := u16_ok l (by omega) (by omega)
  have hz2 := z32_len
  obtain ⟨n, hne⟩ : ∃ n, n = num 0 (l.take 2) := ⟨_, rfl⟩
  rw [← hne] at hn h2
  refine mE Try.func47 ?_; intro N w0 a w hN hR H
  simp only [rdv] at H h1 h2
  refine mW ?_; clear H; intro a w H
  refine mCall [] [] (h1) H ?_; clear H; intro a w H; try refine wpList_nil ?_
  refine mW ?_; clear H; intro a w H
  refine mCall [1] [] (h2) H ?_; clear H; intro a w H; try refine wpList_nil ?_
  refine mW ?_; clear H; intro a w H
  refine mC H (fun hb => ?_) (fun hb => ?_)
  · refine mW ?_; clear H; intro a w H
    simp only [Pf.av, Nd.av, Nd.zero, bas, List.map_nil]
    try simp only [hz] at H
    refine wp_ret ?_; exact mEnd [] [] [.cell 2 30, .tmp 3] [_, _] hN hR H
  · exfalso; simp at hb; omega
set_option maxRecDepth 20000 in
theorem readP_cut (l : List UInt8) (hl : l.length ≤ 34359730000) (hs : ¬ l.length < 2) (hn : ¬ 256 < num 0 (l.take 2)) (hq : (l.drop 2).length < (num 0 (l.take 2) + 7) / 8) :
    VC Try.prog 47 [.bs l none] [] (.tup [(rdQ l).1.av, .v (.bool (rdQ l).2)]) := by
  rw [rdQ, if_neg hs, if_neg hn, if_pos hq]
  have h1 := newRd_v l (by omega)
  have h2 := u16_ok l (by omega) (by omega)
  obtain ⟨n, hne⟩ : ∃ n, n = num 0 (l.take 2) := ⟨_, rfl⟩
  rw [← hne] at hn hq h2
  have h3 := take_bad (l.drop 2) ((n + 7) / 8) hq
  have hbt := bits_v n (by omega)
  have hsum := sum_length [0]
  have h4 := left_v true (l.drop 2)
  have h5 := take_was (l.drop 2) 0
  have hbd := bad_v true (l.drop 2)
  have hd := decode_v []
  have hdb : ¬ decOk [] := by simp [decOk]
  have hdl := z32_len
  rw [if_neg hdb, dec_bad hdb] at hd
  simp only [rdv, Nd.av, Nd.zero, if_true] at h1 h2 h3 h4 h5 hd hbd
  refine mE Try.func47 ?_; intro N w0 a w hN hR H
  refine mW ?_; clear H; intro a w H
  refine mCall [] [] (h1) H ?_; clear H; intro a w H; try refine wpList_nil ?_
  refine mW ?_; clear H; intro a w H
  refine mCall [1] [] (h2) H ?_; clear H; intro a w H; try refine wpList_nil ?_
  refine mW ?_; clear H; intro a w H
  refine mC H (fun hb => ?_) (fun hb => ?_)
  · exfalso; simp at hb; omega
  · refine mW ?_; clear H; intro a w H
    refine mCall [] [] (hbt) H ?_; clear H; intro a w H; try refine wpList_nil ?_
    refine mW ?_; clear H; intro a w H
    refine mCall [1] [] (h3) H ?_; clear H; intro a w H; try refine wpList_nil ?_
    refine mW ?_; clear H; intro a w H
    refine mCall [] [] (empty_v) H ?_; clear H; intro a w H; try refine wpList_nil ?_
    refine mW ?_; clear H; intro a w H
    replace H := mK [0, 2, 3, 4, 5, 6, 7, 8, 9] 4 0 hN hR H
    refine v_loop (fun _ : Nat => _) (fun _ => True) (fun _ => 0) 0 trivial H ?_
    clear H
    intro k a w hk H
    refine mW ?_; clear H; intro a w H
    refine mCallG [1] [] (hbd) H ?_; clear H; intro a w H; try refine wpList_nil ?_
    refine mW ?_; clear H; intro a w H
    refine mC H (fun hb => ?_) (fun hb => ?_)
    · simp at hb
    · refine mW ?_; clear H; intro a w H
      refine mCall [1] [] (h4) H ?_; clear H; intro a w H; try refine wpList_nil ?_
      refine mW ?_; clear H; intro a w H
      refine mCall [1] [] (h5) H ?_; clear H; intro a w H; try refine wpList_nil ?_
      refine mW ?_; clear H; intro a w H
      refine mCall [] [] (hd) H ?_; clear H; intro a w H; try refine wpList_nil ?_
      refine mW ?_; clear H; intro a w H
      replace H := mK [0, 2, 3, 4, 7, 12] 4 0 hN hR H
      have H := v_ref H 7 2 (Nat.le_trans hN (by decide)) rfl rfl rfl
      simp only [nilT, strip, List.map_cons, List.map_nil, reduceIte, Nat.reduceEqDiff] at H
      refine mS ?_; refine mD 0 [2, 8] [0, 5, 6, 7] H ?_; clear H; intro gS H; refine mT ?_; clear H; intro a w H
      refine mCallT [1] [] (hbd) H ?_; clear H; intro a w H
      refine mT ?_; clear H; intro a w H
      refine v_drawNil H ?_; clear H; intro H
      refine mW ?_; clear H; intro a w H
      simp only [Pf.av, Nd.av, Nd.zero, bas, List.map_nil]
      try simp only [hz] at H
      refine wp_ret ?_; exact mEnd [] [] [.cell 2 30, .tmp 3] [_, _] hN hR H
set_option maxRecDepth 20000 in
theorem readP_short (l : List UInt8) (hs : l.length < 2) :
    VC Try.prog 47 [.bs l none] [] (.tup [(rdQ l).1.av, .v (.bool (rdQ l).2)]) := by
  rw [rdQ, if_pos hs]
  have h1 := newRd_v l (by omega)
  have h2 := u16_bad l hs
  have h3 := take_was l 0
  have hbt := bits_v 0 (by decide)
  have hsum := sum_length [0]
  have h4 := left_v true l
  have hbd := bad_v true l
  have hd := decode_v []
  have hdb : ¬ decOk [] := by simp [decOk]
  have hdl := z32_len
  rw [if_neg hdb, dec_bad hdb] at hd
  simp only [rdv, Nd.av, Nd.zero, if_true] at h1 h2 h3 h4 hd hbd
  refine mE Try.func47 ?_; intro N w0 a w hN hR H
  refine mW ?_; clear H; intro a w H
  refine mCall [] [] (h1) H ?_; clear H; intro a w H; try refine wpList_nil ?_
  refine mW ?_; clear H; intro a w H
  refine mCall [1] [] (h2) H ?_; clear H; intro a w H; try refine wpList_nil ?_
  refine mW ?_; clear H; intro a w H
  refine mC H (fun hb => ?_) (fun hb => ?_)
  · simp at hb
  · refine mW ?_; clear H; intro a w H
    refine mCall [] [] (hbt) H ?_; clear H; intro a w H; try refine wpList_nil ?_
    refine mW ?_; clear H; intro a w H
    refine mCall [1] [] (h3) H ?_; clear H; intro a w H; try refine wpList_nil ?_
    refine mW ?_; clear H; intro a w H
    refine mCall [] [] (empty_v) H ?_; clear H; intro a w H; try refine wpList_nil ?_
    refine mW ?_; clear H; intro a w H
    replace H := mK [0, 2, 3, 4, 5, 6, 7, 8, 9] 4 0 hN hR H
    refine v_loop (fun _ : Nat => _) (fun _ => True) (fun _ => 0) 0 trivial H ?_
    clear H
    intro k a w hk H
    refine mW ?_; clear H; intro a w H
    refine mCallG [1] [] (hbd) H ?_; clear H; intro a w H; try refine wpList_nil ?_
    refine mW ?_; clear H; intro a w H
    refine mC H (fun hb => ?_) (fun hb => ?_)
    · simp at hb
    · refine mW ?_; clear H; intro a w H
      refine mCall [1] [] (h4) H ?_; clear H; intro a w H; try refine wpList_nil ?_
      refine mW ?_; clear H; intro a w H
      refine mCall [1] [] (h3) H ?_; clear H; intro a w H; try refine wpList_nil ?_
      refine mW ?_; clear H; intro a w H
      refine mCall [] [] (hd) H ?_; clear H; intro a w H; try refine wpList_nil ?_
      refine mW ?_; clear H; intro a w H
      replace H := mK [0, 2, 3, 4, 7, 12] 4 0 hN hR H
      have H := v_ref H 7 2 (Nat.le_trans hN (by decide)) rfl rfl rfl
      simp only [nilT, strip, List.map_cons, List.map_nil, reduceIte, Nat.reduceEqDiff] at H
      refine mS ?_; refine mD 0 [2, 8] [0, 5, 6, 7] H ?_; clear H; intro gS H; refine mT ?_; clear H; intro a w H
      refine mCallT [1] [] (hbd) H ?_; clear H; intro a w H
      refine mT ?_; clear H; intro a w H
      refine v_drawNil H ?_; clear H; intro H
      refine mW ?_; clear H; intro a w H
      simp only [Pf.av, Nd.av, Nd.zero, bas, List.map_nil]
      try simp only [hz] at H
      refine wp_ret ?_; exact mEnd [] [] [.cell 2 30, .tmp 3] [_, _] hN hR H
theorem readP_v (l : List UInt8) (hl : l.length ≤ 34359730000) : VC Try.prog 47 [.bs l none] [] (.tup [(rdQ l).1.av, .v (.bool (rdQ l).2)]) := by
  by_cases hs : l.length < 2
  · exact readP_short l hs
  · by_cases hn : 256 < num 0 (l.take 2)
    · exact readP_many l hl hs hn
    · by_cases hq : (l.drop 2).length < (num 0 (l.take 2) + 7) / 8
      · exact readP_cut l hl hs hn hq
      · exact readP_main l hl hs hn hq
end Go.Proofs.Ytnkeolokhcljpaa
/- Proofs as bytes: read, and told again. -/
namespace Go.Proofs.Ytnkeolokhcljpaa
open Go Go.RowKit
theorem cmp_zero : ∀ x y : List UInt8, Lib.compareBytes x y = 0 ↔ x = y
  | [], [] => by simp [Lib.compareBytes]
  | [], _ :: _ => by simp [Lib.compareBytes]
  | _ :: _, [] => by simp [Lib.compareBytes]
  | x :: l, y :: m => by
    have ih := cmp_zero l m
    simp only [Lib.compareBytes]
    split
    · rename_i h; simp only [List.cons.injEq]; constructor
      · intro e; cases e
      · rintro ⟨rfl, _⟩; exact absurd h (by simp)
    · split
      · rename_i h; simp only [List.cons.injEq]; constructor
        · intro e; cases e
        · rintro ⟨rfl, _⟩; exact absurd h (by simp)
      · rename_i h1 h2
        have : x = y := by
          apply UInt8.toNat_inj.1
          have h1 := h1; have h2 := h2
          simp [UInt8.lt_iff_toNat_lt] at h1 h2
          omega
        subst this; simpa using ih
def Pf.zero : Pf := ⟨[], .zero⟩
theorem pzero_wf : Pf.zero.wf := ⟨fun h hh => (by cases hh), zero_wf⟩
theorem rdQ_wf (l : List UInt8) : (rdQ l).1.wf := by
  unfold rdQ
  split
  · exact pzero_wf
  · split
    · exact pzero_wf
    · split
      · exact pzero_wf
      · dsimp only
        split
        · exact ⟨runS_w _ _, zero_wf⟩
        · exact ⟨runS_w _ _, dec_wf _⟩
def pOk (l : List UInt8) : Prop := (rdQ l).2 = true ∧ (rdQ l).1.chk = 0 ∧ (rdQ l).1.text = l
instance (l : List UInt8) : Decidable (pOk l) := inferInstanceAs (Decidable (_ ∧ _))
def pDec (l : List UInt8) : Pf := if pOk l then (rdQ l).1 else .zero
set_option maxRecDepth 20000 in
theorem decodeP_aux (l : List UInt8) (hl : l.length ≤ 34359730000) (q : Pf) (ok : Bool) (hw : q.wf) (h1 : VC Try.prog 47 [.bs l none] [] (.tup [q.av, .v (.bool ok)])) (r : Pf) (e : Int)
    (hr1 : ok = true ∧ q.chk = 0 ∧ q.text = l → r = q ∧ e = 0) (hr2 : ¬ (ok = true ∧ q.chk = 0 ∧ q.text = l) → r = .zero ∧ e = 10) : VC Try.prog 11 [.bs l none] [] (.tup [r.av, errv e]) := by
  have hz2 := z32_len
  obtain ⟨g1, g2, g3, g4⟩ := id hw.e
  refine mE Try.func11 ?_; intro N w0 a w hN hR H
  refine mW ?_; clear H; intro a w H
  simp only [Pf.av, Nd.av] at h1
  refine mCall [] [] (h1) H ?_; clear H; intro a w H; try refine wpList_nil ?_
  refine mW ?_; clear H; intro a w H
  cases ok
  · refine mC H (fun hb => ?_) (fun hb => ?_)
    · refine mW ?_; clear H; intro a w H
      obtain ⟨rfl, rfl⟩ := hr2 (fun h => by cases h.1)
      simp only [Pf.zero, Pf.av, Nd.av, Nd.zero, bas, List.map_nil]
      try simp only [hz] at H
      refine wp_ret ?_; exact mEnd [] [] [.cell 2 30, .tmp 3] [_, _] hN hR H
    · simp at hb
  · refine mC H (fun hb => ?_) (fun hb => ?_)
    · simp at hb
    · by_cases hc : q.chk = 0
      · have h2 := encodeP_ok q hw hc
        have h3 := compare_v q.text l
        have hz' := cmp_zero q.text l
        simp only [Pf.av, Nd.av] at h2
        refine mW ?_; clear H; intro a w H
        refine mCall [] [] (h2) H ?_; clear H; intro a w H; try refine wpList_nil ?_
        refine mW ?_; clear H; intro a w H
        refine mCallG [] [] (h3) H ?_; clear H; intro a w H; try refine wpList_nil ?_
        refine mW ?_; clear H; intro a w H
        refine mC H (fun hb => ?_) (fun hb => ?_)
        · obtain ⟨rfl, rfl⟩ := hr2 (fun h => by simp at hb; exact hb (hz'.2 h.2.2))
          refine mW ?_; clear H; intro a w H
          simp only [Pf.zero, Pf.av, Nd.av, Nd.zero, bas, List.map_nil]
          try simp only [hz] at H
          refine wp_ret ?_; exact mEnd [] [] [.cell 2 30, .tmp 3] [_, _] hN hR H
        · obtain ⟨rfl, rfl⟩ := hr1 ⟨rfl, hc, hz'.1 (by simpa using hb)⟩
          refine mW ?_; clear H; intro a w H
          simp only [Pf.av, Nd.av]
          refine wp_ret ?_; exact mEnd [] [] [.cell 2 30, .tmp 3] [_, _] hN hR H
      · have h2 := encodeP_bad q hw hc
        obtain ⟨rfl, rfl⟩ := hr2 (fun h => hc h.2.1)
        have h3 := compare_v [] l
        simp only [Pf.av, Nd.av] at h2
        refine mW ?_; clear H; intro a w H
        refine mCall [] [] (h2) H ?_; clear H; intro a w H; try refine wpList_nil ?_
        refine mW ?_; clear H; intro a w H
        refine mCallG [] [] (h3) H ?_; clear H; intro a w H; try refine wpList_nil ?_
        refine mW ?_; clear H; intro a w H
        refine mC H (fun hb => ?_) (fun hb => ?_)
        · refine mW ?_; clear H; intro a w H
          simp only [Pf.zero, Pf.av, Nd.av, Nd.zero, bas, List.map_nil]
          try simp only [hz] at H
          refine wp_ret ?_; exact mEnd [] [] [.cell 2 30, .tmp 3] [_, _] hN hR H
        · simp [hc] at hb
set_option maxRecDepth 20000 in
theorem decodePT_v (l : List UInt8) (hl : l.length ≤ 34359730000) (h : pOk l) : VC Try.prog 11 [.bs l none] [(26, (pDec l).s.length)] (.tup [.st [.sl (.ba 32) (bas (pDec l).s) (some 0), (pDec l).e.av], errv 0]) := by
  obtain ⟨k1, k2, k3⟩ := id h
  have hs : ¬ l.length < 2 := fun hh => by rw [rdQ, if_pos hh] at k1; cases k1
  have hn : ¬ 256 < num 0 (l.take 2) := fun hh => by rw [rdQ, if_neg hs, if_pos hh] at k1; cases k1
  have hq : ¬ (l.drop 2).length < (num 0 (l.take 2) + 7) / 8 := fun hh => by rw [rdQ, if_neg hs, if_neg hn, if_pos hh] at k1; cases k1
  have h1 := readPT_main l hl hs hn hq
  have hw := rdQ_wf l
  rw [pDec, if_pos h]
  have h2 := encodeP_ok (rdQ l).1 hw k2
  rw [k1] at h1
  rw [k3] at h2
  have h3 := compare_v l l
  have hz' := (cmp_zero l l).2 rfl
  rw [hz'] at h3
  obtain ⟨g1, g2, g3, g4⟩ := id hw.e
  generalize (rdQ l).1 = q at *
  obtain ⟨s, n⟩ := q
  dsimp only at h1 h2 g1 g2 g3 g4 ⊢
  simp only [Pf.av, Nd.av] at h1 h2
  refine mE Try.func11 ?_; intro N w0 a w hN hR H
  refine mW ?_; clear H; intro a w H
  refine mCall [] [] (h1) H ?_; clear H; intro a w H; try refine wpList_nil ?_
  refine mW ?_; clear H; intro a w H
  refine mC H (fun hb => ?_) (fun hb => ?_)
  · simp at hb
  · refine mW ?_; clear H; intro a w H
    refine mCall [] [] (h2) H ?_; clear H; intro a w H; try refine wpList_nil ?_
    refine mW ?_; clear H; intro a w H
    refine mCallG [] [] (h3) H ?_; clear H; intro a w H; try refine wpList_nil ?_
    refine mW ?_; clear H; intro a w H
    refine mC H (fun hb => ?_) (fun hb => ?_)
    · simp at hb
    · refine mW ?_; clear H; intro a w H
      simp only [Nd.av]
      refine wp_ret ?_; exact mEnd [] [0] [.cell 2 30, .tmp 3] [_, _] hN hR H
theorem decodeP_v (l : List UInt8) (hl : l.length ≤ 34359730000) : VC Try.prog 11 [.bs l none] [] (.tup [(pDec l).av, errv (if pOk l then 0 else 10)]) :=
  decodeP_aux l hl _ _ (rdQ_wf l) (readP_v l hl) _ _ (fun h => by have h : pOk l := h; rw [pDec, if_pos h, if_pos h]; exact ⟨rfl, rfl⟩) (fun h => by have h : ¬ pOk l := h; rw [pDec, if_neg h, if_neg h]; exact ⟨rfl, rfl⟩)
end Go.Proofs.Ytnkeolokhcljpaa
/- The digest at the top of a way: node.Up, and the document's. -/
namespace Go.Proofs.Ytnkeolokhcljpaa
open Go Go.RowKit
theorem chk_all {p : Pf} (h : p.chk = 0) : p.s.length ≤ 256 ∧ p.e.ok ∧ p.e.k ≠ 2 := by
  unfold Pf.chk at h
  split at h
  · cases h
  · split at h
    · rename_i h1 h2; exact ⟨by omega, h2⟩
    · cases h
end Go.Proofs.Ytnkeolokhcljpaa
/- The statements' kit: proofs compared and copied. -/
namespace Go.Proofs.Ytnkeolokhcljpaa
open Go Go.RowKit
theorem sameH_v (x y : List (List UInt8)) (hx : ∀ h ∈ x, h.length = 32) (hy : ∀ h ∈ y, h.length = 32) (hl : x.length ≤ 34359730000) : VC Try.prog 52 [.sl (.ba 32) (bas x) none, .sl (.ba 32) (bas y) none] [] (.v (.bool (decide (x = y)))) := by
  have hxl := bas_len x
  have hyl := bas_len y
  refine mE Try.func52 ?_; intro N w0 a w hN hR H
  refine mW ?_; clear H; intro a w H
  refine mC H (fun hb => ?_) (fun hb => ?_)
  · have hne : ¬ x = y := fun e => by rw [hxl, hyl, e] at hb; simp at hb
    rw [decide_eq_false hne]
    refine mW ?_; clear H; intro a w H
    refine wp_ret ?_; exact mEnd [] [] [.tmp 4] [_] hN hR H
  · have hll : x.length = y.length := by rw [hxl, hyl] at hb; simp at hb; omega
    have hX := And.intro @hxl (@hyl)
    refine mW ?_; clear H; intro a w H
    refine v_loop (fun k : Nat => ⟨[(5, none, .v (.int .i64 (k : Int))), (4, none, .v (.bool false)), (0, none, .sl (.ba 32) (bas x) none), (1, none, .sl (.ba 32) (bas y) none)], [], [], []⟩) (fun k => k ≤ x.length ∧ x.take k = y.take k) (fun k => x.length - k) 0 ⟨Nat.zero_le _, rfl⟩ (H.to 0 0 ⟨hN, hR⟩ ⟨rfl, rfl, rfl, rfl, trivial⟩ rfl rfl rfl rfl rfl) ?_
    clear H
    intro k a w hk H
    obtain ⟨hk, hkt⟩ := hk
    refine mW ?_; clear H; intro a w H
    refine mC H (fun hb => ?_) (fun hb => ?_)
    · have hlt : k < x.length := by simpa using hb
      have g1 := bas_get x k hlt
      have g2 := bas_get y k (by omega)
      have l1 := hx _ (List.getElem_mem hlt)
      have l2 := hy _ (List.getElem_mem (show k < y.length by omega))
      clear hX; have hX := And.intro @hxl (And.intro @hyl (And.intro @g1 (@g2)))
      refine mW ?_; clear H; intro a w H
      refine mS ?_; refine mD 0 [] [] H ?_; clear H; intro gS H
      refine mTN 3 hN H ?_; clear H; intro a w H; simp only [List.drop_succ_cons, List.drop_zero, List.drop_nil]
      refine mTN 4 hN H ?_; clear H; intro a w H; simp only [List.drop_succ_cons, List.drop_zero, List.drop_nil]
      refine mT ?_; clear H; intro a w H
      refine v_drawNil H ?_; clear H; intro H
      refine mC H (fun hb => ?_) (fun hb => ?_)
      · have hne : ¬ x = y := fun e => by subst e; simp at hb
        rw [decide_eq_false hne]
        refine mW ?_; clear H; intro a w H
        refine wp_ret ?_; exact mEnd [] [] [.tmp 4] [_] hN hR H
      · have he : x[k] = y[k]'(by omega) := by simpa using hb
        refine mW ?_; clear H; intro a w H
        exact ⟨k + 1, ⟨hlt, by rw [List.take_succ_eq_append_getElem hlt, List.take_succ_eq_append_getElem (show k < y.length by omega), hkt, he]⟩, by omega, H.to 0 0 ⟨hN, hR⟩ ⟨rfl, rfl, rfl, rfl, trivial⟩ rfl rfl rfl rfl rfl⟩
    · have hge : k = x.length := by simp at hb; omega
      subst hge
      have he : x = y := by rw [List.take_length, hll, List.take_length] at hkt; exact hkt
      rw [decide_eq_true he]
      clear hX
      refine mW ?_; clear H; intro a w H
      refine wp_ret ?_; exact mEnd [] [] [.tmp 4] [_] hN hR H
theorem copyH_v (l : List (List UInt8)) (hw : ∀ h ∈ l, h.length = 32) (hl : l.length ≤ 34359730000) : VC Try.prog 39 [.sl (.ba 32) (bas l) none] [(26, l.length)] (.sl (.ba 32) (bas l) (some 0)) := by
  have hbl := bas_len l
  refine mE Try.func39 ?_; intro N w0 a w hN hR H
  have hX := @hbl
  refine mW ?_; clear H; intro a w H
  simp only [List.replicate_zero, List.nil_append, List.length_nil, Nat.zero_add] at H
  refine wp_ret ?_; exact mEnd [] [0] [.tmp 2] [_] hN hR H
theorem sameP_eq (p q : List (List UInt8)) (n m : Nd) : (bif decide ((n.k.toNat : Int) = (m.k.toNat : Int)) && (decide (n.key = m.key) && (decide (n.v = m.v) && (decide (n.l = m.l) && decide (n.r = m.r)))) then decide (p = q) else false) = decide (Pf.mk p n = Pf.mk q m) := by
  obtain ⟨k1, a1, b1, c1, d1⟩ := n
  obtain ⟨k2, a2, b2, c2, d2⟩ := m
  have hk : ((k1.toNat : Int) = (k2.toNat : Int)) ↔ k1 = k2 := ⟨fun h => UInt8.toNat_inj.1 (by omega), fun h => by rw [h]⟩
  dsimp only
  by_cases h : (Pf.mk p ⟨k1, a1, b1, c1, d1⟩ = Pf.mk q ⟨k2, a2, b2, c2, d2⟩)
  · rw [decide_eq_true h]
    simp only [Pf.mk.injEq, Nd.mk.injEq] at h
    obtain ⟨rfl, rfl, rfl, rfl, rfl, rfl⟩ := h
    simp
  · rw [decide_eq_false h]
    rw [Bool.eq_false_iff]
    intro h2
    apply h
    rw [Bool.cond_eq_ite] at h2
    split at h2
    · rename_i h3
      simp only [Bool.and_eq_true, decide_eq_true_eq, hk] at h2 h3
      obtain ⟨rfl, rfl, rfl, rfl, rfl⟩ := h3
      rw [h2]
    · cases h2
set_option maxHeartbeats 1000000 in
theorem sameP_v (p q : Pf) (hp : p.wf) (hq : q.wf) (hl : p.s.length ≤ 34359730000) : VC Try.prog 16 [p.av, q.av] [] (.v (.bool (decide (p = q)))) := by
  have hs := sameH_v p.s q.s hp.s hq.s hl
  obtain ⟨p, n⟩ := p
  obtain ⟨q, m⟩ := q
  dsimp only at hs hl
  obtain ⟨g1, g2, g3, g4⟩ := id hp.e
  obtain ⟨f1, f2, f3, f4⟩ := id hq.e
  dsimp only at g1 g2 g3 g4 f1 f2 f3 f4
  refine mE Try.func16 ?_; intro N w0 a w hN hR H
  simp only [Pf.av, Nd.av] at H
  refine mW ?_; clear H; intro a w H
  refine mCallG [] [] (hs) H ?_; clear H; intro a w H; try refine wpList_nil ?_
  refine mW ?_; clear H; intro a w H
  rw [← sameP_eq] 
  refine wp_ret ?_; exact mEnd [] [] [.tmp 4] [_] hN hR H
end Go.Proofs.Ytnkeolokhcljpaa
/- node.Up of any proof; copies of proofs. -/
namespace Go.Proofs.Ytnkeolokhcljpaa
open Go Go.RowKit
theorem copyH0_v (l : List (List UInt8)) (hw : ∀ h ∈ l, h.length = 32) (hl : l.length ≤ 34359730000) : VC Try.prog 39 [.sl (.ba 32) (bas l) none] [] (.sl (.ba 32) (bas l) none) :=
  (copyH_v l hw hl).less1 rfl (fun az h => by cases h) ⟨rfl, rfl⟩ rfl
set_option maxRecDepth 20000 in
theorem copyPf_v (p : Pf) (hw : p.wf) (hl : p.s.length ≤ 34359730000) : VC Try.prog 6 [p.av] [] p.av := by
  have hc := copyH0_v p.s hw.s hl
  obtain ⟨g1, g2, g3, g4⟩ := id hw.e
  obtain ⟨s, n⟩ := p
  dsimp only at hc g1 g2 g3 g4
  refine mE Try.func6 ?_; intro N w0 a w hN hR H
  simp only [Pf.av, Nd.av] at H ⊢
  refine mW ?_; clear H; intro a w H
  replace H := v_ref H 1 0 (Nat.le_trans hN (by decide)) rfl rfl rfl
  simp only [nilT, strip, List.map_cons, List.map_nil, reduceIte, Nat.reduceEqDiff] at H
  refine mS ?_; refine mD 0 [2, 6] [3, 4] H ?_; clear H; intro gS H; refine mT ?_; clear H; intro a w H
  refine mCallT [] [] (hc) H ?_; clear H; intro a w H
  refine mT ?_; clear H; intro a w H
  refine v_drawNil H ?_; clear H; intro H
  refine wp_ret ?_; exact mEnd [] [] [.cell 2 30] [_] hN hR H
end Go.Proofs.Ytnkeolokhcljpaa
/- Bytes that were lent are as they were. -/
namespace Go.Proofs.Ytnkeolokhcljpaa
open Go Go.RowKit
set_option maxRecDepth 20000 in
theorem kept_v (l : List UInt8) (hl : l.length ≤ 34359738000) : VC Try.prog 17 [.bc (lentOf l) l.length none, .bs l none] [] (.v (.bool true)) := by
  have hll := lent_len l
  have e1 := lent_v l hl
  have h5 : ((l.length : Int) + 5).toNat = l.length + 5 := by omega
  have hT : (lentOf l).take (l.length + 5) = lentOf l := List.take_of_length_le (by omega)
  refine mE Try.func17 ?_; intro N w0 a w hN hR H
  refine mW ?_; clear H; intro a w H
  have hX := And.intro @h5 (And.intro @hT (And.intro @strOf_list (@beq_self_eq_true.{0})))
  refine mS ?_; refine mD 0 [6] [0, 1, 2, 3, 4, 7, 8, 9] H ?_; clear H; intro gS H; refine mT ?_; clear H; intro a w H
  refine mCallT [] [] (e1) H ?_; clear H; intro a w H
  refine mT ?_; clear H; intro a w H
  refine v_drawNil H ?_; clear H; intro H
  refine mW ?_; clear H; intro a w H
  refine wp_ret ?_; exact mEnd [] [] [.tmp 4] [_] hN hR H
end Go.Proofs.Ytnkeolokhcljpaa
/- The statements' kit: do lists share memory? -/
namespace Go.Proofs.Ytnkeolokhcljpaa
open Go Go.RowKit
attribute [local irreducible] wpT
/-- A slice, in its three parts. -/
abbrev SV := Option Addr × Nat × Nat
abbrev SV.v (x : SV) : Value := .slice x.1 x.2.1 x.2.2
theorem madeCells_row (z : Value) (n : Nat) : madeCells #[z] n = (List.replicate n z).toArray := by
  apply Array.ext
  · simp [madeCells]
  · intro i h1 h2; simp [madeCells, Nat.mod_one]
theorem own_same {α : Type} {E : El α} {a b : World} {base base' g : Nat} {v : Value} {xs sp : List α} (h : Own E a base v xs sp) (h' : Own E b base' v xs sp) (hg : v.ownBlock = some g) : b.heap[g]? = a.heap[g]? := by
  rcases h with ⟨rfl, _⟩ | ⟨g1, _, rfl, h1, _⟩
  · simp [Value.ownBlock] at hg
  · simp [Value.ownBlock] at hg; subst hg
    rcases h' with ⟨hv, _⟩ | ⟨g2, _, hv, h2, _⟩
    · cases hv
    · injection hv with e; injection e with e; injection e with e; subst e; exact h2.trans h1.symm
/-- A row, and what the list that names it says of it. -/
abbrev ARow := SV × List UInt8 × List UInt8 × TypeId
abbrev ARow.str (x : ARow) : Value := .string (strOf (x.2.1 ++ x.2.2.1))
/-- Rows that do not share memory. -/
structure Apart (w : World) (base : Nat) (L : List ARow) : Prop where
  own : ∀ i (hi : i < L.length), Own (byteT L[i].2.2.2) w base L[i].1.v L[i].2.1 L[i].2.2.1
  ne : ∀ i j (hi : i < L.length) (hj : j < L.length), i ≠ j → L[i].1.v.ownBlock = none ∨ L[i].1.v.ownBlock ≠ L[j].1.v.ownBlock
theorem Apart.below {w w' : World} {base : Nat} {L : List ARow} (h : Apart w base L) (hb : Below w.heap.size w w') : Apart w' base L :=
  ⟨fun i hi => (h.own i hi).belowSize hb, h.ne⟩
/-- The row is no list of slices. -/
theorem own_not {t : TypeId} {w : World} {base g i : Nat} {v : Value} {xs sp : List UInt8} (h : Own (byteT t) w base v xs sp) {x : SV} (hc : w.cell? ⟨g, i, none⟩ = some x.v) : v.ownBlock ≠ some g := by
  intro e
  rcases h with ⟨rfl, _⟩ | ⟨g1, _, rfl, h1, _⟩
  · simp [Value.ownBlock] at e
  · simp [Value.ownBlock] at e; subst e
    rw [h1.cell, byteT_all, List.getElem?_toArray, List.getElem?_map] at hc
    obtain ⟨a, _, ha⟩ := Option.map_eq_some_iff.1 hc; cases ha
/-- The whole row as a string: what the code's 'string(x[:cap(x)])' reads. -/
theorem own_str {w : World} {base : Nat} {x : ARow} (h : Own (byteT x.2.2.2) w base x.1.v x.2.1 x.2.2.1) : ∃ A m c, x.1.v = .slice A m c ∧ m ≤ c ∧ c ≤ maxLen ∧ (A = none → c = 0 ∧ m = 0) ∧
    ∀ W : World, Own (byteT x.2.2.2) W base x.1.v x.2.1 x.2.2.1 → (convert 31 9 (.slice A c c)).run Try.prog W = .ok x.str W := by
  rcases h with ⟨hv, h2, h3⟩ | ⟨g1, _, hv, h1, h2⟩
  · refine ⟨none, 0, 0, hv, Nat.le_refl _, by simp [maxLen], fun _ => ⟨rfl, rfl⟩, fun W _ => ?_⟩
    unfold ARow.str; rw [h2, h3]
    exact run_str (Rd.nil W 0 none) 0 0 rfl
  · refine ⟨_, _, _, hv, by omega, h2, fun e => (by cases e), fun W hW => ?_⟩
    refine run_str (B := W.heap.size) ?_ _ _ (by rw [List.length_append])
    rw [hv] at hW
    have hb := own_byteT hW
    exact Rd.of_blk hb hb.lt 0 fun j u hu => by rw [byteE_all] at hu; rw [Nat.zero_add]; simpa using hu
set_option maxRecDepth 100000 in
set_option maxHeartbeats 1600000 in
theorem apart_any (L : List ARow) (g o c base : Nat) (w : World) (hS : ∀ i (hi : i < L.length), w.cell? ⟨g, o + i, none⟩ = some L[i].1.v) (hg : g < w.heap.size) (hP : Apart w base L) (h0 : 0 < L.length) (hl : L.length ≤ 1099511627776) :
    Calls Try.prog 18 #[.slice (some ⟨g, o, none⟩) L.length c] w fun e w' => e = .returned (.bool true) ∧ Below w.heap.size w w' := by
  obtain ⟨n, hn⟩ : ∃ n, L.length = n := ⟨_, rfl⟩
  have km := fun W : World => run_make_row' (P := Try.prog) 101 9 (.string ⟨#[]⟩) 16 Try.underlying101 (by kernel_rfl) rfl .i64 .i64 n (by omega) (by omega) W
  have hgne : ∀ i (hi : i < L.length), L[i].1.v.ownBlock ≠ some g := fun i hi => own_not (hP.own i hi) (hS i hi)
  have HP := Lib.hid hP; have HS := Lib.hid hS; have HG := Lib.hid hgne; clear hP hS hgne
  rw [hn] at h0 hl ⊢
  have HN := Lib.hid hn; clear hn
  go_enter Try.func18, Try.ntmps18
  go_wp2
  go_loopw [3] (fun v wr => ∃ i : Nat, i ≤ n ∧ v = .int .i64 (i : Int) ∧ Below w.heap.size w wr) (fun v _ => n - (intOf v).toNat)
  case atStart => exact ⟨0, by omega, rfl, Below.refl _ _⟩
  case round =>
    obtain ⟨i, hi, rfl, hb⟩ := hrel
    obtain ⟨wo, rfl⟩ : ∃ wo : World, wo = wr := ⟨_, rfl⟩
    have HB := Lib.hid hb; clear hb
    by_cases hlt : i < n
    · have hiL : i < L.length := by rw [HN.out]; exact hlt
      have hw0 : w.heap.size ≤ wo.heap.size := HB.out.size
      have PO := Lib.hid (HP.out.below HB.out)
      have SO : Hid (∀ j (hj : j < L.length), wo.cell? ⟨g, o + j, none⟩ = some L[j].1.v) := fun j hj => (World.cell?_of_block (a := ⟨g, o + j, none⟩) (HB.out.block g hg)).trans (HS.out j hj)
      obtain ⟨Ai, mi, ci, hvi, -, -, -, -⟩ := own_str (PO.out.own i hiL)
      have HVI := Lib.hid hvi; clear hvi
      go_wp2
      rw [madeCells_row]
      have B0 : Hid (Blk (wo.alloc (Obj.cells (List.replicate n (Value.string ⟨#[]⟩)).toArray 9)) wo.heap.size 9 (List.replicate n (Value.string ⟨#[]⟩)).toArray) := Blk.new _ _ _
      have L0 := Lib.hid ((Below.refl wo.heap.size wo).alloc (Nat.le_refl _) (Obj.cells (List.replicate n (Value.string ⟨#[]⟩)).toArray 9))
      go_loopw [5] (fun v wr => ∃ k : Nat, k ≤ n ∧ v = .int .i64 (k : Int) ∧ Blk wr wo.heap.size 9 ((L.take k).map ARow.str ++ List.replicate (n - k) (Value.string ⟨#[]⟩)).toArray ∧ Below wo.heap.size wo wr) (fun v _ => n - (intOf v).toNat)
      case atStart => exact ⟨0, by omega, rfl, by simpa using B0.out, L0.out⟩
      case round =>
        clear B0 L0
        obtain ⟨k, hk, rfl, b1, b2⟩ := hrel
        have B1 := Lib.hid b1; have B2 := Lib.hid b2; clear b1 b2
        by_cases hlt2 : k < n
        · have hkL : k < L.length := by rw [HN.out]; exact hlt2
          obtain ⟨Ak, mk, ck, hvk, hm1, hm2, hm3, hsk⟩ := own_str ((PO.out.below B2.out).own k hkL)
          have k1 := hsk wr.drew ((PO.out.below B2.out).own k hkL)
          have c1 : wr.cell? ⟨g, o + k, none⟩ = some (.slice Ak mk ck) := by rw [← hvk]; exact (World.cell?_of_block (a := ⟨g, o + k, none⟩) (B2.out.block g (by omega))).trans (SO.out k hkL)
          have ht : ((L.take k).map ARow.str).length = k := by rw [List.length_map, List.length_take]; omega
          have c2 : wr.cell? ⟨wo.heap.size, k, none⟩ = some (Value.string ⟨#[]⟩) := by
            rw [B1.out.cell, List.getElem?_toArray, List.getElem?_append_right (by omega), ht, Nat.sub_self]
            rw [List.getElem?_replicate, if_pos (by omega)]
          have c3 := B1.out.free k
          have hn2 : Blk (wr.drew.setCell ⟨wo.heap.size, k, none⟩ L[k].str) wo.heap.size 9 ((L.take (k + 1)).map ARow.str ++ List.replicate (n - (k + 1)) (Value.string ⟨#[]⟩)).toArray := by
            have := B1.out.drew.put k L[k].str
            have e : ((L.take k).map ARow.str ++ List.replicate (n - k) (Value.string ⟨#[]⟩)).toArray.setIfInBounds k L[k].str = ((L.take (k + 1)).map ARow.str ++ List.replicate (n - (k + 1)) (Value.string ⟨#[]⟩)).toArray := by
              apply Array.toList_inj.1
              rw [Array.toList_setIfInBounds, List.take_succ_eq_append_getElem hkL]
              simp only [List.map_append, List.map_cons, List.map_nil]
              rw [List.set_append_right _ _ (by rw [ht]; exact Nat.le_refl _), ht, Nat.sub_self, show n - k = (n - (k + 1)) + 1 by omega, List.replicate_succ]
              simp
            rw [e] at this; exact this
          have N2 := Lib.hid hn2
          have N3 := Lib.hid (below_putAt (B2.out.drew) (b := wo.heap.size) (i := k) (Nat.le_refl _) L[k].str)
          unfold ARow.str at k1
          have e1 : L[k].str = .string (strOf (L[k].2.1 ++ L[k].2.2.1)) := rfl
          rw [e1] at N2 N3
          generalize L[k].2.1 ++ L[k].2.2.1 = bs at k1 N2 N3 e1
          clear hn2 hvk hsk e1 ht
          cases Ak with
          | none =>
            obtain ⟨rfl, rfl⟩ := hm3 rfl
            go_wp2
            refine wp_region_T [14] [] (fun _ => True) (by kernel_rfl) (by kernel_rfl) trivial ?_
            repeat (first
              | (refine wpT_skip (by rfl) ?_; go_simp)
              | (refine wpT_here (by rfl) (by rfl) (by rfl) (fun K hK => ?_); go_big_quiet_op; refine hK _ ?_; clear hK K)
              | (refine wpT_loud (by rfl) (by rfl) (fun K hK => ?_); go_big_op; refine hK _ _ trivial ?_; clear hK K))
            refine wpT_nil ?_
            go_wp2
            go_roundw
            case rel => exact ⟨k + 1, by omega, by go_num, N2.out, N3.out⟩
            case measure => simp [intOf]; omega
          | some a =>
            go_wp2
            refine wp_region_T [14] [] (fun _ => True) (by kernel_rfl) (by kernel_rfl) trivial ?_
            repeat (first
              | (refine wpT_skip (by rfl) ?_; go_simp)
              | (refine wpT_here (by rfl) (by rfl) (by rfl) (fun K hK => ?_); go_big_quiet_op; refine hK _ ?_; clear hK K)
              | (refine wpT_loud (by rfl) (by rfl) (fun K hK => ?_); go_big_op; refine hK _ _ trivial ?_; clear hK K))
            refine wpT_nil ?_
            go_wp2
            go_roundw
            case rel => exact ⟨k + 1, by omega, by go_num, N2.out, N3.out⟩
            case measure => simp [intOf]; omega
        · obtain rfl : k = n := by omega
          have c1 : wr.cell? ⟨g, o + i, none⟩ = some (.slice Ai mi ci) := by rw [← HVI.out]; exact (World.cell?_of_block (a := ⟨g, o + i, none⟩) (B2.out.block g (by omega))).trans (SO.out i hiL)
          have o1 := (PO.out.below B2.out).own i hiL
          rw [HVI.out] at o1
          have O1 := Lib.hid o1; clear o1
          go_wp2_with (go_at_call 53; refine (over_any _ _ _ _ _ O1.out).mono ?_; rintro e w1 ⟨rfl, hO1, hg1⟩; have O2 := Lib.hid hO1; have G1 := Lib.hid hg1; clear hO1 hg1; dsimp only)
          obtain ⟨wp, rfl⟩ : ∃ wp : World, wp = wr := ⟨_, rfl⟩
          have hlo : ∀ r, (Value.slice Ai mi ci).ownBlock = some r → r < wo.heap.size := fun r hr => by
            have := (PO.out.own i hiL).lt (g := r) (by rw [HVI.out]; exact hr); exact this.2
          have b1 : Blk w1 wo.heap.size 9 (L.map ARow.str).toArray := by
            have := (B1.out.grown G1.out fun e => by have := hlo _ e.symm; omega)
            rw [List.take_of_length_le (by rw [HN.out]; exact Nat.le_refl _), Nat.sub_self, List.replicate_zero, List.append_nil] at this; exact this
          have hsz : wo.heap.size ≤ wp.heap.size := B2.out.size
          have hsz1 : wp.heap.size ≤ w1.heap.size := G1.out.size
          have hgi : (Value.slice Ai mi ci).ownBlock ≠ some g := by have := HG.out i hiL; rw [HVI.out] at this; exact this
          have cell1 : ∀ j (hj : j < L.length), w1.cell? ⟨g, o + j, none⟩ = some L[j].1.v := fun j hj =>
            (World.cell?_of_block (a := ⟨g, o + j, none⟩) (G1.out.block g (by omega) (fun e => hgi e.symm))).trans ((World.cell?_of_block (a := ⟨g, o + j, none⟩) (B2.out.block g (by omega))).trans (SO.out j hj))
          have C1 := Lib.hid cell1; have S1 := Lib.hid b1; clear cell1 b1
          have own1 : ∀ j (hj : j < L.length), j ≠ i → Own (byteT L[j].2.2.2) w1 base L[j].1.v L[j].2.1 L[j].2.2.1 := fun j hj hne => by
            refine ((PO.out.below B2.out).own j hj).grown G1.out ?_
            rcases HP.out.ne j i hj hiL hne with h | h
            · exact .inl h
            · exact .inr (by rw [HVI.out] at h; exact h)
          have W1 := Lib.hid own1; clear own1
          clear c1 B1
          go_loopw [6] (fun v wr => ∃ q : Nat, q ≤ k ∧ v = .int .i64 (q : Int) ∧ Below w1.heap.size w1 wr) (fun v _ => k - (intOf v).toNat)
          case atStart => exact ⟨0, by omega, rfl, Below.refl _ _⟩
          case round =>
            obtain ⟨q, hq, rfl, b2⟩ := hrel
            have B3 := Lib.hid b2; clear b2
            by_cases hlt3 : q < k
            · by_cases hqi : q = i
              · subst hqi
                go_wp2
                refine wp_region_T [] [] (fun _ => True) (by kernel_rfl) (by kernel_rfl) trivial ?_
                repeat (first
                  | (refine wpT_skip (by rfl) ?_; go_simp)
                  | (refine wpT_here (by rfl) (by rfl) (by rfl) (fun K hK => ?_); go_big_quiet_op; refine hK _ ?_; clear hK K)
                  | (refine wpT_loud (by rfl) (by rfl) (fun K hK => ?_); go_big_op; refine hK _ _ trivial ?_; clear hK K))
                refine wpT_nil ?_
                go_wp2
                go_roundw
                case rel => exact ⟨q + 1, by omega, by go_num, B3.out.drew⟩
                case measure => simp [intOf]; omega
              · have hqL : q < L.length := by rw [HN.out]; exact hlt3
                have oq := (W1.out q hqL hqi).belowSize B3.out
                obtain ⟨Ak, mk, ck, hvk, hm1, hm2, hm3, hsk⟩ := own_str oq
                have k1 := hsk wr.drew oq
                have c1 : wr.cell? ⟨g, o + q, none⟩ = some (.slice Ak mk ck) := by rw [← hvk]; exact (World.cell?_of_block (a := ⟨g, o + q, none⟩) (B3.out.block g (by omega))).trans (C1.out q hqL)
                have c2 : wr.cell? ⟨wo.heap.size, q, none⟩ = some L[q].str := by
                  rw [(S1.out.below B3.out S1.out.lt).cell, List.getElem?_toArray, List.getElem?_map, List.getElem?_eq_getElem hqL]; rfl
                have hne : ((q : Int) != (i : Int)) = true := by simp; omega
                unfold ARow.str at k1 c2
                generalize strOf (L[q].2.1 ++ L[q].2.2.1) = bs at k1 c2
                clear oq hvk hsk
                cases Ak with
                | none =>
                  obtain ⟨rfl, rfl⟩ := hm3 rfl
                  go_wp2
                  refine wp_region_T [] [] (fun _ => True) (by kernel_rfl) (by kernel_rfl) trivial ?_
                  repeat (first
                    | (refine wpT_skip (by rfl) ?_; go_simp)
                    | (refine wpT_here (by rfl) (by rfl) (by rfl) (fun K hK => ?_); go_big_quiet_op; refine hK _ ?_; clear hK K)
                    | (refine wpT_loud (by rfl) (by rfl) (fun K hK => ?_); go_big_op; refine hK _ _ trivial ?_; clear hK K))
                  refine wpT_nil ?_
                  go_wp2
                  go_roundw
                  case rel => exact ⟨q + 1, by omega, by go_num, B3.out.drew⟩
                  case measure => simp [intOf]; omega
                | some a =>
                  go_wp2
                  refine wp_region_T [] [] (fun _ => True) (by kernel_rfl) (by kernel_rfl) trivial ?_
                  repeat (first
                    | (refine wpT_skip (by rfl) ?_; go_simp)
                    | (refine wpT_here (by rfl) (by rfl) (by rfl) (fun K hK => ?_); go_big_quiet_op; refine hK _ ?_; clear hK K)
                    | (refine wpT_loud (by rfl) (by rfl) (fun K hK => ?_); go_big_op; refine hK _ _ trivial ?_; clear hK K))
                  refine wpT_nil ?_
                  go_wp2
                  go_roundw
                  case rel => exact ⟨q + 1, by omega, by go_num, B3.out.drew⟩
                  case measure => simp [intOf]; omega
            · obtain rfl : q = k := by omega
              have c1 : wr.cell? ⟨g, o + i, none⟩ = some (.slice Ai mi ci) := by rw [← HVI.out]; exact (World.cell?_of_block (a := ⟨g, o + i, none⟩) (B3.out.block g (by omega))).trans (C1.out i hiL)
              have O3 := Lib.hid (O2.out.belowSize B3.out)
              have hsz2 : w1.heap.size ≤ wr.heap.size := B3.out.size
              go_wp2_with (go_at_call 53; refine (over_any _ _ _ _ _ O3.out).mono ?_; rintro e w4 ⟨rfl, hO4, hg4⟩; have O4 := Lib.hid hO4; have G4 := Lib.hid hg4; clear hO4 hg4; dsimp only)
              go_roundw
              case rel =>
                refine ⟨i + 1, by omega, by go_num, ?_⟩
                have o4 := O4.out
                rw [map_over_over, map_over_over] at o4
                refine ⟨?_, ?_, ?_, ?_, ?_⟩
                · rw [G4.out.os, B3.out.os, G1.out.os, B2.out.os, HB.out.os]
                · rw [G4.out.tape, B3.out.tape, G1.out.tape, B2.out.tape, HB.out.tape]
                · rw [G4.out.output, B3.out.output, G1.out.output, B2.out.output, HB.out.output]
                · have := G4.out.size; omega
                · intro r hr
                  by_cases hri : (Value.slice Ai mi ci).ownBlock = some r
                  · rw [own_same O1.out o4 hri, B2.out.block r (by omega), HB.out.block r hr]
                  · rw [G4.out.block r (by omega) (fun e => hri e.symm), B3.out.block r (by omega), G1.out.block r (by omega) (fun e => hri e.symm), B2.out.block r (by omega), HB.out.block r hr]
              case measure => simp [intOf]; omega
    · obtain rfl : i = n := by omega
      go_wp2
      go_ret
      exact ⟨rfl, HB.out⟩
end Go.Proofs.Ytnkeolokhcljpaa
/- ApartBytes of slices that own their memory, written out where they are asked about; guards that are known to hold. -/
namespace Go.Proofs.Ytnkeolokhcljpaa
open Go Go.RowKit
section
variable {P : Program} {τ : Tab} {w0 w : World} {N : Gh} {g gS : Gh} {st st' sq sq' : St} {nt : Nat} {a : Act}
def akey : AV → Nat
  | .bs _ (some k) => 2 * k + 1
  | .bc _ _ (some i) => 2 * i + 2
  | .vw i _ _ => 2 * i + 2
  | _ => 0
def aokP (st : St) : AV → Prop
  | .bs l (some k) => st.rw[k]? = some (5, l.length)
  | .bc _ _ (some i) => ∃ m l', st.bx[i]? = some (.ba m, .ba l')
  | .v (.slice none 0 0) => True
  | .vw i γ n => ∃ l, st.bx[i]? = some (.vc 5 .sc, .vb γ l) ∧ n ≤ l.length
  | _ => False
def allQ (p : AV → Prop) : List AV → Prop
  | [] => True
  | x :: l => p x ∧ allQ p l
theorem zero_u8 : zeroOf Try.prog 5 = [.int .u8 0] := by kernel_rfl
theorem flat_z (m : Nat) : (List.replicate m [Value.int .u8 0]).flatten = (List.replicate m (0 : UInt8)).map B8 := by
  induction m with
  | zero => rfl
  | succ m ih => rw [List.replicate_succ, List.flatten_cons, ih, List.replicate_succ]; rfl
theorem own_av (HI : Inv Try.prog w0 N g st.bx st.fz st.rw w) {x : AV} {v : Value} (hr : RV g x v) (hok : aokP st x) :
    ∃ (sv : SV) (l sp : List UInt8) (t : TypeId), v = sv.v ∧ Own (byteT t) w 0 v l sp ∧ (v.ownBlock = none ∨ (∃ k r, akey x = 2 * k + 1 ∧ g.rw[k]? = some r ∧ r.v.ownBlock = v.ownBlock) ∨ ∃ i y, akey x = 2 * i + 2 ∧ g.bx[i]? = some y ∧ y.off = false ∧ some y.blk = v.ownBlock) := by
  cases x with
  | v u =>
    have hu : u = .slice none 0 0 := by
      unfold aokP at hok
      split at hok
      · rename_i e; cases e
      · rename_i e; cases e
      · rename_i e; injection e
      · rename_i e; cases e
      · exact hok.elim
    have := hr.v_inv
    subst this hu
    exact ⟨(none, 0, 0), [], [], 5, rfl, .inl ⟨rfl, rfl, rfl⟩, .inl rfl⟩
  | bs l tok =>
    cases tok with
    | none => exact hok.elim
    | some k =>
      have hok' : st.rw[k]? = some (5, l.length) := hok
      have h1 := hr.bs_inv
      cases h1 with
      | bs hc hm hr' ht =>
        obtain ⟨r, hrk, _, h3⟩ := ht k rfl
        have hw : (r.tid, r.n) = (5, l.length) := by
          have := HI.wr
          rw [← this, List.getElem?_map, hrk] at hok'
          injection hok'
        simp only [Prod.mk.injEq] at hw
        obtain ⟨hv, hcx⟩ := h3 hw.2
        have hz := HI.wz r (List.mem_of_getElem? hrk)
        rename_i A c _
        refine ⟨(A, l.length, c), l, List.replicate r.m 0, 5, rfl, ?_, .inr (.inl ⟨k, r, rfl, hrk, by rw [hv]⟩)⟩
        have hrow := HI.mem.rw k r hrk
        have hno : noughts r = (List.replicate r.m (0 : UInt8)).map B8 := by
          unfold noughts; rw [hz.2, hw.1, zero_u8]; exact flat_z _
        rcases hrow.at_ with ⟨e1, e2, e3⟩ | ⟨b, e1, e2, e3⟩
        · rw [hv] at e1
          injection e1 with e4 e5 e6
          subst e4 e6
          refine .inl ⟨by rw [e5], List.length_eq_zero_iff.1 e5, by rw [e3]; rfl⟩
        · rw [hv] at e1
          injection e1 with e4 e5 e6
          subst e4
          rw [hw.2] at e6 e3
          refine .inr ⟨b, Nat.zero_le _, ?_, ?_, by simp; exact e3⟩
          · rw [e6]; simp
          · rw [hcx, hno, hw.1] at e2
            show Blk w b 5 _
            rw [byteT_all, List.map_append]; exact e2
  | bc full n tok =>
    cases tok with
    | none => exact hok.elim
    | some i =>
      obtain ⟨m, l', hbx⟩ := (show ∃ m l', st.bx[i]? = some (.ba m, .ba l') from hok)
      have h1 := hr.bc_inv
      cases h1 with
      | bc hn hm hr' ht =>
        rename_i A
        obtain ⟨y, hy, hA, hty⟩ := ht i rfl
        obtain ⟨y', hy', hT, hrc⟩ := HI.br.at_ i _ _ hbx
        rw [hy] at hy'
        injection hy' with hy'
        subst hy'
        rw [hty] at hT
        injection hT with hT
        obtain ⟨hyo, hym, hrc⟩ := hrc.rc rfl
        have hblk := (HI.mem.bx i y hy hyo).c hym
        have hcells : y.cells = l'.map B8 ∧ l'.length = m := by
          generalize hcs : y.cells = cs at hrc
          cases hrc with
          | ba h => exact ⟨rfl, h⟩
        have hll : l'.length = full.length := by rw [hcells.2, hT]
        have hfl : l' = full := by
          apply List.ext_getElem hll
          intro j hj1 hj2
          rcases hr' with h | ⟨b, o, hb, hj⟩
          · subst h; simp at hj2
          · rw [hA] at hb
            injection hb with hb
            injection hb with hb1 hb2
            have h5 := HI.mem.ro _ _ _ (hj j hj2)
            rw [← hb1, ← hb2, Nat.zero_add, hblk.cell, hcells.1] at h5
            simp only [List.getElem?_toArray, List.getElem?_map, List.getElem?_eq_getElem hj1, Option.map_some, Option.some.injEq] at h5
            have h6 : B8 l'[j] = B8 full[j] := h5
            simp only [B8, Value.int.injEq, true_and] at h6
            exact UInt8.toNat_inj.1 (by omega)
        subst hfl
        refine ⟨(A, n, l'.length), l'.take n, l'.drop n, y.tid, rfl, ?_, .inr (.inr ⟨i, y, rfl, hy, hyo, by rw [hA]; rfl⟩)⟩
        have e1 : (l'.take n).length = n := by rw [List.length_take]; omega
        refine .inr ⟨y.blk, Nat.zero_le _, ?_, ?_, by rw [e1, List.length_drop]; omega⟩
        · rw [hA, e1, List.length_drop, show n + (l'.length - n) = l'.length by omega]
        · show Blk w y.blk y.tid _
          rw [byteT_all, List.take_append_drop, ← hcells.1]; exact hblk
  | vw i γ n =>
    obtain ⟨l, hbx, hn⟩ := (show ∃ l, st.bx[i]? = some (.vc 5 .sc, .vb γ l) ∧ n ≤ l.length from hok)
    obtain ⟨_, y, e9, T9, A, c, e1, hy, hty, hle, hnc, hm, hxx⟩ := hr.vw_inv.vw_inv
    injection e1 with e1; subst e1
    obtain ⟨y', hy', hyT, hbc⟩ := HI.br.at_ i _ _ hbx
    rw [hy] at hy'; injection hy' with hy'; subst hy'
    obtain ⟨l2, ⟨e4, he4, htid⟩, hmp, hgen, hcm, hcs, hcl⟩ := hbc.vb_inv
    injection he4 with he40; subst he40
    obtain ⟨hcc, hA⟩ := hxx hgen
    have hll : l.length + l2.length = c := by rw [hcc, ← hcl, hcs, List.length_map, List.length_append]
    have e5 : (l.take n).length = n := by rw [List.length_take]; omega
    refine ⟨(A, n, c), l.take n, l.drop n ++ l2, 5, rfl, ?_, ?_⟩
    · rcases hA with ⟨ho, rfl⟩ | ⟨ho, rfl⟩
      · have := hcm.2 ho
        have h2 : l = [] := List.length_eq_zero_iff.1 (by omega)
        have h3 : l2 = [] := List.length_eq_zero_iff.1 (by omega)
        subst h2 h3
        refine .inl ⟨?_, by simp, by simp⟩
        rw [show c = 0 by omega, show n = 0 by simpa using hn]
      · refine .inr ⟨y.blk, Nat.zero_le _, ?_, ?_, ?_⟩
        · rw [e5, List.length_append, List.length_drop, show n + (l.length - n + l2.length) = c by omega]
        · rw [byteT_all, ← List.append_assoc, List.take_append_drop, ← hcs]
          have := (HI.mem.bx i y hy ho).c hmp
          rw [htid] at this
          exact this
        · rw [e5, List.length_append, List.length_drop]; omega
    · rcases hA with ⟨ho, rfl⟩ | ⟨ho, rfl⟩
      · exact .inl rfl
      · exact .inr (.inr ⟨i, y, rfl, hy, ho, rfl⟩)
  | _ => exact hok.elim
theorem fill_ok {z : Value} : ∀ (vs pre : List Value), (∀ v ∈ vs, v.cells = #[v]) → Instr.fill (fun i => some (i * 1, 1)) (pre ++ List.replicate vs.length z).toArray ((vs.zipIdx pre.length).map fun p => (p.2, p.1)) = some (pre ++ vs).toArray
  | [], pre, _ => by simp [Instr.fill]
  | v :: vs, pre, h => by
    have hv := h v List.mem_cons_self
    have ih := fill_ok (z := z) vs (pre ++ [v]) fun u hu => h u (List.mem_cons_of_mem _ hu)
    have e : (#[v].zipIdx.foldl (fun cs (p : Value × Nat) => cs.setIfInBounds (pre.length * 1 + p.2) p.1) (pre ++ List.replicate (v :: vs).length z).toArray) = (pre ++ [v] ++ List.replicate vs.length z).toArray := by
      apply Array.toList_inj.1
      simp [List.replicate_succ]
    rw [List.length_append, List.length_singleton] at ih
    simp only [List.zipIdx_cons, List.map_cons]
    unfold Instr.fill
    dsimp only
    rw [hv, if_neg (by simp)]
    rw [e, ih]
    simp
theorem run_bsl (vs : List Value) (hv : ∀ v ∈ vs, v.cells = #[v]) (h0 : 0 < vs.length) (hn : vs.length ≤ 1000) (w : World) :
    (Instr.buildSlice 50 vs.length ((vs.zipIdx.map fun p => (p.2, p.1)).toArray)).run Try.prog w = .ok (.slice (some ⟨w.heap.size, 0, none⟩) vs.length vs.length) (w.alloc (.cells vs.toArray 31)) := by
  have hs : (sizeOf 31).run Try.prog w = .ok 1 w := (Tab.get_ok tab_ok (t := 31) (i := ti31) rfl).sizeOf w
  have hz : (zeroValue 31).run Try.prog w = .ok (.slice none 0 0) w := by kernel_rfl
  have hf := fill_ok (z := .slice none 0 0) vs [] hv
  simp only [List.nil_append, List.length_nil] at hf
  unfold Instr.buildSlice
  simp only [Sem.run_bind, run_underlying Try.underlying50, Result.andThen_ok, hs]
  rw [show vs.length * 1 = vs.length from Nat.mul_one _]
  have e : ((Array.range vs.length).map fun i => (Value.slice none 0 0).cells[i % (Value.slice none 0 0).cells.size]!) = (List.replicate vs.length (Value.slice none 0 0)).toArray := by
    apply Array.ext
    · simp
    · intro i h1 h2; simp [Value.cells, Nat.mod_one]
  have hf' : Instr.fill (fun i => some (i * 1, 1)) ((Array.range vs.length).map fun i => (Value.slice none 0 0).cells[i % (Value.slice none 0 0).cells.size]!) (((vs.zipIdx.map fun p => (p.2, p.1)).toArray).toList) = some vs.toArray := by
    rw [e]; exact hf
  rw [if_neg (by omega), if_neg (by omega)]
  simp only [Sem.run_bind, hz, Result.andThen_ok, Sem.run_pure, hf']
  simp [newRow]
theorem mk_rows (HI : Inv Try.prog w0 N g st.bx st.fz st.rw w) (hF : FR g nt st a) : ∀ xs : List Operand, allQ (aokP st) (xs.map (st.ev none)) →
    ∃ L : List ARow, L.length = xs.length ∧ ∀ (i : Nat) x (r : ARow), xs[i]? = some x → L[i]? = some r → a.eval x = r.1.v ∧ Own (byteT r.2.2.2) w 0 r.1.v r.2.1 r.2.2.1 ∧
      (r.1.v.ownBlock = none ∨ (∃ k q, akey (st.ev none x) = 2 * k + 1 ∧ g.rw[k]? = some q ∧ q.v.ownBlock = r.1.v.ownBlock) ∨ ∃ i y, akey (st.ev none x) = 2 * i + 2 ∧ g.bx[i]? = some y ∧ y.off = false ∧ some y.blk = r.1.v.ownBlock)
  | [], _ => ⟨[], rfl, fun i x r h => by simp at h⟩
  | x :: xs, h => by
    obtain ⟨L, h1, h2⟩ := mk_rows HI hF xs h.2
    obtain ⟨sv, l, sp, t, e1, e2, e3⟩ := own_av HI (ev_sound hF (c := none) trivial x) h.1
    refine ⟨(sv, l, sp, t) :: L, by simp [h1], fun i y r hy hr => ?_⟩
    cases i with
    | zero =>
      simp only [List.getElem?_cons_zero, Option.some.injEq] at hy hr
      subst hy hr
      rw [e1] at e2 e3
      exact ⟨e1, e2, e3⟩
    | succ i => exact h2 i y r (by simpa using hy) (by simpa using hr)
/-- A list of slices is written out, and asked whether they share memory: they don't. -/
theorem v_apart {ops : Array Oper} {Q : Exit → Act → World → Prop} {rest : List Oper} {o1 o2 : Oper} {d : Nat} {xs : List Operand} {ks : List Nat} {ats : Array TypeId} (H : Rel Try.prog w0 N nt st a w) (h1 : o1.guard = none) (h2 : o2.guard = none ∨ ∃ t b, gdOf ops o2 = some (some (t, b)) ∧ st.tmp none t = .v (.bool b) ∧ t ≠ d) (hd : o1.dst = some d) (hdn : d < nt)
    (ho1 : o1.op = .buildSlice 50 xs.length ((xs.zipIdx.map fun p => (p.2, p.1)).toArray)) (ho2 : o2.op = .call ⟨.value (.func 18), #[.tmp d], ats⟩) (hq : allQ (aokP st) (xs.map (st.ev none)))
    (hks : xs.map (fun x => akey (st.ev none x)) = ks) (hkn : ks.Pairwise fun x y => x ≠ y ∨ x = 0) (h0 : 0 < xs.length) (hl : xs.length ≤ 1000) (hd2 : okDst nt none o2.dst = true)
    (k : ∀ a w, Rel Try.prog w0 N nt ((st.lose (some d)).put o2.dst none (.v (.bool true))) a w → wpList Try.prog ops Q rest a w) : wpList Try.prog ops Q (o1 :: o2 :: rest) a w := by
  obtain ⟨g, HI, hF⟩ := H
  obtain ⟨L, hL, hR⟩ := mk_rows HI hF xs hq
  have hvl : (xs.map a.eval).length = xs.length := by simp
  have get : ∀ i (hi : i < L.length), ∃ x, xs[i]? = some x := fun i hi => ⟨xs[i]'(by omega), List.getElem?_eq_getElem (by omega)⟩
  have hcell : ∀ v ∈ xs.map a.eval, v.cells = #[v] := fun v hv => by
    obtain ⟨x, hx, rfl⟩ := List.mem_map.1 hv
    obtain ⟨i, hi⟩ := List.getElem?_of_mem hx
    have hil : i < L.length := by rw [hL]; exact (List.getElem?_eq_some_iff.1 hi).1
    have := (hR i x L[i] hi (List.getElem?_eq_getElem hil)).1
    rw [this]; rfl
  have hrun := run_bsl (xs.map a.eval) hcell (by omega) (by omega) w
  rw [hvl] at hrun
  refine wpList_plain h1 fun K hK => ?_
  have hex : (execOp a.eval o1).run Try.prog w = .ok (.value (.slice (some ⟨w.heap.size, 0, none⟩) xs.length xs.length)) (w.alloc (.cells (xs.map a.eval).toArray 31)) := by
    obtain ⟨dst, op, ty, pos, after, gd⟩ := o1
    dsimp only at ho1
    subst ho1
    have e : ((xs.zipIdx.map fun p => (p.2, p.1)).toArray.map fun (p : Nat × Operand) => (p.1, a.eval p.2)) = (((xs.map a.eval).zipIdx.map fun p => (p.2, p.1)).toArray) := by
      simp [List.zipIdx_map, Function.comp_def]
    have e2 : execOp a.eval ⟨dst, .buildSlice 50 xs.length ((xs.zipIdx.map fun p => (p.2, p.1)).toArray), ty, pos, after, gd⟩ = (do pure (.value (← Instr.buildSlice 50 xs.length ((xs.zipIdx.map fun p => (p.2, p.1)).toArray.map fun (p : Nat × Operand) => (p.1, a.eval p.2))))) := rfl
    rw [e2, e]
    simp only [Sem.run_bind, hrun, Result.andThen_ok, Sem.run_pure]
  unfold Oper.wp
  rw [hex, Oper.upon_value, hd]
  refine hK _ _ ?_
  have hds : d < a.tmps.size := by rw [hF.sz]; exact hdn
  have hfok : Fok Try.prog 18 := ⟨_, Try.func18, by kernel_rfl, by kernel_rfl⟩
  have hw2 : Region.wanted o2 (yielded ops (a.put (some d) (.slice (some ⟨w.heap.size, 0, none⟩) xs.length xs.length)).tmps) = true := by
    rcases h2 with h2 | ⟨t, b, e1, e2, e3⟩
    · simp [Region.wanted, h2]
    · have h3 := tmp_sound hF (c := none) trivial t
      rw [e2] at h3
      refine (gdOf_wanted e1).2 ?_
      show (a.put (some d) _).tmps.getD t undef = .bool b
      rw [getD_put e3]; exact h3.v_inv
  refine wpList_step fun K hK => ?_
  rw [if_pos hw2]
  unfold Oper.wp
  rw [run_callF hfok [.tmp d] ats ho2, Oper.upon_enter]
  have hev : ([Operand.tmp d].map (a.put (some d) (.slice (some ⟨w.heap.size, 0, none⟩) xs.length xs.length)).eval).toArray = #[Value.slice (some ⟨w.heap.size, 0, none⟩) L.length xs.length] := by
    have := getD_put_same (a := a) (v := .slice (some ⟨w.heap.size, 0, none⟩) xs.length xs.length) hds
    rw [hL]
    show #[(a.put (some d) _).tmps.getD d undef] = _
    rw [this]
  rw [hev]
  have hbel : Below w.heap.size w (w.alloc (.cells (xs.map a.eval).toArray 31)) := (Below.refl _ _).alloc (Nat.le_refl _) _
  have hne : ∀ i j (hi : i < L.length) (hj : j < L.length), i ≠ j → L[i].1.v.ownBlock = none ∨ L[i].1.v.ownBlock ≠ L[j].1.v.ownBlock := fun i j hi hj hij => by
    obtain ⟨x, hx⟩ := get i hi
    obtain ⟨y, hy⟩ := get j hj
    obtain ⟨_, _, hx3⟩ := hR i x _ hx (List.getElem?_eq_getElem hi)
    obtain ⟨_, _, hy3⟩ := hR j y _ hy (List.getElem?_eq_getElem hj)
    have hkx : ks[i]? = some (akey (st.ev none x)) := by rw [← hks, List.getElem?_map, hx]; rfl
    have hky : ks[j]? = some (akey (st.ev none y)) := by rw [← hks, List.getElem?_map, hy]; rfl
    have hdk : akey (st.ev none x) ≠ 0 → akey (st.ev none x) ≠ akey (st.ev none y) := fun hz e => by
      rw [List.pairwise_iff_getElem] at hkn
      obtain ⟨hi', ei⟩ := List.getElem?_eq_some_iff.1 hkx
      obtain ⟨hj', ej⟩ := List.getElem?_eq_some_iff.1 hky
      rcases Nat.lt_or_gt_of_ne hij with h | h
      · rcases hkn i j hi' hj' h with h' | h'
        · exact h' (by rw [ei, ej, e])
        · rw [ei] at h'; exact hz h'
      · rcases hkn j i hj' hi' h with h' | h'
        · exact h' (by rw [ei, ej, e])
        · rw [ej, ← e] at h'; exact hz h'
    cases hb : L[i].1.v.ownBlock with
    | none => exact .inl rfl
    | some b =>
      right
      intro e
      rcases hx3 with h | hx3
      · rw [hb] at h; cases h
      rcases hy3 with h | hy3
      · rw [h] at e; cases e
      rcases hx3 with ⟨k1, q1, hk1, hq1, hb1⟩ | ⟨i1, y1, hk1, hq1, ho1, hb1⟩ <;> rcases hy3 with ⟨k2, q2, hk2, hq2, hb2⟩ | ⟨i2, y2, hk2, hq2, ho2, hb2⟩
      · have := HI.mem.rr k1 k2 q1 q2 b hq1 hq2 (hb1.trans hb) (hb2.trans e.symm)
        exact hdk (by rw [hk1]; omega) (by rw [hk1, hk2, this])
      · exact HI.mem.rb i2 k1 y2 q1 hq2 hq1 ho2 (hb1.trans (hb.trans (e.trans hb2.symm)))
      · exact HI.mem.rb i1 k2 y1 q2 hq1 hq2 ho1 (hb2.trans (e.symm.trans (hb.symm.trans hb1.symm)))
      · have h5 : some y1.blk = some y2.blk := hb1.trans (hb.trans (e.trans hb2.symm))
        injection h5 with h5
        have := HI.mem.bb i1 i2 y1 y2 hq1 hq2 ho1 ho2 h5
        exact hdk (by rw [hk1]; omega) (by rw [hk1, hk2, this])
  have hP : Apart (w.alloc (.cells (xs.map a.eval).toArray 31)) 0 L := ⟨fun i hi => by
    obtain ⟨x, hx⟩ := get i hi
    exact (hR i x _ hx (List.getElem?_eq_getElem hi)).2.1.belowSize hbel, hne⟩
  refine (apart_any L w.heap.size 0 xs.length 0 (w.alloc (.cells (xs.map a.eval).toArray 31)) (fun i hi => ?_) (by rw [World.size_alloc]; exact Nat.lt_succ_self _) hP (by omega) (by omega)).mono fun e w2 hp => ?_
  · obtain ⟨x, hx⟩ := get i hi
    have hx1 := (hR i x _ hx (List.getElem?_eq_getElem hi)).1
    rw [(Blk.new _ _ _).cell, Nat.zero_add]
    simp only [List.getElem?_toArray, List.getElem?_map, hx, Option.map_some, hx1]
  · obtain ⟨rfl, hb⟩ := hp
    have hall : ∀ k, k < w.heap.size → w2.heap[k]? = w.heap[k]? := fun k hk => (hb.block k (by rw [World.size_alloc]; omega)).trans (hbel.block k hk)
    have hI2 := HI.keep hall (Nat.le_trans hbel.size hb.size) (hb.os.trans hbel.os) (hb.tape.trans hbel.tape) (hb.output.trans hbel.output)
    refine hK _ _ (k _ _ ⟨g, ?_, ?_⟩)
    · rw [(put_bx _ _ _ _).1, (put_bx _ _ _ _).2.1, (put_bx _ _ _ _).2.2]; exact hI2
    · exact (hF.lose (dst := some d) _).put (st := st.lose (some d)) (st' := st.lose (some d)) hd2 (fun _ => RV.v_of rfl) rfl (fun h => absurd trivial h)
end
end Go.Proofs.Ytnkeolokhcljpaa
/- The statement NodeCodes, in values. -/
namespace Go.Proofs.Ytnkeolokhcljpaa
open Go Go.RowKit
theorem lent_take (l : List UInt8) : (lentOf l).take l.length = l := by simp [lentOf]
end Go.Proofs.Ytnkeolokhcljpaa
/- Proofs as bytes: the document's. -/
namespace Go.Proofs.Ytnkeolokhcljpaa
open Go Go.RowKit
set_option maxHeartbeats 1000000 in
theorem pcheckR_v (p : Pf) (hw : p.wf) : VC Try.prog 14 [p.av] [] (.v (.int .i64 p.chk)) := by
  obtain ⟨s, n⟩ := p
  have hsl := bas_len s
  have hc := checkR_v n hw.e
  obtain ⟨h1, h2, h3, h4⟩ := id hw.e
  have hk2 : ((n.k.toNat : Int) = 2) ↔ n.k = 2 := ⟨fun h => UInt8.toNat_inj.1 (by simp; omega), fun h => by rw [h]; rfl⟩
  dsimp only at hc h1 h2 h3 h4 hk2
  refine mE Try.func14 ?_; intro N w0 a w hN hR H
  simp only [Pf.av, Nd.av] at H hc
  refine mW ?_; clear H; intro a w H
  refine mC H (fun hb => ?_) (fun hb => ?_)
  · have hb : 256 < s.length := by simp at hb; omega
    simp only [Pf.chk, if_pos hb]
    refine mW ?_; clear H; intro a w H
    refine wp_ret ?_; exact mEnd [] [] [.tmp 2] [_] hN hR H
  · have hb : ¬ 256 < s.length := by simp at hb; omega
    simp only [Pf.chk, if_neg hb]
    by_cases ho : n.ok
    · rw [if_pos ho] at hc
      refine mW ?_; clear H; intro a w H
      refine mCall [] [] (hc) H ?_; clear H; intro a w H; try refine wpList_nil ?_
      refine mW ?_; clear H; intro a w H
      refine mC H (fun hb => ?_) (fun hb => ?_)
      · have hb : n.k = 2 := hk2.1 (by simpa using hb)
        rw [if_neg (fun h => h.2 hb)]
        refine mW ?_; clear H; intro a w H
        refine wp_ret ?_; exact mEnd [] [] [.tmp 2] [_] hN hR H
      · have hb : ¬ n.k = 2 := fun e => by rw [hk2.2 e] at hb; simp at hb
        rw [if_pos ⟨ho, hb⟩]
        refine mW ?_; clear H; intro a w H
        refine wp_ret ?_; exact mEnd [] [] [.tmp 2] [_] hN hR H
    · rw [if_neg ho] at hc
      refine mW ?_; clear H; intro a w H
      refine mCall [] [] (hc) H ?_; clear H; intro a w H; try refine wpList_nil ?_
      refine mW ?_; clear H; intro a w H
      refine mC H (fun hb => ?_) (fun hb => ?_)
      · rw [if_neg (fun h => ho h.1)]
        refine mW ?_; clear H; intro a w H
        refine wp_ret ?_; exact mEnd [] [] [.tmp 2] [_] hN hR H
      · simp at hb
/-- A number out of its first bits. -/
def upB (f : Nat → Bool) : Nat → Nat
  | 0 => 0
  | k + 1 => 2 * upB f k + (if f k then 1 else 0)
theorem upB_lt (f : Nat → Bool) : ∀ k, upB f k < 2 ^ k
  | 0 => by simp [upB]
  | k + 1 => by
    have := upB_lt f k
    simp only [upB, Nat.pow_succ]
    split <;> omega
set_option maxRecDepth 100000 in
theorem b8x_up : ∀ x0 x1 x2 x3 x4 x5 x6 x7 : Bool, (b8x x0 x1 x2 x3 x4 x5 x6 x7).toNat = 2 * (2 * (2 * (2 * (2 * (2 * (2 * (2 * 0 + (if x0 then 1 else 0)) + (if x1 then 1 else 0)) + (if x2 then 1 else 0)) + (if x3 then 1 else 0)) + (if x4 then 1 else 0)) + (if x5 then 1 else 0)) + (if x6 then 1 else 0)) + (if x7 then 1 else 0) := by decide +kernel
theorem b8_up (f : Nat → Bool) : UInt8.ofNat (upB f 8) = b8 f := by
  apply UInt8.toNat_inj.1
  have h := upB_lt f 8
  rw [UInt8.toNat_ofNat', Nat.mod_eq_of_lt h, b8_x, b8x_up]
  rfl
/-- The marks of the first 8 m sides. -/
def marksB (s : List (List UInt8)) (m : Nat) : List UInt8 := (List.range m).map fun j => b8 fun k => hidesB s (8 * j + k)
theorem marksB_next (s : List (List UInt8)) (m : Nat) : marksB s (m + 1) = marksB s m ++ [b8 fun k => hidesB s (8 * m + k)] := by
  unfold marksB; rw [List.range_succ, List.map_append]; rfl
theorem marksB_len (s : List (List UInt8)) (m : Nat) : (marksB s m).length = m := by simp [marksB]
theorem hides_lt (s : List (List UInt8)) (t : Nat) (h : t < s.length) : hidesB s t = (s.getD t [] != E0) := by
  unfold hidesB; rw [List.getElem?_eq_getElem h, List.getElem_eq_getD []]
theorem hides_ge (s : List (List UInt8)) (t : Nat) (h : ¬ t < s.length) : hidesB s t = false := by
  unfold hidesB; rw [List.getElem?_eq_none (by omega)]
theorem Pf.chk_and {p : Pf} (h : p.chk = 0) : p.s.length ≤ 256 ∧ p.e.ok := by
  unfold Pf.chk at h
  split at h
  · cases h
  · split at h
    · rename_i h1 h2; exact ⟨by omega, h2.1⟩
    · cases h
theorem bne_dec (x y : List UInt8) : (x != y) = !decide (x = y) := by by_cases h : x = y <;> simp [h]
theorem encR_bad (p : Pf) (hw : p.wf) (h : p.chk ≠ 0) : VC Try.prog 9 [p.av] [] (.tup [.bs [] none, errv p.chk]) := by
  have hc := pcheckR_v p hw
  have hsl := bas_len p.s
  obtain ⟨h1, h2, h3, h4⟩ := id hw.e
  refine mE Try.func9 ?_; intro N w0 a w hN hR H
  simp only [Pf.av, Nd.av] at H hc
  refine mW ?_; clear H; intro a w H
  refine mCall [] [] (hc) H ?_; clear H; intro a w H; try refine wpList_nil ?_
  refine mW ?_; clear H; intro a w H
  refine mC H (fun hb => ?_) (fun hb => ?_)
  · refine mW ?_; clear H; intro a w H
    refine wp_ret ?_; exact mEnd [] [] [.tmp 2, .tmp 3] [_, _] hN hR H
  · simp at hb; exact absurd hb h
set_option maxRecDepth 20000 in
set_option maxHeartbeats 2000000 in
theorem encR_ok (p : Pf) (hw : p.wf) (h : p.chk = 0) : VC Try.prog 9 [p.av] [(5, p.text.length)] (.tup [.bs p.text (some 0), errv 0]) := by
  obtain ⟨hle, hok⟩ := Pf.chk_and h
  have hc := pcheckR_v p hw
  rw [h] at hc
  obtain ⟨s, n⟩ := p
  have hsl := bas_len s
  have hen := encodeR_ok n hw.e hok
  obtain ⟨h1, h2, h3, h4⟩ := id hw.e
  have hsum := sum_length [0]
  have eE : sum [0] = E0 := rfl
  rw [eE] at hsum
  have hem := emptyR_v
  rw [eE] at hem
  dsimp only at h1 h2 h3 h4 hle
  have hs := hw.s
  dsimp only at hs
  clear hok h
  refine mE Try.func9 ?_; intro N w0 a w hN hR H
  simp only [Pf.av, Nd.av] at H hc hen
  refine mW ?_; clear H; intro a w H
  refine mCall [] [] (hc) H ?_; clear H; intro a w H; try refine wpList_nil ?_
  refine mW ?_; clear H; intro a w H
  refine mC H (fun hb => ?_) (fun hb => ?_)
  · simp at hb
  · have e3 : UInt8.ofNat ((s.length : Int) / 256 % 256).toNat = UInt8.ofNat (s.length / 256) := by have := u8n s.length 256; simpa using this
    have e4 : UInt8.ofNat ((s.length : Int) % 256 % 256).toNat = UInt8.ofNat s.length := by
      rw [Int.emod_emod_of_dvd _ (Int.dvd_refl 256)]; exact u8m s.length
    have hX := @hsl
    refine mW ?_; clear H; intro a w H
    rw [e3, e4] at H
    refine mCall [] [] (hem) H ?_; clear H; intro a w H; try refine wpList_nil ?_
    refine mW ?_; clear H; intro a w H
    obtain ⟨hd, hhd⟩ : ∃ hd, hd = [UInt8.ofNat (s.length / 256), UInt8.ofNat s.length] := ⟨_, rfl⟩
    have hhl : hd.length = 2 := by rw [hhd]; rfl
    rw [← hhd] at H
    replace H := mK [1, 2, 3, 5, 6, 7, 8] 2 1 hN hR H
    refine v_loop (fun m : Nat => ⟨[(8, none, .v (.int .i64 ((8 * m : Nat) : Int))), (7, none, .ptr 1 []), (6, none, .bs (hd ++ marksB s m) (some 0)), (5, none, .v (.int .i64 (s.length : Int))), (3, none, .v (.int .i64 0)), (2, none, .v (.slice none 0 0)), (1, none, .ptr 0 [])],
      [(ti30.ty, .st [.sl (.ba 32) (bas s) none, .st [.v (B8 n.k), .ba n.key, .ba n.v, .ba n.l, .ba n.r]]), (.ba 32, .ba E0)], [], [(5, 2 + m)]⟩)
      (fun m => m ≤ (s.length + 7) / 8) (fun m => (s.length + 7) / 8 - m) 0 (Nat.zero_le _) (H.to 2 1 ⟨Nat.le_trans hN (by decide), Nat.le_trans hR (by decide)⟩ ⟨rfl, rfl, by rw [show marksB s 0 = [] from rfl, List.append_nil]; rfl, rfl, rfl, rfl, rfl, trivial⟩ rfl rfl rfl rfl rfl) ?_
    clear H
    intro m a w hm H
    have hml := marksB_len s m
    refine mW ?_; clear H; intro a w H
    refine mC H (fun hb => ?_) (fun hb => ?_)
    · have hlt : 8 * m < s.length := by rw [decide_eq_true_eq] at hb; omega
      clear hb
      have hm32 : m ≤ 31 := by omega
      refine mW ?_; clear H; intro a w H
      refine v_loop (fun k : Nat => ⟨[(10, none, .v (.int .i64 (k : Int))), (9, none, .v (.int .i64 (upB (fun k => hidesB s (8 * m + k)) k : Int))), (8, none, .v (.int .i64 ((8 * m : Nat) : Int))), (7, none, .ptr 1 []), (6, none, .bs (hd ++ marksB s m) (some 0)), (5, none, .v (.int .i64 (s.length : Int))), (3, none, .v (.int .i64 0)), (2, none, .v (.slice none 0 0)), (1, none, .ptr 0 [])],
        [(ti30.ty, .st [.sl (.ba 32) (bas s) none, .st [.v (B8 n.k), .ba n.key, .ba n.v, .ba n.l, .ba n.r]]), (.ba 32, .ba E0)], [], [(5, 2 + m)]⟩)
        (fun k => k ≤ 8) (fun k => 8 - k) 0 (Nat.zero_le _) (H.to 2 1 ⟨Nat.le_trans hN (by decide), Nat.le_trans hR (by decide)⟩ ⟨rfl, rfl, rfl, rfl, rfl, rfl, rfl, rfl, rfl, trivial⟩ rfl rfl rfl rfl rfl) ?_
      clear H
      intro k a w hk H
      have hup : upB (fun k => hidesB s (8 * m + k)) k ≤ 256 := by
        have h5 := upB_lt (fun k => hidesB s (8 * m + k)) k
        have h6 : 2 ^ k ≤ 2 ^ 8 := Nat.pow_le_pow_right (by decide) hk
        omega
      have hnx : upB (fun k => hidesB s (8 * m + k)) (k + 1) = 2 * upB (fun k => hidesB s (8 * m + k)) k + (if hidesB s (8 * m + k) then 1 else 0) := rfl
      have hb8 := b8_up (fun k => hidesB s (8 * m + k))
      refine mW ?_; clear H; intro a w H
      refine mC H (fun hb => ?_) (fun hb => ?_)
      · have hk8 : k < 8 := by rw [decide_eq_true_eq] at hb; omega
        clear hb hb8
        generalize upB (fun k => hidesB s (8 * m + k)) k = v at *
        have e1 : (((8 * m : Nat) : Int) + (k : Int)).toNat = 8 * m + k := by omega
        by_cases hin : 8 * m + k < s.length
        · have hg := bas_get s (8 * m + k) hin
          rw [List.getElem_eq_getD []] at hg
          have l1 : (s.getD (8 * m + k) []).length = 32 := by rw [← List.getElem_eq_getD (h := hin) []]; exact hs _ (List.getElem_mem _)
          have hh := hides_lt s (8 * m + k) hin
          refine mW ?_; clear H; intro a w H
          clear hX; have hX := And.intro @hsl (And.intro @e1 (@hg))
          have hY := And.intro @hsl (And.intro @e1 (And.intro @l1 (@hsum)))
          refine mS ?_; refine mD 2 [] [] H ?_; clear H; intro gS H
          refine mTN 3 hN H ?_; clear H; intro a w H; simp only [List.drop_succ_cons, List.drop_zero, List.drop_nil]
          refine mTN 3 hN H ?_; clear H; intro a w H; simp only [List.drop_succ_cons, List.drop_zero, List.drop_nil]
          refine mTN 2 hN H ?_; clear H; intro a w H; simp only [List.drop_succ_cons, List.drop_zero, List.drop_nil]
          refine mTN 4 hN H ?_; clear H; intro a w H; simp only [List.drop_succ_cons, List.drop_zero, List.drop_nil]
          refine mTN 2 hN H ?_; clear H; intro a w H; simp only [List.drop_succ_cons, List.drop_zero, List.drop_nil]
          refine mT ?_; clear H; intro a w H
          refine v_drawNil H ?_; clear H; intro H
          have hbb : (bif decide (((8 * m : Nat) : Int) + (k : Int) < (s.length : Int)) then !decide (s.getD (8 * m + k) [] = E0) else false) = hidesB s (8 * m + k) := by
            rw [decide_eq_true (by omega), hh, cond_true, bne_dec]
          refine mC H (fun hb => ?_) (fun hb => ?_)
          · rw [hbb] at hb
            rw [hb] at hnx
            clear hX; have hX := @hsl
            clear hY
            refine mW ?_; clear H; intro a w H
            exact ⟨k + 1, hk8, by omega, H.to 2 1 ⟨Nat.le_trans hN (by decide), Nat.le_trans hR (by decide)⟩ ⟨rfl, by rw [hnx]; rfl, rfl, rfl, rfl, rfl, rfl, rfl, rfl, trivial⟩ rfl rfl rfl rfl rfl⟩
          · rw [hbb] at hb
            rw [hb] at hnx
            clear hX; have hX := @hsl
            clear hY
            refine mW ?_; clear H; intro a w H
            exact ⟨k + 1, hk8, by omega, H.to 2 1 ⟨Nat.le_trans hN (by decide), Nat.le_trans hR (by decide)⟩ ⟨rfl, by rw [hnx]; rfl, rfl, rfl, rfl, rfl, rfl, rfl, rfl, trivial⟩ rfl rfl rfl rfl rfl⟩
        · have hh := hides_ge s (8 * m + k) hin
          rw [hh] at hnx
          refine mW ?_; clear H; intro a w H
          refine mS ?_; refine mD 2 [] [] H ?_; clear H; intro gS H
          refine mTN 3 hN H ?_; clear H; intro a w H; simp only [List.drop_succ_cons, List.drop_zero, List.drop_nil]
          refine mTN 3 hN H ?_; clear H; intro a w H; simp only [List.drop_succ_cons, List.drop_zero, List.drop_nil]
          have hdd : decide (((8 * m : Nat) : Int) + (k : Int) < (s.length : Int)) = false := decide_eq_false (by omega)
          simp only [hdd] at H
          refine mSkT (.v (.bool false)) H ?_; clear H; intro a w H
          refine mSkT (.v (.bool false)) H ?_; clear H; intro a w H
          refine mSkT (.v (.bool false)) H ?_; clear H; intro a w H
          refine mSkT (.v (.bool false)) H ?_; clear H; intro a w H
          refine mSkT (.v (.bool false)) H ?_; clear H; intro a w H
          refine mSkT (.v (.bool false)) H ?_; clear H; intro a w H
          refine mSkT (.v (.bool false)) H ?_; clear H; intro a w H
          refine mSkT (.v (.bool false)) H ?_; clear H; intro a w H
          refine mSkT (.v (.bool false)) H ?_; clear H; intro a w H
          refine mT ?_; clear H; intro a w H
          refine v_drawNil H ?_; clear H; intro H
          refine mC H (fun hb => ?_) (fun hb => ?_)
          · simp at hb
          · refine mW ?_; clear H; intro a w H
            exact ⟨k + 1, hk8, by omega, H.to 2 1 ⟨Nat.le_trans hN (by decide), Nat.le_trans hR (by decide)⟩ ⟨rfl, by rw [hnx]; rfl, rfl, rfl, rfl, rfl, rfl, rfl, rfl, trivial⟩ rfl rfl rfl rfl rfl⟩
      · have hge : k = 8 := by rw [decide_eq_false_iff_not] at hb; omega
        subst hge
        clear hb hnx
        obtain ⟨v, hv⟩ : ∃ v, v = upB (fun k => hidesB s (8 * m + k)) 8 := ⟨_, rfl⟩
        rw [← hv] at H hb8 hup
        clear hv
        have hmn := marksB_next s m
        rw [← hb8] at hmn
        have e5 : UInt8.ofNat ((v : Int) % 256).toNat = UInt8.ofNat v := u8m v
        have hcl : (hd ++ marksB s m).length = 2 + m := by rw [List.length_append, hhl, hml]
        clear hX; have hX := And.intro @hsl (And.intro @hhl (@hml))
        have hY := And.intro @hhl (@hml)
        refine mW ?_; clear H; intro a w H
        rw [e5] at H
        exact ⟨m + 1, by omega, by omega, H.to 2 1 ⟨Nat.le_trans hN (by decide), Nat.le_trans hR (by decide)⟩ ⟨rfl, rfl, by rw [hmn, ← List.append_assoc]; rfl, rfl, rfl, rfl, rfl, trivial⟩ rfl rfl rfl rfl rfl⟩
    · have hge : m = (s.length + 7) / 8 := by rw [decide_eq_false_iff_not] at hb; omega
      clear hb
      have hbits : marksB s m = (Pf.mk s n).bits := by rw [hge]; rfl
      rw [hbits] at H hml
      obtain ⟨pre, hpre⟩ : ∃ pre, pre = hd ++ (Pf.mk s n).bits := ⟨_, rfl⟩
      have hpl : pre.length = 2 + m := by rw [hpre, List.length_append, hhl, hml]
      rw [← hpre] at H
      have hm33 : m ≤ 32 := by omega
      clear hge hml hm hbits
      refine mW ?_; clear H; intro a w H
      refine v_loop (fun k : Nat => ⟨[(11, none, .v (.int .i64 (k : Int))), (7, none, .ptr 1 []), (6, none, .bs (pre ++ hashes (s.take k)) (some 0)), (5, none, .v (.int .i64 (s.length : Int))), (3, none, .v (.int .i64 0)), (2, none, .v (.slice none 0 0)), (1, none, .ptr 0 [])],
        [(ti30.ty, .st [.sl (.ba 32) (bas s) none, .st [.v (B8 n.k), .ba n.key, .ba n.v, .ba n.l, .ba n.r]]), (.ba 32, .ba E0)], [], [(5, pre.length + (hashes (s.take k)).length)]⟩)
        (fun k => k ≤ s.length) (fun k => s.length - k) 0 (Nat.zero_le _) (H.to 2 1 ⟨Nat.le_trans hN (by decide), Nat.le_trans hR (by decide)⟩ ⟨rfl, rfl, by rw [show hashes (s.take 0) = [] from rfl, List.append_nil]; rfl, rfl, rfl, rfl, rfl, trivial⟩ rfl (by rw [hpl]; rfl) rfl rfl rfl) ?_
      clear H
      intro k a w hk H
      have hhl2 : (hashes (s.take k)).length ≤ 8192 := by
        have := hashes_len (s.take k) fun x hx => hs _ (List.mem_of_mem_take hx)
        rw [List.length_take] at this; omega
      have hal : (pre ++ hashes (s.take k)).length = 2 + m + (hashes (s.take k)).length := by rw [List.length_append, hpl]
      refine mW ?_; clear H; intro a w H
      refine mC H (fun hb => ?_) (fun hb => ?_)
      · have hlt : k < s.length := by rw [decide_eq_true_eq] at hb; omega
        have hg := bas_get s k hlt
        have h32 : s[k].length = 32 := hs _ (List.getElem_mem hlt)
        have htk : s.take (k + 1) = s.take k ++ [s[k]] := List.take_succ_eq_append_getElem hlt
        have ht32 : s[k].take 32 = s[k] := List.take_of_length_le (by omega)
        clear hb
        refine mW ?_; clear H; intro a w H
        clear hX; have hX := And.intro @hsl (And.intro @hg (@ht32))
        have hY := And.intro @hsl (And.intro @hg (And.intro @h32 (@hsum)))
        refine mS ?_; refine mD 2 [] [] H ?_; clear H; intro gS H
        refine mTN 2 hN H ?_; clear H; intro a w H; simp only [List.drop_succ_cons, List.drop_zero, List.drop_nil]
        refine mTN 2 hN H ?_; clear H; intro a w H; simp only [List.drop_succ_cons, List.drop_zero, List.drop_nil]
        refine mTN 2 hN H ?_; clear H; intro a w H; simp only [List.drop_succ_cons, List.drop_zero, List.drop_nil]
        refine mT ?_; clear H; intro a w H
        refine v_drawNil H ?_; clear H; intro H
        refine mC H (fun hb => ?_) (fun hb => ?_)
        · have hne : (s[k] != E0) = true := by rw [bne_dec]; exact hb
          have hs1 : hashes (s.take (k + 1)) = hashes (s.take k) ++ s[k] := by
            unfold hashes; rw [htk, List.filter_append, List.filter_cons_of_pos (p := (· != E0)) hne, List.filter_nil, List.flatten_append]; simp
          refine mS ?_
          (try refine wp_region_lit ?_); refine mN 4 hN H ?_; clear H; intro a w H
          refine mW ?_; clear H; intro a w H
          replace H := mK [1, 2, 3, 5, 6, 7, 11] 2 1 hN hR H
          have H := v_fz H
          simp only [List.filter_cons, List.filter_nil, List.length_cons, List.length_nil, Nat.reduceAdd, Nat.reduceLT, Nat.lt_irrefl, decide_false, Bool.false_eq_true, reduceIte] at H
          exact ⟨k + 1, hlt, by omega, H.to 2 1 ⟨Nat.le_trans hN (by decide), Nat.le_trans hR (by decide)⟩ ⟨rfl, rfl, by rw [hs1, ← List.append_assoc]; rfl, rfl, rfl, rfl, rfl, trivial⟩ rfl (by rw [hs1, List.length_append, ← Nat.add_assoc]; rfl) rfl rfl rfl⟩
        · have hne : (s[k] != E0) = false := by rw [bne_dec]; exact hb
          have hs1 : hashes (s.take (k + 1)) = hashes (s.take k) := by
            unfold hashes; rw [htk, List.filter_append, List.filter_cons_of_neg (p := (· != E0)) (by rw [hne]; decide), List.filter_nil, List.append_nil]
          refine mW ?_; clear H; intro a w H
          exact ⟨k + 1, hlt, by omega, H.to 2 1 ⟨Nat.le_trans hN (by decide), Nat.le_trans hR (by decide)⟩ ⟨rfl, rfl, by rw [hs1]; rfl, rfl, rfl, rfl, rfl, trivial⟩ rfl (by rw [hs1]; rfl) rfl rfl rfl⟩
      · have hge : k = s.length := by rw [decide_eq_false_iff_not] at hb; omega
        subst hge
        rw [List.take_length] at H hhl2 hal
        have htl := text_len hw.e
        dsimp only at htl
        have htx : pre ++ hashes s ++ n.text = (Pf.mk s n).text := by rw [hpre, hhd]; simp [Pf.text]
        have hY := @hal
        refine mW ?_; clear H; intro a w H
        refine mCall [] [] (hen) H ?_; clear H; intro a w H; try refine wpList_nil ?_
        refine mW ?_; clear H; intro a w H
        rw [← List.length_append, ← List.length_append, htx] at H
        refine wp_ret ?_; exact mEnd [] [0] [.tmp 2, .tmp 3] [_, _] hN hR H
/-- What the document's reading yields. -/
def rdR (l : List UInt8) : Pf :=
  if l.length < 2 then Pf.zero else
  if 256 < num 0 (l.take 2) then Pf.zero else
  if (l.drop 2).length < (num 0 (l.take 2) + 7) / 8 then Pf.zero else
  let x := runS (marksOf ((l.drop 2).take ((num 0 (l.take 2) + 7) / 8)) (num 0 (l.take 2))) ((l.drop 2).drop ((num 0 (l.take 2) + 7) / 8))
  if x.2.2 then ⟨x.1.dropLast, .zero⟩ else ⟨x.1, dec x.2.1⟩
theorem rdR_ok (l : List UInt8) (h : (rdQ l).2 = true) : rdR l = (rdQ l).1 := by
  unfold rdQ at *
  unfold rdR
  by_cases h1 : l.length < 2
  · rw [if_pos h1, if_pos h1]; rfl
  · rw [if_neg h1] at h; rw [if_neg h1, if_neg h1]
    by_cases h2 : 256 < num 0 (l.take 2)
    · rw [if_pos h2, if_pos h2]; rfl
    · rw [if_neg h2] at h; rw [if_neg h2, if_neg h2]
      by_cases h3 : (l.drop 2).length < (num 0 (l.take 2) + 7) / 8
      · rw [if_pos h3, if_pos h3]; rfl
      · rw [if_neg h3] at h; rw [if_neg h3, if_neg h3]
        dsimp only at h ⊢
        split
        · rename_i h4; rw [if_pos h4] at h; cases h
        · rfl
theorem rdR_wf (l : List UInt8) : (rdR l).wf := by
  unfold rdR
  split
  · exact pzero_wf
  · split
    · exact pzero_wf
    · split
      · exact pzero_wf
      · dsimp only
        split
        · exact ⟨fun h hh => runS_w _ _ h ((List.dropLast_sublist _).subset hh), zero_wf⟩
        · exact ⟨runS_w _ _, dec_wf _⟩
theorem num_two' (l : List UInt8) (h : 2 ≤ l.length) : (256 * ((l.getD 0 0).toNat : Int) + ((l.getD 1 0).toNat : Int)) = ((num 0 (l.take 2) : Nat) : Int) := by
  match l, h with
  | a :: b :: r, _ =>
    simp only [List.take_succ_cons, List.take_zero, num, List.getD_cons_zero, List.getD_cons_succ]
    omega
theorem fill_over (r e : List UInt8) (k : Nat) (hr : k < r.length) (he : k < e.length) (hl : e.length = 32) (hk : k < 32) : (r.take k ++ e.drop k).set k (r.getD k 0) = r.take (k + 1) ++ e.drop (k + 1) := by
  have h1 : (r.take k).length = k := by rw [List.length_take]; omega
  rw [List.drop_eq_getElem_cons he, List.set_append_right _ _ (by omega), h1, Nat.sub_self, List.set_cons_zero, List.take_succ_eq_append_getElem hr, List.append_assoc, List.getElem_eq_getD (0 : UInt8)]
  rfl
theorem getD_drop (l : List UInt8) (i j : Nat) : (l.drop i).getD j 0 = l.getD (i + j) 0 := by
  simp [List.getD, List.getElem?_drop]
set_option maxRecDepth 20000 in
theorem readR_small (l : List UInt8) (hl : l.length ≤ 34359730000) (h : l.length < 2 ∨ 256 < num 0 (l.take 2) ∨ (l.drop 2).length < (num 0 (l.take 2) + 7) / 8) : VC Try.prog 49 [.bs l none] [] (.tup [Pf.zero.av, .v (.bool false)]) := by
  have hz2 := z32_len
  simp only [Pf.zero, Pf.av, Nd.av, Nd.zero, bas, List.map_nil]
  by_cases hs : l.length < 2
  · refine mE Try.func49 ?_; intro N w0 a w hN hR H
    refine mW ?_; clear H; intro a w H
    refine mC H (fun hb => ?_) (fun hb => ?_)
    · refine mW ?_; clear H; intro a w H
      try simp only [hz] at H
      refine wp_ret ?_; exact mEnd [] [] [.cell 2 30, .tmp 3] [_, _] hN hR H
    · exfalso; rw [decide_eq_false_iff_not] at hb; omega
  · have h12 : (l.drop 2).length = l.length - 2 := List.length_drop
    have hb2 := num2_lt (l.take 2) (by rw [List.length_take]; omega)
    have hn2 := num_two' l (by omega)
    have hx0 := (l.getD 0 0).toNat_lt
    have hx1 := (l.getD 1 0).toNat_lt
    have hge : 2 ≤ l.length := by omega
    refine mE Try.func49 ?_; intro N w0 a w hN hR H
    refine mW ?_; clear H; intro a w H
    refine mC H (fun hb => ?_) (fun hb => ?_)
    · exfalso; rw [decide_eq_true_eq] at hb; omega
    · refine mW ?_; clear H; intro a w H
      refine mS ?_; refine mD 2 [] [] H ?_; clear H; intro gS H; refine mT ?_; clear H; intro a w H
      refine v_drawNil H ?_; clear H; intro H
      rw [hn2] at H
      generalize num 0 (l.take 2) = n at *
      clear hn2 hx0 hx1
      refine mW ?_; clear H; intro a w H
      refine mC H (fun hb => ?_) (fun hb => ?_)
      · refine mW ?_; clear H; intro a w H
        try simp only [hz] at H
        refine wp_ret ?_; exact mEnd [] [] [.cell 2 30, .tmp 3] [_, _] hN hR H
      · exfalso
        have h' : 256 < n ∨ l.length < 2 + (n + 7) / 8 := by omega
        rcases h' with h' | h'
        · rw [decide_eq_true (show (256 : Int) < (n : Int) by omega)] at hb; simp at hb
        · by_cases h6 : 256 < n
          · rw [decide_eq_true (show (256 : Int) < (n : Int) by omega)] at hb; simp at hb
          · rw [decide_eq_false (show ¬ (256 : Int) < (n : Int) by omega), decide_eq_true (show (l.length : Int) < 2 + ((n : Int) + 7) / 8 by omega)] at hb; simp at hb
set_option maxRecDepth 20000 in
set_option maxHeartbeats 2000000 in
theorem readR_main (l : List UInt8) (hl : l.length ≤ 34359730000) (hs : ¬ l.length < 2) (hn : ¬ 256 < num 0 (l.take 2)) (hq : ¬ (l.drop 2).length < (num 0 (l.take 2) + 7) / 8) :
    VC Try.prog 49 [.bs l none] [] (.tup [(rdR l).av, .v (.bool (rdQ l).2)]) := by
  have h12 : (l.drop 2).length = l.length - 2 := List.length_drop
  rw [h12] at hq
  have hge2 : 2 ≤ l.length := by omega
  rw [rdQ, if_neg hs, if_neg hn, if_neg (by rw [h12]; exact hq), rdR, if_neg hs, if_neg hn, if_neg (by rw [h12]; exact hq)]
  have hn2 := num_two' l hge2
  have hx0 := (l.getD 0 0).toNat_lt
  have hx1 := (l.getD 1 0).toNat_lt
  obtain ⟨n, hne⟩ : ∃ n, n = num 0 (l.take 2) := ⟨_, rfl⟩
  rw [← hne] at hn hq hn2 ⊢
  clear hne
  dsimp only
  obtain ⟨bits, hbits⟩ : ∃ bits, bits = (l.drop 2).take ((n + 7) / 8) := ⟨_, rfl⟩
  obtain ⟨l3, hl3⟩ : ∃ l3, l3 = (l.drop 2).drop ((n + 7) / 8) := ⟨_, rfl⟩
  rw [← hbits, ← hl3]
  have hl3d : l3 = l.drop (2 + (n + 7) / 8) := by rw [hl3, List.drop_drop]
  clear hl3
  obtain ⟨ms, hms⟩ : ∃ ms, ms = marksOf bits n := ⟨_, rfl⟩
  rw [← hms]
  have hml : ms.length = n := by rw [hms, pmarks_len]
  have hsum := sum_length [0]
  have eE : sum [0] = E0 := rfl
  rw [eE] at hsum
  have hem := emptyR_v
  rw [eE] at hem
  have hz2 := z32_len
  refine mE Try.func49 ?_; intro N w0 a w hN hR H
  refine mW ?_; clear H; intro a w H
  refine mC H (fun hb => ?_) (fun hb => ?_)
  · exfalso; rw [decide_eq_true_eq] at hb; omega
  · clear hb
    refine mW ?_; clear H; intro a w H
    refine mS ?_; refine mD 2 [] [] H ?_; clear H; intro gS H; refine mT ?_; clear H; intro a w H
    refine v_drawNil H ?_; clear H; intro H
    rw [hn2] at H
    clear hn2 hx0 hx1
    refine mW ?_; clear H; intro a w H
    have e6 : (2 : Int) + ((n : Int) + 7) / 8 = ((2 + (n + 7) / 8 : Nat) : Int) := by omega
    rw [e6] at H
    clear e6
    refine mC H (fun hb => ?_) (fun hb => ?_)
    · exfalso
      rw [decide_eq_false (show ¬ (256 : Int) < (n : Int) by omega), decide_eq_false (show ¬ (l.length : Int) < ((2 + (n + 7) / 8 : Nat) : Int) by omega)] at hb
      simp at hb
    · clear hb
      refine mW ?_; clear H; intro a w H
      have H := v_nilX tab_ok H 1 0 26 (j := ti26) (.ba 32) rfl (by decide) rfl rfl
      simp only [List.set_cons_succ, List.set_cons_zero, List.length_cons, List.length_nil, Nat.reduceAdd, List.cons_append, List.nil_append, hz] at H
      refine v_loop (fun i : Nat × List (List UInt8) × Nat => ⟨[(7, none, .v (.int .i64 (i.1 : Int))), (6, none, .v (.int .i64 (i.2.2 : Int))), (5, none, .v (.int .i64 (n : Int))), (4, none, .ptr 1 []), (3, none, .v (.bool false)), (2, none, .ptr 0 []), (0, none, .bs l none)],
        [(ti30.ty, .st [.v (.slice none 0 0), .st [.v (.int .u8 0), .ba z32, .ba z32, .ba z32, .ba z32]]), (ti30.ty, .st [.sl (.ba 32) (bas i.2.1) (some 0), .st [.v (.int .u8 0), .ba z32, .ba z32, .ba z32, .ba z32]])], [], [(26, i.2.1.length)]⟩)
        (fun i => At ms l3 (i.1, i.2.1, l.drop i.2.2, false) ∧ i.2.2 ≤ l.length) (fun i => n - i.1) (0, [], 2 + (n + 7) / 8) ⟨by dsimp only; rw [← hl3d]; exact at_start ms l3, by dsimp only; omega⟩ (H.to 2 1 ⟨Nat.le_trans hN (by decide), Nat.le_trans hR (by decide)⟩ ⟨rfl, rfl, rfl, rfl, rfl, rfl, rfl, trivial⟩ rfl rfl rfl rfl rfl) ?_
      clear H
      rintro ⟨k, ss, at_⟩ a w ⟨hat, hal⟩ H
      dsimp only at H hat hal
      have hk := hat.k
      have hsl := hat.len
      dsimp only at hk hsl
      have hbl' := bas_len ss
      refine mW ?_; clear H; intro a w H
      refine mC H (fun hb => ?_) (fun hb => ?_)
      · have hkn : k < n := by rw [decide_eq_true_eq] at hb; omega
        clear hb
        have e8 : ((2 : Int) + (k : Int) / 8).toNat = 2 + k / 8 := by omega
        have hdr := marks_drop bits n k hkn
        rw [← hms] at hdr
        have hkm : k < ms.length := by omega
        have hbc : bits.getD (k / 8) 0 = l.getD (2 + k / 8) 0 := by
          rw [hbits, ← getD_drop]
          simp only [List.getD, List.getElem?_take]
          rw [if_pos (by omega)]
        rw [hbc] at hdr
        obtain ⟨c, hc⟩ : ∃ c, c = l.getD (2 + k / 8) 0 := ⟨_, rfl⟩
        rw [← hc] at hdr
        have hc8 := c.toNat_lt
        have hX := And.intro @e8 (Eq.symm (hc))
        have hY := @e8
        refine mW ?_; clear H; intro a w H
        refine v_loop (fun j : Nat => ⟨[(9, none, .v (.int .i64 (j : Int))), (8, none, .v (.int .i64 ((c.toNat / 2 ^ j : Nat) : Int))), (7, none, .v (.int .i64 (k : Int))), (6, none, .v (.int .i64 (at_ : Int))), (5, none, .v (.int .i64 (n : Int))), (4, none, .ptr 1 []), (3, none, .v (.bool false)), (2, none, .ptr 0 []), (0, none, .bs l none)],
          [(ti30.ty, .st [.v (.slice none 0 0), .st [.v (.int .u8 0), .ba z32, .ba z32, .ba z32, .ba z32]]), (ti30.ty, .st [.sl (.ba 32) (bas ss) (some 0), .st [.v (.int .u8 0), .ba z32, .ba z32, .ba z32, .ba z32]])], [], [(26, ss.length)]⟩)
          (fun j => j ≤ 7 - k % 8) (fun j => 8 - j) 0 (Nat.zero_le _) (H.to 2 1 ⟨Nat.le_trans hN (by decide), Nat.le_trans hR (by decide)⟩ ⟨rfl, by rw [Nat.pow_zero, Nat.div_one]; rfl, rfl, rfl, rfl, rfl, rfl, rfl, rfl, trivial⟩ rfl rfl rfl rfl rfl) ?_
        clear H
        intro j a w hj H
        have hlt2 : c.toNat / 2 ^ j < 256 := Nat.lt_of_le_of_lt (Nat.div_le_self _ _) hc8
        obtain ⟨v, hv⟩ : ∃ v, v = c.toNat / 2 ^ j := ⟨_, rfl⟩
        rw [← hv] at H hlt2
        have hv' : PLift (v = c.toNat / 2 ^ j) := ⟨hv⟩
        clear hv
        clear hX
        clear hY
        refine mW ?_; clear H; intro a w H
        refine mC H (fun hb => ?_) (fun hb => ?_)
        · have hlt : j < 7 - k % 8 := by rw [decide_eq_true_eq] at hb; omega
          clear hb
          refine mW ?_; clear H; intro a w H
          have e2 : (v : Int) / 2 = ((c.toNat / 2 ^ (j + 1) : Nat) : Int) := by
            have hv : v = c.toNat / 2 ^ j := hv'.down
            rw [Nat.pow_succ, ← Nat.div_div_eq_div_mul, ← hv]; omega
          rw [e2] at H
          exact ⟨j + 1, hlt, by omega, H.to 2 1 ⟨Nat.le_trans hN (by decide), Nat.le_trans hR (by decide)⟩ ⟨rfl, rfl, rfl, rfl, rfl, rfl, rfl, rfl, rfl, trivial⟩ rfl rfl rfl rfl rfl⟩
        · have hge : j = 7 - k % 8 := by rw [decide_eq_false_iff_not] at hb; omega
          clear hb
          have hb2 : v % 2 = if bitAt c (k % 8) then 1 else 0 := by
            have hv : v = c.toNat / 2 ^ j := hv'.down
            rw [hv, hge]; exact half_bit c (k % 8) (by omega)
          clear hge hv' hj
          have hE33 : E0.drop 32 = [] := List.drop_eq_nil_of_le (by omega)
          refine mW ?_; clear H; intro a w H
          refine mCall [] [] (hem) H ?_; clear H; intro a w H; try refine wpList_nil ?_
          refine mW ?_; clear H; intro a w H
          refine mC H (fun hb => ?_) (fun hb => ?_)
          · have hbt : bitAt c (k % 8) = true := by
              cases h : bitAt c (k % 8)
              · rw [h] at hb2; rw [decide_eq_true_eq] at hb; simp at hb2; omega
              · rfl
            rw [hbt] at hdr
            clear hb hb2
            refine mW ?_; clear H; intro a w H
            have hrl : (l.drop at_).length = l.length - at_ := List.length_drop
            refine mC H (fun hb => ?_) (fun hb => ?_)
            · have hr : (l.drop at_).length < 32 := by rw [decide_eq_true_eq] at hb; omega
              have hbad := (at_bad (ms' := ms) hat hdr hkm hr).no rfl
              dsimp only at hbad
              rw [hbad]
              simp only [if_true, List.dropLast_concat]
              refine mW ?_; clear H; intro a w H
              simp only [Pf.av, Nd.av, Nd.zero]
              try simp only [hz] at H
              refine wp_ret ?_; exact mEnd [] [] [.cell 2 30, .tmp 3] [_, _] hN hR H
            · have hr : ¬ (l.drop at_).length < 32 := by rw [decide_eq_false_iff_not] at hb; omega
              clear hb
              refine mW ?_; clear H; intro a w H
              refine v_loop (fun j : Nat => ⟨[(11, none, .v (.int .i64 (j : Int))), (10, none, .ptr 2 []), (7, none, .v (.int .i64 (k : Int))), (6, none, .v (.int .i64 (at_ : Int))), (5, none, .v (.int .i64 (n : Int))), (4, none, .ptr 1 []), (3, none, .v (.bool false)), (2, none, .ptr 0 []), (0, none, .bs l none)],
                [(ti30.ty, .st [.v (.slice none 0 0), .st [.v (.int .u8 0), .ba z32, .ba z32, .ba z32, .ba z32]]), (ti30.ty, .st [.sl (.ba 32) (bas ss) (some 0), .st [.v (.int .u8 0), .ba z32, .ba z32, .ba z32, .ba z32]]), (.ba 32, .ba ((l.drop at_).take j ++ E0.drop j))], [], [(26, ss.length)]⟩)
                (fun j => j ≤ 32) (fun j => 32 - j) 0 (Nat.zero_le _) (H.to 3 1 ⟨Nat.le_trans hN (by decide), Nat.le_trans hR (by decide)⟩ ⟨rfl, rfl, rfl, rfl, rfl, rfl, rfl, rfl, rfl, trivial⟩ rfl rfl rfl rfl rfl) ?_
              clear H
              intro j a w hj H
              have hcl : ((l.drop at_).take j ++ E0.drop j).length = 32 := by rw [List.length_append, List.length_take, List.length_drop, List.length_drop, hsum]; omega
              refine mW ?_; clear H; intro a w H
              refine mC H (fun hb => ?_) (fun hb => ?_)
              · have hlt : j < 32 := by rw [decide_eq_true_eq] at hb; omega
                clear hb
                have e9 : ((at_ : Int) + (j : Int)).toNat = at_ + j := by omega
                have hx := (l.getD (at_ + j) 0).toNat_lt
                have hf := fill_over (l.drop at_) E0 j (by omega) (by omega) hsum hlt
                rw [getD_drop] at hf
                have hX := @e9
                have hY := And.intro @e9 (@hcl)
                refine mW ?_; clear H; intro a w H
                rw [hf] at H
                exact ⟨j + 1, hlt, by omega, H.to 3 1 ⟨Nat.le_trans hN (by decide), Nat.le_trans hR (by decide)⟩ ⟨rfl, rfl, rfl, rfl, rfl, rfl, rfl, rfl, rfl, trivial⟩ rfl rfl rfl rfl rfl⟩
              · have hge : j = 32 := by rw [decide_eq_false_iff_not] at hb; omega
                subst hge
                clear hb
                rw [hE33, List.append_nil] at H
                have h32 : ((l.drop at_).take 32).length = 32 := by rw [List.length_take]; omega
                have hnx := at_next (ms' := ms) (m := true) hat hdr hkm (fun h => hr h.2)
                simp only [if_true] at hnx
                rw [List.drop_drop] at hnx
                have hbs2 : bas (ss ++ [(l.drop at_).take 32]) = bas ss ++ [.ba ((l.drop at_).take 32)] := by simp [bas]
                generalize (l.drop at_).take 32 = h9 at *
                have hX := @hbl'
                have hY := @h32
                refine mW ?_; clear H; intro a w H
                exact ⟨(k + 1, ss ++ [h9], at_ + 32), ⟨hnx, by dsimp only; omega⟩, by dsimp only; omega, H.to 2 1 ⟨Nat.le_trans hN (by decide), Nat.le_trans hR (by decide)⟩ ⟨rfl, rfl, rfl, rfl, rfl, rfl, rfl, trivial⟩ (by dsimp only; rw [hbs2]; rfl) (by dsimp only; rw [List.length_append]; rfl) rfl rfl rfl⟩
          · have hbt : bitAt c (k % 8) = false := by
              cases h : bitAt c (k % 8)
              · rfl
              · rw [h] at hb2; rw [decide_eq_false_iff_not] at hb; simp at hb2; omega
            rw [hbt] at hdr
            clear hb hb2
            have hnx := at_next (ms' := ms) (m := false) hat hdr hkm (fun h => by cases h.1)
            simp only [Bool.false_eq_true, if_false] at hnx
            have hbs : bas (ss ++ [E0]) = bas ss ++ [.ba E0] := by simp [bas]
            have hX := @hbl'
            refine mW ?_; clear H; intro a w H
            exact ⟨(k + 1, ss ++ [E0], at_), ⟨hnx, hal⟩, by dsimp only; omega, H.to 2 1 ⟨Nat.le_trans hN (by decide), Nat.le_trans hR (by decide)⟩ ⟨rfl, rfl, rfl, rfl, rfl, rfl, rfl, trivial⟩ (by dsimp only; rw [hbs]; rfl) (by dsimp only; rw [List.length_append]; rfl) rfl rfl rfl⟩
      · have hge : k = n := by rw [decide_eq_false_iff_not] at hb; omega
        subst hge
        clear hb
        have hrun := hat.ok rfl
        dsimp only at hrun
        rw [← hml, List.drop_length] at hrun
        simp only [runS, List.append_nil] at hrun
        rw [hrun]
        simp only [Bool.false_eq_true, if_false]
        have hd := decodeR_v (l.drop at_)
        obtain ⟨k1, k2, k3, k4⟩ := id (dec_wf (l.drop at_))
        simp only [Nd.av] at hd
        refine mW ?_; clear H; intro a w H
        refine mCall [] [] (hd) H ?_; clear H; intro a w H; try refine wpList_nil ?_
        refine mW ?_; clear H; intro a w H
        by_cases hdo : decOk (l.drop at_)
        · rw [if_pos hdo] at H
          rw [decide_eq_true hdo]
          simp only [Pf.av, Nd.av]
          refine mW ?_; clear H; intro a w H
          refine wp_ret ?_; exact mEnd [] [] [.cell 2 30, .tmp 3] [_, _] hN hR H
        · rw [if_neg hdo] at H
          rw [decide_eq_false hdo]
          simp only [Pf.av, Nd.av]
          refine mW ?_; clear H; intro a w H
          refine wp_ret ?_; exact mEnd [] [] [.cell 2 30, .tmp 3] [_, _] hN hR H
theorem readR_v (l : List UInt8) (hl : l.length ≤ 34359730000) : VC Try.prog 49 [.bs l none] [] (.tup [(rdR l).av, .v (.bool (rdQ l).2)]) := by
  by_cases h : l.length < 2 ∨ 256 < num 0 (l.take 2) ∨ (l.drop 2).length < (num 0 (l.take 2) + 7) / 8
  · have h0 := readR_small l hl h
    have e : rdR l = Pf.zero ∧ (rdQ l).2 = false := by
      unfold rdR rdQ
      rcases h with h | h | h
      · rw [if_pos h, if_pos h]; exact ⟨rfl, rfl⟩
      · by_cases h1 : l.length < 2
        · rw [if_pos h1, if_pos h1]; exact ⟨rfl, rfl⟩
        · rw [if_neg h1, if_neg h1, if_pos h, if_pos h]; exact ⟨rfl, rfl⟩
      · by_cases h1 : l.length < 2
        · rw [if_pos h1, if_pos h1]; exact ⟨rfl, rfl⟩
        · by_cases h2 : 256 < num 0 (l.take 2)
          · rw [if_neg h1, if_neg h1, if_pos h2, if_pos h2]; exact ⟨rfl, rfl⟩
          · rw [if_neg h1, if_neg h1, if_neg h2, if_neg h2, if_pos h, if_pos h]; exact ⟨rfl, rfl⟩
    rw [e.1, e.2]; exact h0
  · exact readR_main l hl (fun e => h (.inl e)) (fun e => h (.inr (.inl e))) (fun e => h (.inr (.inr e)))
set_option maxRecDepth 20000 in
set_option maxHeartbeats 1000000 in
theorem decPR_v (l : List UInt8) (hl : l.length ≤ 34359730000) : VC Try.prog 12 [.bs l none] [] (.tup [(pDec l).av, errv (if pOk l then 0 else 10)]) := by
  have hz2 := z32_len
  have hrd := readR_v l hl
  have hrk := rdR_ok l
  have hrw := rdR_wf l
  have hp : pOk l ↔ (rdQ l).2 = true ∧ (rdQ l).1.chk = 0 ∧ (rdQ l).1.text = l := Iff.rfl
  obtain ⟨q, hq⟩ : ∃ q, q = rdR l := ⟨_, rfl⟩
  rw [← hq] at hrd hrk hrw
  clear hq
  obtain ⟨g1, g2, g3, g4⟩ := id hrw.e
  cases hok : (rdQ l).2
  · rw [hok] at hrd
    have hno : ¬ pOk l := fun h => by rw [hp, hok] at h; cases h.1
    rw [if_neg hno, pDec, if_neg hno]
    refine mE Try.func12 ?_; intro N w0 a w hN hR H
    refine mW ?_; clear H; intro a w H
    simp only [Pf.av, Nd.av] at hrd
    refine mCall [] [] (hrd) H ?_; clear H; intro a w H; try refine wpList_nil ?_
    refine mW ?_; clear H; intro a w H
    refine mC H (fun hb => ?_) (fun hb => ?_)
    · refine mW ?_; clear H; intro a w H
      simp only [Pf.zero, Pf.av, Nd.av, Nd.zero, bas, List.map_nil]
      try simp only [hz] at H
      refine wp_ret ?_; exact mEnd [] [] [.cell 2 30, .tmp 3] [_, _] hN hR H
    · simp at hb
  · rw [hok] at hrd
    have hqe := hrk hok
    by_cases hc : q.chk = 0
    · have h2 := encR_ok q hrw hc
      by_cases ht : q.text = l
      · have hyes : pOk l := hp.2 ⟨hok, by rw [← hqe]; exact hc, by rw [← hqe]; exact ht⟩
        rw [if_pos hyes, pDec, if_pos hyes, ← hqe]
        refine mE Try.func12 ?_; intro N w0 a w hN hR H
        refine mW ?_; clear H; intro a w H
        simp only [Pf.av, Nd.av] at hrd h2
        refine mCall [] [] (hrd) H ?_; clear H; intro a w H; try refine wpList_nil ?_
        refine mW ?_; clear H; intro a w H
        refine mC H (fun hb => ?_) (fun hb => ?_)
        · simp at hb
        · refine mW ?_; clear H; intro a w H
          refine mCall [] [] (h2) H ?_; clear H; intro a w H; try refine wpList_nil ?_
          refine mW ?_; clear H; intro a w H
          refine mC H (fun hb => ?_) (fun hb => ?_)
          · exfalso; rw [ht] at hb; simp at hb
          · refine mW ?_; clear H; intro a w H
            simp only [Pf.av, Nd.av]
            refine wp_ret ?_; exact mEnd [] [] [.cell 2 30, .tmp 3] [_, _] hN hR H
      · have hno : ¬ pOk l := fun h => ht (by rw [hqe]; exact h.2.2)
        rw [if_neg hno, pDec, if_neg hno]
        refine mE Try.func12 ?_; intro N w0 a w hN hR H
        refine mW ?_; clear H; intro a w H
        simp only [Pf.av, Nd.av] at hrd h2
        refine mCall [] [] (hrd) H ?_; clear H; intro a w H; try refine wpList_nil ?_
        refine mW ?_; clear H; intro a w H
        refine mC H (fun hb => ?_) (fun hb => ?_)
        · simp at hb
        · refine mW ?_; clear H; intro a w H
          refine mCall [] [] (h2) H ?_; clear H; intro a w H; try refine wpList_nil ?_
          refine mW ?_; clear H; intro a w H
          refine mC H (fun hb => ?_) (fun hb => ?_)
          · refine mW ?_; clear H; intro a w H
            simp only [Pf.zero, Pf.av, Nd.av, Nd.zero, bas, List.map_nil]
            try simp only [hz] at H
            refine wp_ret ?_; exact mEnd [] [] [.cell 2 30, .tmp 3] [_, _] hN hR H
          · exfalso; simp [strOf_list] at hb; exact ht hb
    · have h2 := encR_bad q hrw hc
      have hno : ¬ pOk l := fun h => hc (by rw [hqe]; exact h.2.1)
      rw [if_neg hno, pDec, if_neg hno]
      refine mE Try.func12 ?_; intro N w0 a w hN hR H
      refine mW ?_; clear H; intro a w H
      simp only [Pf.av, Nd.av] at hrd h2
      refine mCall [] [] (hrd) H ?_; clear H; intro a w H; try refine wpList_nil ?_
      refine mW ?_; clear H; intro a w H
      refine mC H (fun hb => ?_) (fun hb => ?_)
      · simp at hb
      · refine mW ?_; clear H; intro a w H
        refine mCall [] [] (h2) H ?_; clear H; intro a w H; try refine wpList_nil ?_
        refine mW ?_; clear H; intro a w H
        refine mC H (fun hb => ?_) (fun hb => ?_)
        · refine mW ?_; clear H; intro a w H
          simp only [Pf.zero, Pf.av, Nd.av, Nd.zero, bas, List.map_nil]
          try simp only [hz] at H
          refine wp_ret ?_; exact mEnd [] [] [.cell 2 30, .tmp 3] [_, _] hN hR H
        · exfalso; simp [hc] at hb
end Go.Proofs.Ytnkeolokhcljpaa
/- Proofs as bytes: there and back, in plain Lean. -/
namespace Go.Proofs.Ytnkeolokhcljpaa
open Go Go.RowKit
def Pf.pre (p : Pf) (r : List UInt8) : List UInt8 := [UInt8.ofNat (p.s.length / 256), UInt8.ofNat p.s.length] ++ (p.bits ++ (hashes p.s ++ r))
theorem Pf.chk_ok {p : Pf} (h : p.chk = 0) : p.s.length ≤ 256 ∧ p.e.ok ∧ p.e.k ≠ 2 := by
  unfold Pf.chk at h
  split at h
  · cases h
  · split at h
    · rename_i h1 h2; exact ⟨by omega, h2⟩
    · cases h
theorem ntext_len {n : Nd} (hw : n.wf) (h2 : n.k ≠ 2) : n.text.length = 1 ∨ n.text.length = 65 := by
  obtain ⟨h1, h3, _, _⟩ := hw
  unfold Nd.text
  split
  · right; simp; omega
  · left; first | rfl | (rw [if_neg h2]; rfl)
theorem plen (p : Pf) (hw : p.wf) (h : p.chk = 0) : 3 ≤ p.text.length ∧ p.text.length ≤ 8291 := by
  obtain ⟨h1, h2, h3⟩ := p.chk_ok h
  have hl := ntext_len hw.e h3
  have hbl : p.bits.length = (p.s.length + 7) / 8 := bitsB_len _ _
  have hh := hashes_len p.s hw.s
  simp only [Pf.text, List.length_append, List.length_cons, List.length_nil]
  omega
end Go.Proofs.Ytnkeolokhcljpaa
