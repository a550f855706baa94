/- The statement BatchApplies, in values. -/
import Derived.Test.YtgffimanhmpohaaGreatPick
import Derived.Test.YtgffimanhmpohaaGreatOv
import Derived.Test.YtgffimanhmpohaaGreatMap2
import Derived.Test.YtgffimanhmpohaaGreatZa
import Derived.Test.YtgffimanhmpohaaGreatBits
set_option linter.unusedSimpArgs false
set_option linter.unusedVariables false
namespace Go.Proofs.YtgffimanhmpohaaGreat
open Go Go.RowKit
attribute [local irreducible] wpT
set_option maxRecDepth 20000 in
set_option maxHeartbeats 8000000 in
theorem batchApplies_v (l : List Pr) (ws : List Wr) (hK : K32 l) (hl : l.length ≤ 34359730000) (hW : K32W ws) (hwl2 : ws.length ≤ 34359730000) (hv2 : ∀ w ∈ ws, w.2.2.length ≤ 34359730000) (held : Bool) (x : Int) (hx : -9223372036854775808 ≤ x ∧ x ≤ 9223372036854775807) :
    VC Tryz.prog 4 [.sl prT (l.map prA) none, .sl wrT (ws.map wrA) none, .v (.bool held), .v (.int .i64 x)] [] (.v (.bool true)) := by
  have cM := map11_v l hK hl
  obtain ⟨k1, k2, k3, k4⟩ := mapF_facts l hK
  generalize mapF l = F at *
  have hwl : (ws.map wrA).length = ws.length := List.length_map ..
  have hFl : (F.map prA).length = F.length := List.length_map ..
  have hsep := sep_of F k1 k2.dis 0 (fun x _ y _ t ht => absurd ht (Nat.not_lt_zero t))
  have cP := pick_v x 30000 hx (by decide) (by decide)
  obtain ⟨rm, hrm⟩ : ∃ rm : Nat, 3000 + x % 30000 = (rm : Int) := ⟨(3000 + x % 30000).toNat, by omega⟩
  have hp1 : 0 ≤ x % 30000 ∧ x % 30000 < 30000 := by omega
  generalize x % 30000 = p at *
  have hr1 : 3000 ≤ rm ∧ rm ≤ 32999 := by omega
  have hnew := stoNew_v rm (by omega) (by omega)
  obtain ⟨t, h, E, I, _, C⟩ := build_ex 256 0 F (Slb.new rm) 0 rfl hsep k1 k4 (by omega) (good_new (by omega) (by omega)) (fun k x c hk => by rw [new_none] at hk; cases hk) (by decide) (by decide) (by show 0 + F.length * 257 ≤ rm; omega)
  have B0 := ba_new E I
  unfold bldC at C
  rw [show ((0 : Nat) : Int) = 0 from rfl] at C
  simp only [Slb.sx] at hnew C
  refine mE Tryz.func4 ?_; intro N w0 a w hN hR H
  have hM : N.bx.length ≤ 0 ∧ N.rw.length ≤ 0 := ⟨hN, hR⟩
  have hX := And.intro @hwl (@hFl)
  refine mW ?_; clear H; intro a w H
  refine mCall [] [] (cM) H ?_; clear H; intro a w H; try refine wpList_nil ?_
  refine mW ?_; clear H; intro a w H
  refine mC H (fun hb => ?_) (fun hb => ?_)
  · clear hb
    refine mW ?_; clear H; intro a w H
    refine wp_ret ?_; exact mEnd [] [] [.tmp 8] [_] hN hR H
  have hwn : ws.length ≤ 70 := by
    have : decide ((70 : Int) < (ws.length : Int)) = false := hb
    rw [decide_eq_false_iff_not] at this; omega
  clear hb cM
  refine mW ?_; clear H; intro a w H
  refine mCall [] [] (cP) H ?_; clear H; intro a w H; try refine wpList_nil ?_
  refine mW ?_; clear H; intro a w H
  rw [hrm] at H
  refine mCall [] [] (hnew) H ?_; clear H; intro a w H; try refine wpList_nil ?_
  refine mW ?_; clear H; intro a w H
  refine mC H (fun hb => ?_) (fun hb => ?_)
  · exact absurd hb (by simp)
  clear hb
  refine mW ?_; clear H; intro a w H
  refine mCall [0, 1, 2, 3] [] (C) H ?_; clear H; intro a w H; try refine wpList_nil ?_
  replace H := mK [0, 1, 2, 3, 9, 47] 4 0 hN hR H
  (try refine wp_region_lit ?_); refine mN 2 hN H ?_; clear H; intro a w H
  (try refine wp_region_lit ?_); refine mN 3 hN H ?_; clear H; intro a w H
  refine mS ?_
  replace H := mK [0, 1, 2, 3, 9, 11, 12] 4 0 hN hR H
  revert a w
  apply cutG7 (R := fun a w => ∃ s : Slb, BaS s rm F h (if held then 2 else 1) ∧ Rel Tryz.prog w0 N Tryz.f4.ntmps ⟨[(64, none, .v (.bool false)), (0, none, .sl prT (F.map prA) none), (1, none, .sl wrT (ws.map wrA) none), (2, none, .v (.bool held)), (3, none, .v (.int .i64 (rm : Int))), (9, none, .ptr 0 []), (11, none, .v (.int .i64 h))], s.sx, [], []⟩ a w)
  · intro key1 a w H
    cases held with
    | false =>
      (try refine wp_region_lit ?_); refine mN 3 hN H ?_; clear H; intro a w H
      (try refine wp_region_lit ?_); refine mN 2 hN H ?_; clear H; intro a w H
      replace H := v_known H 52 false rfl
      simp only [unG, gdEq, Nat.reduceBEq, cond_true, cond_false] at H
      refine mSk .any H ?_; clear H; intro a w H
      refine mSk (.v (.bool false)) H ?_; clear H; intro a w H
      (try refine wp_region_lit ?_); refine mN 1 hN H ?_; clear H; intro a w H
      replace H := v_known H 52 false rfl
      simp only [unG, gdEq, Nat.reduceBEq, cond_true, cond_false] at H
      (try refine wp_region_lit ?_); refine mN 1 hN H ?_; clear H; intro a w H
      replace H := v_known H 52 false rfl
      simp only [unG, gdEq, Nat.reduceBEq, cond_true, cond_false] at H
      refine mSk .any H ?_; clear H; intro a w H
      refine mSk .any H ?_; clear H; intro a w H
      refine mSk .any H ?_; clear H; intro a w H
      refine mSk (.v (.bool false)) H ?_; clear H; intro a w H
      (try refine wp_region_lit ?_); refine mN 1 hN H ?_; clear H; intro a w H
      replace H := v_known H 52 false rfl
      simp only [unG, gdEq, Nat.reduceBEq, cond_true, cond_false] at H
      (try refine wp_region_lit ?_); refine mN 1 hN H ?_; clear H; intro a w H
      exact key1 _ _ ⟨t, B0, H.to 4 0 ⟨Nat.le_trans hN (Nat.zero_le _), hR⟩ ⟨rfl, rfl, rfl, rfl, rfl, rfl, rfl, trivial⟩ rfl rfl rfl rfl rfl⟩
    | true =>
      (try refine wp_region_lit ?_); refine mN 3 hN H ?_; clear H; intro a w H
      (try refine wp_region_lit ?_); refine mN 2 hN H ?_; clear H; intro a w H
      replace H := v_known H 52 false rfl
      simp only [unG, gdEq, Nat.reduceBEq, cond_true, cond_false] at H
      replace H := v_known H 54 true rfl
      simp only [unG, gdEq, Nat.reduceBEq, cond_true, cond_false] at H
      (try refine wp_region_lit ?_); refine mN 2 hN H ?_; clear H; intro a w H
      replace H := v_known H 54 true rfl
      simp only [unG, gdEq, Nat.reduceBEq, cond_true, cond_false] at H
      by_cases h0 : h = 0
      · subst h0
        try simp only [ne_eq, not_true_eq_false, decide_false] at H
        (try refine wp_region_lit ?_); refine mN 1 hN H ?_; clear H; intro a w H
        replace H := v_known H 52 false rfl
        simp only [unG, gdEq, Nat.reduceBEq, cond_true, cond_false] at H
        (try refine wp_region_lit ?_); refine mN 1 hN H ?_; clear H; intro a w H
        replace H := v_known H 52 false rfl
        simp only [unG, gdEq, Nat.reduceBEq, cond_true, cond_false] at H
        refine mSk .any H ?_; clear H; intro a w H
        refine mSk .any H ?_; clear H; intro a w H
        refine mSk .any H ?_; clear H; intro a w H
        refine mSk (.v (.bool false)) H ?_; clear H; intro a w H
        (try refine wp_region_lit ?_); refine mN 1 hN H ?_; clear H; intro a w H
        replace H := v_known H 52 false rfl
        simp only [unG, gdEq, Nat.reduceBEq, cond_true, cond_false] at H
        (try refine wp_region_lit ?_); refine mN 1 hN H ?_; clear H; intro a w H
        exact key1 _ _ ⟨t, B0.zero, H.to 4 0 ⟨Nat.le_trans hN (Nat.zero_le _), hR⟩ ⟨rfl, rfl, rfl, rfl, rfl, rfl, rfl, trivial⟩ rfl rfl rfl rfl rfl⟩
      obtain ⟨s, B1, V1⟩ := B0.hold h0
      have hd0 : decide (h = 0) = false := decide_eq_false h0
      simp only [Slb.sx] at V1
      try simp only [hd0, Bool.not_false] at H
      (try refine wp_region_lit ?_); refine mN 1 hN H ?_; clear H; intro a w H
      replace H := v_known H 52 false rfl
      simp only [unG, gdEq, Nat.reduceBEq, cond_true, cond_false] at H
      (try refine wp_region_lit ?_); refine mN 1 hN H ?_; clear H; intro a w H
      replace H := v_known H 52 false rfl
      simp only [unG, gdEq, Nat.reduceBEq, cond_true, cond_false] at H
      (try refine wp_region_lit ?_); refine mN 2 hN H ?_; clear H; intro a w H
      replace H := v_known H 58 true rfl
      simp only [unG, gdEq, Nat.reduceBEq, cond_true, cond_false] at H
      refine mG H ?_
      refine mCall [0, 1, 2, 3] [] (V1) H ?_; clear H; intro a w H; try refine wpList_nil ?_
      (try refine wp_region_lit ?_); refine mN 1 hN H ?_; clear H; intro a w H
      replace H := v_known H 58 true rfl
      simp only [unG, gdEq, Nat.reduceBEq, cond_true, cond_false] at H
      (try refine wp_region_lit ?_); refine mN 1 hN H ?_; clear H; intro a w H
      replace H := v_known H 52 false rfl
      simp only [unG, gdEq, Nat.reduceBEq, cond_true, cond_false] at H
      (try refine wp_region_lit ?_); refine mN 1 hN H ?_; clear H; intro a w H
      exact key1 _ _ ⟨s, B1, H.to 4 0 ⟨Nat.le_trans hN (Nat.zero_le _), hR⟩ ⟨rfl, rfl, rfl, rfl, rfl, rfl, rfl, trivial⟩ rfl rfl rfl rfl rfl⟩
  clear B0 C E I hnew
  rintro a w ⟨s, B, H⟩
  simp only [Slb.sx, stoB, slbB] at H
  have hN : N.bx.length ≤ 0 := hM.1
  have hR : N.rw.length ≤ 0 := hM.2
  have hη : (if held then 2 else 1 : Int) = 1 ∨ (if held then 2 else 1 : Int) = 2 := by cases held <;> simp
  generalize hηe : (if held then 2 else 1 : Int) = η at *
  have G := B.g
  have hrms := B.rm
  have hur := G.d.room
  have hwf := G.d.wf
  have hoc := stoOcc_v s hwf
  have hdg := stoDigest_v s hwf h
  rw [B.is.dig hsep rfl] at hdg
  have hRl : (rootA 256 0 (dgs F)).length = 32 := rootA_len _ _ _
  generalize hRe : rootA 256 0 (dgs F) = R at *
  simp only [Slb.sx] at hoc hdg
  refine mS ?_
  refine mC H (fun hb => ?_) (fun hb => ?_)
  · cases hb
  clear hb
  refine mW ?_; clear H; intro a w H
  have e0 : decide ((64 : Int) < (ws.length : Int)) = lngK ws 0 := by
    unfold lngK
    rw [List.take_zero, List.any_nil, Bool.or_false]
    by_cases e : 64 < ws.length
    · rw [decide_eq_true e, decide_eq_true (by omega)]
    rw [decide_eq_false e, decide_eq_false (by omega)]
  rw [e0] at H
  refine v_loop (fun k : Nat => ⟨[(14, none, .v (.int .i64 (k : Int))), (13, none, .v (.bool (lngK ws k))), (0, none, .sl prT (F.map prA) none), (1, none, .sl wrT (ws.map wrA) none), (2, none, .v (.bool held)), (3, none, .v (.int .i64 (rm : Int))), (9, none, .ptr 0 []), (11, none, .v (.int .i64 h))],
    [(stoT, .st [.ptr 1 []]), (slbT, .st [.vw 2 s.γ s.sl.length, .vw 3 s.δ s.m, .v (.int .i64 (s.room : Int)), .v (.int .i64 (s.used : Int))]), (.vc 148 sltT, .vc s.γ (s.sl.map slA)), (.vc 3 .sc, .vc s.δ (s.fs.map inA))], [], []⟩) (fun k => k ≤ ws.length) (fun k => ws.length - k) 0 (Nat.zero_le _)
    (H.to 4 0 ⟨Nat.le_trans hN (Nat.zero_le _), hR⟩ ⟨rfl, rfl, rfl, rfl, rfl, rfl, rfl, rfl, trivial⟩ rfl rfl rfl rfl rfl) ?_
  clear H
  intro k a w hk H
  refine mW ?_; clear H; intro a w H
  refine mC H (fun hb => ?_) (fun hb => ?_)
  · have hlt : k < ws.length := by rw [decide_eq_true_eq] at hb; omega
    clear hb
    have hg := wrA_get ws k hlt
    have hstp := lngK_step ws k hlt
    have hz := hW _ (List.getElem_mem hlt)
    obtain ⟨q, hqe⟩ : ∃ q, ws[k] = q := ⟨_, rfl⟩
    rw [hqe] at hg hstp hz
    obtain ⟨kq, gq, vq⟩ := q
    dsimp only at hg hz
    unfold tooL at hstp
    dsimp only at hstp
    generalize lngK ws k = b at *
    cases b with
    | true =>
      rw [Bool.true_or] at hstp
      refine mS ?_
      clear hX; have hX := And.intro @hwl (And.intro @hFl (And.intro @hg (@hz)))
      (try refine wp_region_lit ?_); refine mN 2 hN H ?_; clear H; intro a w H
      refine mSk .any H ?_; clear H; intro a w H
      refine mSk .any H ?_; clear H; intro a w H
      refine mSk .any H ?_; clear H; intro a w H
      refine mSk .any H ?_; clear H; intro a w H
      refine mSk .any H ?_; clear H; intro a w H
      refine mSk .any H ?_; clear H; intro a w H
      refine mSk .any H ?_; clear H; intro a w H
      refine mSk2 .any H ?_; clear H; intro a w H
      refine mSk2 .any H ?_; clear H; intro a w H
      refine mSk2 .any H ?_; clear H; intro a w H
      refine mSk2 .any H ?_; clear H; intro a w H
      refine mSk2 .any H ?_; clear H; intro a w H
      refine mSk2 .any H ?_; clear H; intro a w H
      refine mSk2 .any H ?_; clear H; intro a w H
      refine mSk (.v (.bool false)) H ?_; clear H; intro a w H
      (try refine wp_region_lit ?_); refine mN 1 hN H ?_; clear H; intro a w H
      (try refine wp_region_lit ?_); refine mN 1 hN H ?_; clear H; intro a w H
      refine mW ?_; clear H; intro a w H
      rw [← hstp, show (k : Int) + 1 = ((k + 1 : Nat) : Int) by omega] at H
      exact ⟨k + 1, hlt, by omega, H.to 4 0 ⟨Nat.le_trans hN (Nat.zero_le _), hR⟩ ⟨rfl, rfl, rfl, rfl, rfl, rfl, rfl, rfl, trivial⟩ rfl rfl rfl rfl rfl⟩
    | false =>
      rw [Bool.false_or] at hstp
      refine mS ?_
      clear hX; have hX := And.intro @hwl (And.intro @hFl (And.intro @hg (@hz)))
      (try refine wp_region_lit ?_); refine mN 2 hN H ?_; clear H; intro a w H
      (try refine wp_region_lit ?_); refine mN 2 hN H ?_; clear H; intro a w H
      replace H := v_known H 75 false rfl
      simp only [unG, gdEq, Nat.reduceBEq, cond_true, cond_false] at H
      (try refine wp_region_lit ?_); refine mN 1 hN H ?_; clear H; intro a w H
      replace H := v_known H 75 false rfl
      simp only [unG, gdEq, Nat.reduceBEq, cond_true, cond_false] at H
      (try refine wp_region_lit ?_); refine mN 1 hN H ?_; clear H; intro a w H
      replace H := v_known H 75 false rfl
      simp only [unG, gdEq, Nat.reduceBEq, cond_true, cond_false] at H
      (try refine wp_region_lit ?_); refine mN 1 hN H ?_; clear H; intro a w H
      replace H := v_known H 75 false rfl
      simp only [unG, gdEq, Nat.reduceBEq, cond_true, cond_false] at H
      cases gq with
      | true =>
        (try refine wp_region_lit ?_); refine mN 1 hN H ?_; clear H; intro a w H
        replace H := v_known H 75 false rfl
        simp only [unG, gdEq, Nat.reduceBEq, cond_true, cond_false] at H
        (try refine wp_region_lit ?_); refine mN 1 hN H ?_; clear H; intro a w H
        replace H := v_known H 75 false rfl
        simp only [unG, gdEq, Nat.reduceBEq, cond_true, cond_false] at H
        refine mSk .any H ?_; clear H; intro a w H
        refine mSk .any H ?_; clear H; intro a w H
        refine mSk .any H ?_; clear H; intro a w H
        refine mSk .any H ?_; clear H; intro a w H
        refine mSk .any H ?_; clear H; intro a w H
        refine mSk .any H ?_; clear H; intro a w H
        refine mSk (.v (.bool false)) H ?_; clear H; intro a w H
        (try refine wp_region_lit ?_); refine mN 1 hN H ?_; clear H; intro a w H
        replace H := v_known H 75 false rfl
        simp only [unG, gdEq, Nat.reduceBEq, cond_true, cond_false] at H
        (try refine wp_region_lit ?_); refine mN 1 hN H ?_; clear H; intro a w H
        (try refine wp_region_lit ?_); refine mN 1 hN H ?_; clear H; intro a w H
        refine mW ?_; clear H; intro a w H
        rw [show (!true && decide (1024 < vq.length)) = false from rfl] at hstp
        rw [← hstp, show (k : Int) + 1 = ((k + 1 : Nat) : Int) by omega] at H
        exact ⟨k + 1, hlt, by omega, H.to 4 0 ⟨Nat.le_trans hN (Nat.zero_le _), hR⟩ ⟨rfl, rfl, rfl, rfl, rfl, rfl, rfl, rfl, trivial⟩ rfl rfl rfl rfl rfl⟩
      | false =>
        (try refine wp_region_lit ?_); refine mN 1 hN H ?_; clear H; intro a w H
        replace H := v_known H 75 false rfl
        simp only [unG, gdEq, Nat.reduceBEq, cond_true, cond_false] at H
        (try refine wp_region_lit ?_); refine mN 1 hN H ?_; clear H; intro a w H
        replace H := v_known H 75 false rfl
        simp only [unG, gdEq, Nat.reduceBEq, cond_true, cond_false] at H
        (try refine wp_region_lit ?_); refine mN 2 hN H ?_; clear H; intro a w H
        replace H := v_known H 82 true rfl
        simp only [unG, gdEq, Nat.reduceBEq, cond_true, cond_false] at H
        (try refine wp_region_lit ?_); refine mN 1 hN H ?_; clear H; intro a w H
        replace H := v_known H 82 true rfl
        simp only [unG, gdEq, Nat.reduceBEq, cond_true, cond_false] at H
        (try refine wp_region_lit ?_); refine mN 1 hN H ?_; clear H; intro a w H
        replace H := v_known H 82 true rfl
        simp only [unG, gdEq, Nat.reduceBEq, cond_true, cond_false] at H
        (try refine wp_region_lit ?_); refine mN 1 hN H ?_; clear H; intro a w H
        replace H := v_known H 82 true rfl
        simp only [unG, gdEq, Nat.reduceBEq, cond_true, cond_false] at H
        (try refine wp_region_lit ?_); refine mN 1 hN H ?_; clear H; intro a w H
        replace H := v_known H 82 true rfl
        simp only [unG, gdEq, Nat.reduceBEq, cond_true, cond_false] at H
        (try refine wp_region_lit ?_); refine mN 1 hN H ?_; clear H; intro a w H
        replace H := v_known H 82 true rfl
        simp only [unG, gdEq, Nat.reduceBEq, cond_true, cond_false] at H
        have e1 : decide ((1024 : Int) < (vq.length : Int)) = lngK ws (k + 1) := by
          rw [hstp]
          by_cases e : 1024 < vq.length
          · rw [decide_eq_true e, decide_eq_true (by omega)]; rfl
          rw [decide_eq_false e, decide_eq_false (by omega)]; rfl
        rw [e1] at H
        (try refine wp_region_lit ?_); refine mN 1 hN H ?_; clear H; intro a w H
        replace H := v_known H 75 false rfl
        simp only [unG, gdEq, Nat.reduceBEq, cond_true, cond_false] at H
        (try refine wp_region_lit ?_); refine mN 1 hN H ?_; clear H; intro a w H
        (try refine wp_region_lit ?_); refine mN 1 hN H ?_; clear H; intro a w H
        refine mW ?_; clear H; intro a w H
        rw [show (k : Int) + 1 = ((k + 1 : Nat) : Int) by omega] at H
        exact ⟨k + 1, hlt, by omega, H.to 4 0 ⟨Nat.le_trans hN (Nat.zero_le _), hR⟩ ⟨rfl, rfl, rfl, rfl, rfl, rfl, rfl, rfl, trivial⟩ rfl rfl rfl rfl rfl⟩
  have hge : k = ws.length := by rw [decide_eq_false_iff_not] at hb; omega
  subst hge
  clear hb
  rw [lngK_all] at H
  clear hX; have hX := And.intro @hwl (And.intro @hFl (@hRl))
  refine mW ?_; clear H; intro a w H
  refine mCall [0, 1, 2, 3] [] (hoc) H ?_; clear H; intro a w H; try refine wpList_nil ?_
  refine mW ?_; clear H; intro a w H
  refine mCall [0, 1, 2, 3] [] (hdg) H ?_; clear H; intro a w H; try refine wpList_nil ?_
  refine mW ?_; clear H; intro a w H
  replace H := v_ref H 16 4 (Nat.le_trans hN (Nat.zero_le _)) rfl rfl rfl
  simp only [nilT, strip, Nat.reduceEqDiff, reduceIte] at H
  replace H := mK [0, 1, 2, 3, 9, 11, 13, 15, 16, 97] 4 0 hN hR H
  replace H := v_fz H
  simp only [List.length_cons, List.length_nil, Nat.reduceAdd, List.filter_cons, List.filter_nil, Nat.reduceLT, Nat.lt_irrefl, decide_true, decide_false, if_true, if_false, Bool.false_eq_true] at H
  have cW := lentW_E ws hW hv2 (by omega)
  have cKW := keptW_v ws hW hv2 (by omega)
  have hroot := B.is.root hsep
  have hhd := B.hd hη
  have cO := rorder_v ws hW hv2 (by omega)
  rw [refF_eq ws hW] at cO
  have hOn : ((srtW (lstW ws)).map wrA).length = (lstW ws).length := by rw [List.length_map]; exact (srtW_perm _).length_eq
  have hOn2 := lstW_len ws
  have hrm9 := hwf.room.2
  refine v_callE cW (FrX.refl _ _ _) (Nat.le_refl _) (Xs.nil _ _ _) H (by rintro Y bx' rw' res ⟨rfl, rfl, rfl, _⟩; exact ⟨by rfl, rfl⟩) ?_
  clear H
  rintro YW bx' rw' res a w1 ⟨rfl, rfl, rfl, hTW⟩ H
  replace H := nfX H
  clear hN hR
  rw [List.nil_append] at H
  obtain ⟨N1, hB, hZ, H, hN1, hR1⟩ := H.open_
  have hN : N1.bx.length ≤ 4 := Nat.le_of_eq hN1
  have hR : N1.rw.length ≤ 0 := Nat.le_of_eq hR1
  clear hN1 hR1
  have lW : YW.length = ws.length := by have := hTW.1; rwa [List.length_map] at this
  have hYW := wxs_len ws YW lW
  clear hX; have hX := And.intro @hwl (And.intro @hFl (And.intro @hRl (And.intro @hOn (@hYW))))
  refine mW ?_; clear H; intro a w H
  replace H := v_seeX hZ H 102 _ (wxs_seeT hTW (fun x hx => hx)) rfl
  simp only [nilT, reduceIte, Nat.reduceEqDiff] at H
  cases hlw : longW ws with
  | true =>
    rw [hlw] at H
    have V := applyE_v s hwf hur h hroot hhd ws hW (by omega) hv2 (by rw [wrongE_long hlw]; decide)
    rw [wrongE_long hlw] at V
    simp only [Slb.sx] at V
    refine mCall [0, 1, 2, 3] [] (V) H ?_; clear H; intro a w H; try refine wpList_nil ?_
    refine mW ?_; clear H; intro a w H
    replace H := v_seeX hZ H 106 _ (wxs_lent hTW (fun x hx => hx)) rfl
    simp only [nilT, reduceIte, Nat.reduceEqDiff] at H
    refine mCall [] [] (cKW) H ?_; clear H; intro a w H; try refine wpList_nil ?_
    refine mW ?_; clear H; intro a w H
    refine mC H (fun hb => ?_) (fun hb => ?_)
    · simp at hb
    clear hb
    refine mS ?_
    (try refine wp_region_lit ?_); refine mN 2 hN H ?_; clear H; intro a w H
    refine mSk .any H ?_; clear H; intro a w H
    refine mSk .any H ?_; clear H; intro a w H
    refine mSk .any H ?_; clear H; intro a w H
    refine mSk .any H ?_; clear H; intro a w H
    refine mSk .any H ?_; clear H; intro a w H
    refine mSk .any H ?_; clear H; intro a w H
    refine mSk .any H ?_; clear H; intro a w H
    refine mSk (.v (.bool false)) H ?_; clear H; intro a w H
    (try refine wp_region_lit ?_); refine mN 1 hN H ?_; clear H; intro a w H
    refine mS ?_
    refine mC H (fun hb => ?_) (fun hb => ?_)
    · clear hb
      refine mW ?_; clear H; intro a w H
      refine mC H (fun hb => ?_) (fun hb => ?_)
      · clear hb
        refine mW ?_; clear H; intro a w H
        have huu : decide ((s.used : Int) = (s.used : Int)) = true := decide_eq_true rfl
        have hRR : decide (R = R) = true := decide_eq_true rfl
        refine mS ?_; refine mD 0 [9, 16] [10, 17] H ?_; clear H; intro gS H
        refine mTN 2 hN H ?_; clear H; intro a w H; simp only [drL]
        refine mTN 1 hN H ?_; clear H; intro a w H; simp only [drL]
        try simp only [decide_true] at H
        refine mTN 1 hN H ?_; clear H; intro a w H; simp only [drL]
        refine mTN 1 hN H ?_; clear H; intro a w H; simp only [drL]
        replace H := v_knownT H 125 true (by rfl)
        simp only [unG, gdEq, Nat.reduceBEq, cond_true, cond_false] at H
        replace H := ntf H
        refine mTN 1 hN H ?_; clear H; intro a w H; simp only [drL]
        replace H := v_knownT H 125 true (by rfl)
        simp only [unG, gdEq, Nat.reduceBEq, cond_true, cond_false] at H
        replace H := ntf H
        refine mTN 1 hN H ?_; clear H; intro a w H; simp only [drL]
        refine mTN 1 hN H ?_; clear H; intro a w H; simp only [drL]
        refine mTN 1 hN H ?_; clear H; intro a w H; simp only [drL]
        replace H := v_knownT H 129 true (by rfl)
        simp only [unG, gdEq, Nat.reduceBEq, cond_true, cond_false] at H
        replace H := ntf H
        refine v_guardT H (by rfl) (by rfl) (by rfl) ?_
        refine mCallT [0, 1, 2, 3] [] (hoc) H ?_; clear H; intro a w H
        refine mTN 1 hN H ?_; clear H; intro a w H; simp only [drL]
        replace H := v_knownT H 129 true (by rfl)
        simp only [unG, gdEq, Nat.reduceBEq, cond_true, cond_false] at H
        replace H := ntf H
        refine mTN 1 hN H ?_; clear H; intro a w H; simp only [drL]
        replace H := v_knownT H 129 true (by rfl)
        simp only [unG, gdEq, Nat.reduceBEq, cond_true, cond_false] at H
        replace H := ntf H
        try simp only [huu] at H
        refine mTN 1 hN H ?_; clear H; intro a w H; simp only [drL]
        refine mTN 1 hN H ?_; clear H; intro a w H; simp only [drL]
        refine mTN 2 hN H ?_; clear H; intro a w H; simp only [drL]
        replace H := v_knownT H 135 true (by rfl)
        simp only [unG, gdEq, Nat.reduceBEq, cond_true, cond_false] at H
        replace H := ntf H
        refine v_guardT H (by rfl) (by rfl) (by rfl) ?_
        refine mCallT [0, 1, 2, 3] [] (hdg) H ?_; clear H; intro a w H
        refine mTN 1 hN H ?_; clear H; intro a w H; simp only [drL]
        replace H := v_knownT H 135 true (by rfl)
        simp only [unG, gdEq, Nat.reduceBEq, cond_true, cond_false] at H
        replace H := ntf H
        refine mTN 1 hN H ?_; clear H; intro a w H; simp only [drL]
        replace H := v_knownT H 135 true (by rfl)
        simp only [unG, gdEq, Nat.reduceBEq, cond_true, cond_false] at H
        replace H := ntf H
        try simp only [hRR] at H
        refine mTN 1 hN H ?_; clear H; intro a w H; simp only [drL]
        refine mT ?_; clear H; intro a w H
        refine v_drawNil H ?_; clear H; intro H
        refine mW ?_; clear H; intro a w H
        have H := (RelX.close hB hZ H).rel
        have hN := hM.1
        have hR := hM.2
        refine wp_ret ?_; exact mEnd [] [] [.tmp 8] [_] hN hR H
      cases hb
    cases hb
  | false =>
    rw [hlw] at H
    by_cases hfit : s.used + 258 * (lstW ws).length ≤ s.room
    · have he := wrongE_fine hlw hfit
      obtain ⟨t2, u, now, n, q1, q2, q3, O⟩ := applies_ex G hη B.hh B.is k2 k1 k4 k3 hW hwn he
      have V := apply_v s t2 u hwf hur h now hroot hhd ws hW (by omega) hv2 he q1 n q2 q3
      simp only [Slb.sx] at V
      refine mCall [0, 1, 2, 3] [] (V) H ?_; clear H; intro a w H; try refine wpList_nil ?_
      refine mW ?_; clear H; intro a w H
      replace H := v_seeX hZ H 106 _ (wxs_lent hTW (fun x hx => hx)) rfl
      simp only [nilT, reduceIte, Nat.reduceEqDiff] at H
      refine mCall [] [] (cKW) H ?_; clear H; intro a w H; try refine wpList_nil ?_
      refine mW ?_; clear H; intro a w H
      refine mC H (fun hb => ?_) (fun hb => ?_)
      · simp at hb
      clear hb
      refine mS ?_
      (try refine wp_region_lit ?_); refine mN 2 hN H ?_; clear H; intro a w H
      (try refine wp_region_lit ?_); refine mN 2 hN H ?_; clear H; intro a w H
      replace H := v_known H 111 false rfl
      simp only [unG, gdEq, Nat.reduceBEq, cond_true, cond_false] at H
      refine mG H ?_
      refine mCall [] [] (cO) H ?_; clear H; intro a w H; try refine wpList_nil ?_
      (try refine wp_region_lit ?_); refine mN 1 hN H ?_; clear H; intro a w H
      replace H := v_known H 111 false rfl
      simp only [unG, gdEq, Nat.reduceBEq, cond_true, cond_false] at H
      (try refine wp_region_lit ?_); refine mN 1 hN H ?_; clear H; intro a w H
      replace H := v_known H 111 false rfl
      simp only [unG, gdEq, Nat.reduceBEq, cond_true, cond_false] at H
      (try refine wp_region_lit ?_); refine mN 1 hN H ?_; clear H; intro a w H
      replace H := v_known H 111 false rfl
      simp only [unG, gdEq, Nat.reduceBEq, cond_true, cond_false] at H
      (try refine wp_region_lit ?_); refine mN 1 hN H ?_; clear H; intro a w H
      replace H := v_known H 111 false rfl
      simp only [unG, gdEq, Nat.reduceBEq, cond_true, cond_false] at H
      (try refine wp_region_lit ?_); refine mN 1 hN H ?_; clear H; intro a w H
      replace H := v_known H 111 false rfl
      simp only [unG, gdEq, Nat.reduceBEq, cond_true, cond_false] at H
      (try refine wp_region_lit ?_); refine mN 1 hN H ?_; clear H; intro a w H
      refine mS ?_
      refine mC H (fun hb => ?_) (fun hb => ?_)
      · exfalso
        have : decide ((rm : Int) < (s.used : Int) + 258 * ((lstW ws).length : Int)) = true := hb
        rw [decide_eq_true_eq] at this
        omega
      clear hb V q1 q2 q3 cO cW cKW
      have FM := ba_ov k2 k1 k4 k3 hW hwn hlw
      have hMd : Dis (liveW (ovZ F ws)) := (order_is F ws k1 hW k2.dis).ris.dis
      have hMl : (liveW (ovZ F ws)).length ≤ 80 := by
        have h1 := lstW_len (F.map pwW ++ ws)
        have h2 : (ovZ F ws).length = (lstW (F.map pwW ++ ws)).length := (srtW_perm _).length_eq
        have h3 := liveW_len (ovZ F ws)
        rw [List.length_append, List.length_map] at h1; omega
      have cU := rover_v F ws k1 hW (fun x hx => Nat.le_trans (k4 x hx) (by decide)) hv2 (by omega) (by omega)
      generalize liveW (ovZ F ws) = M at *
      have herr : errP M = 0 := (errP_iff M).2 ⟨by omega, hMd, FM.v⟩
      have cRt := rootR_v M FM.k (by omega)
      rw [rootE_ok M FM.k herr] at cRt
      dsimp only at cRt
      have uwf := O.d.wf
      have DgU := stoDigest_v u uwf now
      rw [O.is.dig FM.s rfl] at DgU
      have SzU := stoSize_v u uwf now
      rw [O.is.size FM.s] at SzU
      have RtU := stoRoot_v u uwf now
      rw [O.is.root FM.s] at RtU
      have OcU := stoOcc_v u uwf
      have HdU := stoHeld_v u uwf now
      have cT := tree11_v 256 0 M rfl FM.k FM.s (by omega)
      rw [show ((0 : Nat) : Int) = 0 from rfl] at cT
      have cF := fresh11_v F M k1 FM.k hsep FM.s (by omega) (by omega)
      have hTl : ((treeN 256 0 M).map ndsA).length = (treeN 256 0 M).length := List.length_map ..
      have hTb := treeN_len 256 0 M
      have hfb : freshN (treeN 256 0 F) (treeN 256 0 M) ≤ (treeN 256 0 M).length := List.countP_le_length
      have hTb2 : (treeN 256 0 M).length ≤ 100000 := Nat.le_trans hTb (by omega)
      have hR2l : (rootA 256 0 (dgs M)).length = 32 := rootA_len _ _ _
      have hMm : (M.map prA).length = M.length := List.length_map ..
      have oHeld := O.held
      have oOne := O.one
      have oDg : η = 2 → VX Tryz.prog 9 u.sx [] [] [.ptr 0 [], .v (.int .i64 h)] u.sx [] [] (.ba R) := fun e => by
        have := stoDigest_v u uwf h
        rw [(O.two e).2.dig hsep rfl, hRe] at this
        exact this
      have oTwo : η = 2 → u.used = s.used + freshN (treeN 256 0 F) (treeN 256 0 M) := fun e => (O.two e).1
      clear O
      generalize rootA 256 0 (dgs M) = R2 at *
      generalize freshN (treeN 256 0 F) (treeN 256 0 M) = nfr at *
      generalize (treeN 256 0 M).map ndsA = tl at *
      generalize (treeN 256 0 M).length = ntr at *
      simp only [Slb.sx] at DgU SzU RtU OcU HdU oDg
      have hRR : decide (R2 = R2) = true := decide_eq_true rfl
      have hMM : decide ((M.length : Int) = (M.length : Int)) = true := decide_eq_true rfl
      clear hX; have hX := And.intro @hwl (And.intro @hFl (And.intro @hRl (And.intro @hR2l (And.intro @hMm (@hTl)))))
      refine mW ?_; clear H; intro a w H
      refine mCall [] [] (cU) H ?_; clear H; intro a w H; try refine wpList_nil ?_
      refine mW ?_; clear H; intro a w H
      refine mCall [] [] (cRt) H ?_; clear H; intro a w H; try refine wpList_nil ?_
      refine mW ?_; clear H; intro a w H
      replace H := v_ref H 22 4 (Nat.le_trans hN (Nat.le_refl _)) rfl rfl rfl
      simp only [nilT, strip, Nat.reduceEqDiff, reduceIte] at H
      replace H := mK [0, 1, 2, 3, 9, 11, 13, 15, 16, 18, 19, 21, 22, 23] 4 0 hN hR H
      replace H := v_fz H
      simp only [List.length_cons, List.length_nil, Nat.reduceAdd, List.filter_cons, List.filter_nil, Nat.reduceLT, Nat.lt_irrefl, decide_true, decide_false, if_true, if_false, Bool.false_eq_true] at H
      refine mS ?_; refine mD 0 [5, 12, 20] [6, 13, 14] H ?_; clear H; intro gS H
      refine mTN 2 hN H ?_; clear H; intro a w H; simp only [drL]
      refine mTN 1 hN H ?_; clear H; intro a w H; simp only [drL]
      refine mTN 2 hN H ?_; clear H; intro a w H; simp only [drL]
      replace H := v_knownT H 152 false (by rfl)
      simp only [unG, gdEq, Nat.reduceBEq, cond_true, cond_false] at H
      replace H := ntf H
      refine v_guardT H (by rfl) (by rfl) (by rfl) ?_
      refine mCallT [0, 1, 2, 3] [] (DgU) H ?_; clear H; intro a w H
      refine mTN 1 hN H ?_; clear H; intro a w H; simp only [drL]
      replace H := v_knownT H 152 false (by rfl)
      simp only [unG, gdEq, Nat.reduceBEq, cond_true, cond_false] at H
      replace H := ntf H
      refine mTN 1 hN H ?_; clear H; intro a w H; simp only [drL]
      replace H := v_knownT H 152 false (by rfl)
      simp only [unG, gdEq, Nat.reduceBEq, cond_true, cond_false] at H
      replace H := ntf H
      try simp only [hRR, Bool.not_true] at H
      refine mTN 1 hN H ?_; clear H; intro a w H; simp only [drL]
      refine mTN 1 hN H ?_; clear H; intro a w H; simp only [drL]
      refine mTN 2 hN H ?_; clear H; intro a w H; simp only [drL]
      replace H := v_knownT H 159 false (by rfl)
      simp only [unG, gdEq, Nat.reduceBEq, cond_true, cond_false] at H
      replace H := ntf H
      refine v_guardT H (by rfl) (by rfl) (by rfl) ?_
      refine mCallT [0, 1, 2, 3] [] (SzU) H ?_; clear H; intro a w H
      refine mTN 1 hN H ?_; clear H; intro a w H; simp only [drL]
      replace H := v_knownT H 159 false (by rfl)
      simp only [unG, gdEq, Nat.reduceBEq, cond_true, cond_false] at H
      replace H := ntf H
      refine mTN 1 hN H ?_; clear H; intro a w H; simp only [drL]
      replace H := v_knownT H 159 false (by rfl)
      simp only [unG, gdEq, Nat.reduceBEq, cond_true, cond_false] at H
      replace H := ntf H
      refine mTN 1 hN H ?_; clear H; intro a w H; simp only [drL]
      replace H := v_knownT H 159 false (by rfl)
      simp only [unG, gdEq, Nat.reduceBEq, cond_true, cond_false] at H
      replace H := ntf H
      try simp only [hMM, Bool.not_true] at H
      refine mTN 1 hN H ?_; clear H; intro a w H; simp only [drL]
      refine mTN 1 hN H ?_; clear H; intro a w H; simp only [drL]
      refine mTN 2 hN H ?_; clear H; intro a w H; simp only [drL]
      replace H := v_knownT H 167 false (by rfl)
      simp only [unG, gdEq, Nat.reduceBEq, cond_true, cond_false] at H
      replace H := ntf H
      refine v_guardT H (by rfl) (by rfl) (by rfl) ?_
      refine mCallT [0, 1, 2, 3] [] (RtU) H ?_; clear H; intro a w H
      refine mTN 1 hN H ?_; clear H; intro a w H; simp only [drL]
      replace H := v_knownT H 167 false (by rfl)
      simp only [unG, gdEq, Nat.reduceBEq, cond_true, cond_false] at H
      replace H := ntf H
      refine mTN 1 hN H ?_; clear H; intro a w H; simp only [drL]
      refine mT ?_; clear H; intro a w H
      refine v_drawNil H ?_; clear H; intro H
      refine mC H (fun hb => ?_) (fun hb => ?_)
      · exact absurd hb (by simp)
      clear hb
      refine mW ?_; clear H; intro a w H
      refine mCall [] [] (cT) H ?_; clear H; intro a w H; try refine wpList_nil ?_
      refine mW ?_; clear H; intro a w H
      have hnow : now ≠ 0 → decide (0 < (u.get_ now).hd) = true := fun e => by have := oHeld e; rw [decide_eq_true_eq]; omega
      replace H := mK [0, 2, 9, 11, 15, 16, 18, 21, 24, 176] 4 0 hN hR H
      cases held with
      | false =>
        have e1 : η = 1 := by rw [← hηe]; rfl
        have hu1 := oOne e1
        have hd1 : decide ((u.used : Int) = (ntr : Int)) = true := decide_eq_true (by rw [hu1])
        refine mC H (fun hb => ?_) (fun hb => ?_)
        · cases hb
        clear hb
        refine mS ?_
        by_cases n0 : now = 0
        · have hn0 : decide (now = 0) = true := decide_eq_true n0
          refine mS ?_; refine mD 0 [1, 10, 21] [2, 11] H ?_; clear H; intro gS H
          refine mTN 1 hN H ?_; clear H; intro a w H; simp only [drL]
          refine mCallT [0, 1, 2, 3] [] (OcU) H ?_; clear H; intro a w H
          refine mTN 2 hN H ?_; clear H; intro a w H; simp only [drL]
          try simp only [hd1] at H
          refine mTN 1 hN H ?_; clear H; intro a w H; simp only [drL]
          refine mTN 1 hN H ?_; clear H; intro a w H; simp only [drL]
          replace H := v_knownT H 186 true (by rfl)
          simp only [unG, gdEq, Nat.reduceBEq, cond_true, cond_false] at H
          replace H := ntf H
          refine mTN 1 hN H ?_; clear H; intro a w H; simp only [drL]
          replace H := v_knownT H 186 true (by rfl)
          simp only [unG, gdEq, Nat.reduceBEq, cond_true, cond_false] at H
          replace H := ntf H
          refine mTN 1 hN H ?_; clear H; intro a w H; simp only [drL]
          replace H := v_knownT H 186 true (by rfl)
          simp only [unG, gdEq, Nat.reduceBEq, cond_true, cond_false] at H
          replace H := ntf H
          refine mSkT .any H ?_; clear H; intro a w H
          refine mSkT .any H ?_; clear H; intro a w H
          refine mSkT .any H ?_; clear H; intro a w H
          refine mSkT .any H ?_; clear H; intro a w H
          refine mSkT (.v (.bool false)) H ?_; clear H; intro a w H
          refine mTN 1 hN H ?_; clear H; intro a w H; simp only [drL]
          replace H := v_knownT H 186 true (by rfl)
          simp only [unG, gdEq, Nat.reduceBEq, cond_true, cond_false] at H
          replace H := ntf H
          refine mTN 1 hN H ?_; clear H; intro a w H; simp only [drL]
          refine mTN 1 hN H ?_; clear H; intro a w H; simp only [drL]
          refine mTN 1 hN H ?_; clear H; intro a w H; simp only [drL]
          replace H := v_knownT H 197 true (by rfl)
          simp only [unG, gdEq, Nat.reduceBEq, cond_true, cond_false] at H
          replace H := ntf H
          refine mTN 1 hN H ?_; clear H; intro a w H; simp only [drL]
          replace H := v_knownT H 197 true (by rfl)
          simp only [unG, gdEq, Nat.reduceBEq, cond_true, cond_false] at H
          replace H := ntf H
          try simp only [hn0] at H
          refine mTN 1 hN H ?_; clear H; intro a w H; simp only [drL]
          replace H := v_knownT H 197 true (by rfl)
          simp only [unG, gdEq, Nat.reduceBEq, cond_true, cond_false] at H
          replace H := ntf H
          refine mSkT .any H ?_; clear H; intro a w H
          refine mSkT .any H ?_; clear H; intro a w H
          refine mSkT .any H ?_; clear H; intro a w H
          refine mSkT (.v (.bool false)) H ?_; clear H; intro a w H
          refine mTN 1 hN H ?_; clear H; intro a w H; simp only [drL]
          replace H := v_knownT H 197 true (by rfl)
          simp only [unG, gdEq, Nat.reduceBEq, cond_true, cond_false] at H
          replace H := ntf H
          refine mTN 1 hN H ?_; clear H; intro a w H; simp only [drL]
          refine mT ?_; clear H; intro a w H
          refine v_drawNil H ?_; clear H; intro H
          refine mW ?_; clear H; intro a w H
          have H := (RelX.close hB hZ H).rel
          have hN := hM.1
          have hR := hM.2
          refine wp_ret ?_; exact mEnd [] [] [.tmp 8] [_] hN hR H
        have hn0 : decide (now = 0) = false := decide_eq_false n0
        have hnh := hnow n0
        refine mS ?_; refine mD 0 [1, 10, 21] [2, 11] H ?_; clear H; intro gS H
        refine mTN 1 hN H ?_; clear H; intro a w H; simp only [drL]
        refine mCallT [0, 1, 2, 3] [] (OcU) H ?_; clear H; intro a w H
        refine mTN 2 hN H ?_; clear H; intro a w H; simp only [drL]
        try simp only [hd1] at H
        refine mTN 1 hN H ?_; clear H; intro a w H; simp only [drL]
        refine mTN 1 hN H ?_; clear H; intro a w H; simp only [drL]
        replace H := v_knownT H 186 true (by rfl)
        simp only [unG, gdEq, Nat.reduceBEq, cond_true, cond_false] at H
        replace H := ntf H
        refine mTN 1 hN H ?_; clear H; intro a w H; simp only [drL]
        replace H := v_knownT H 186 true (by rfl)
        simp only [unG, gdEq, Nat.reduceBEq, cond_true, cond_false] at H
        replace H := ntf H
        refine mTN 1 hN H ?_; clear H; intro a w H; simp only [drL]
        replace H := v_knownT H 186 true (by rfl)
        simp only [unG, gdEq, Nat.reduceBEq, cond_true, cond_false] at H
        replace H := ntf H
        refine mSkT .any H ?_; clear H; intro a w H
        refine mSkT .any H ?_; clear H; intro a w H
        refine mSkT .any H ?_; clear H; intro a w H
        refine mSkT .any H ?_; clear H; intro a w H
        refine mSkT (.v (.bool false)) H ?_; clear H; intro a w H
        refine mTN 1 hN H ?_; clear H; intro a w H; simp only [drL]
        replace H := v_knownT H 186 true (by rfl)
        simp only [unG, gdEq, Nat.reduceBEq, cond_true, cond_false] at H
        replace H := ntf H
        refine mTN 1 hN H ?_; clear H; intro a w H; simp only [drL]
        refine mTN 1 hN H ?_; clear H; intro a w H; simp only [drL]
        refine mTN 1 hN H ?_; clear H; intro a w H; simp only [drL]
        replace H := v_knownT H 197 true (by rfl)
        simp only [unG, gdEq, Nat.reduceBEq, cond_true, cond_false] at H
        replace H := ntf H
        refine mTN 1 hN H ?_; clear H; intro a w H; simp only [drL]
        replace H := v_knownT H 197 true (by rfl)
        simp only [unG, gdEq, Nat.reduceBEq, cond_true, cond_false] at H
        replace H := ntf H
        try simp only [hn0] at H
        refine mTN 1 hN H ?_; clear H; intro a w H; simp only [drL]
        replace H := v_knownT H 197 true (by rfl)
        simp only [unG, gdEq, Nat.reduceBEq, cond_true, cond_false] at H
        replace H := ntf H
        refine mTN 2 hN H ?_; clear H; intro a w H; simp only [drL]
        replace H := v_knownT H 200 false (by rfl)
        simp only [unG, gdEq, Nat.reduceBEq, cond_true, cond_false] at H
        replace H := ntf H
        refine v_guardT H (by rfl) (by rfl) (by rfl) ?_
        refine mCallT [0, 1, 2, 3] [] (HdU) H ?_; clear H; intro a w H
        refine mTN 1 hN H ?_; clear H; intro a w H; simp only [drL]
        replace H := v_knownT H 200 false (by rfl)
        simp only [unG, gdEq, Nat.reduceBEq, cond_true, cond_false] at H
        replace H := ntf H
        try simp only [hnh] at H
        refine mTN 1 hN H ?_; clear H; intro a w H; simp only [drL]
        replace H := v_knownT H 197 true (by rfl)
        simp only [unG, gdEq, Nat.reduceBEq, cond_true, cond_false] at H
        replace H := ntf H
        refine mTN 1 hN H ?_; clear H; intro a w H; simp only [drL]
        refine mT ?_; clear H; intro a w H
        refine v_drawNil H ?_; clear H; intro H
        refine mW ?_; clear H; intro a w H
        have H := (RelX.close hB hZ H).rel
        have hN := hM.1
        have hR := hM.2
        refine wp_ret ?_; exact mEnd [] [] [.tmp 8] [_] hN hR H
      | true =>
        have e2 : η = 2 := by rw [← hηe]; rfl
        have hu2 := oTwo e2
        have hdD := oDg e2
        have hd1 : decide ((u.used : Int) = (s.used : Int) + (nfr : Int)) = true := decide_eq_true (by rw [hu2]; omega)
        have hRR3 : decide (R = R) = true := decide_eq_true rfl
        refine mC H (fun hb => ?_) (fun hb => ?_)
        · clear hb
          refine mW ?_; clear H; intro a w H
          refine mCall [] [] (cF) H ?_; clear H; intro a w H; try refine wpList_nil ?_
          refine mW ?_; clear H; intro a w H
          by_cases n0 : now = 0
          · have hn0 : decide (now = 0) = true := decide_eq_true n0
            refine mS ?_; refine mD 0 [1, 10, 21] [2, 11] H ?_; clear H; intro gS H
            refine mTN 1 hN H ?_; clear H; intro a w H; simp only [drL]
            refine mCallT [0, 1, 2, 3] [] (OcU) H ?_; clear H; intro a w H
            refine mTN 2 hN H ?_; clear H; intro a w H; simp only [drL]
            try simp only [hd1] at H
            refine mTN 1 hN H ?_; clear H; intro a w H; simp only [drL]
            refine mTN 1 hN H ?_; clear H; intro a w H; simp only [drL]
            replace H := v_knownT H 186 true (by rfl)
            simp only [unG, gdEq, Nat.reduceBEq, cond_true, cond_false] at H
            replace H := ntf H
            refine mTN 1 hN H ?_; clear H; intro a w H; simp only [drL]
            replace H := v_knownT H 186 true (by rfl)
            simp only [unG, gdEq, Nat.reduceBEq, cond_true, cond_false] at H
            replace H := ntf H
            refine mTN 1 hN H ?_; clear H; intro a w H; simp only [drL]
            replace H := v_knownT H 186 true (by rfl)
            simp only [unG, gdEq, Nat.reduceBEq, cond_true, cond_false] at H
            replace H := ntf H
            refine mTN 2 hN H ?_; clear H; intro a w H; simp only [drL]
            replace H := v_knownT H 189 false (by rfl)
            simp only [unG, gdEq, Nat.reduceBEq, cond_true, cond_false] at H
            replace H := ntf H
            refine v_guardT H (by rfl) (by rfl) (by rfl) ?_
            refine mCallT [0, 1, 2, 3] [] (hdD) H ?_; clear H; intro a w H
            refine mTN 1 hN H ?_; clear H; intro a w H; simp only [drL]
            replace H := v_knownT H 189 false (by rfl)
            simp only [unG, gdEq, Nat.reduceBEq, cond_true, cond_false] at H
            replace H := ntf H
            refine mTN 1 hN H ?_; clear H; intro a w H; simp only [drL]
            replace H := v_knownT H 189 false (by rfl)
            simp only [unG, gdEq, Nat.reduceBEq, cond_true, cond_false] at H
            replace H := ntf H
            try simp only [hRR3] at H
            refine mTN 1 hN H ?_; clear H; intro a w H; simp only [drL]
            replace H := v_knownT H 186 true (by rfl)
            simp only [unG, gdEq, Nat.reduceBEq, cond_true, cond_false] at H
            replace H := ntf H
            refine mTN 1 hN H ?_; clear H; intro a w H; simp only [drL]
            refine mTN 1 hN H ?_; clear H; intro a w H; simp only [drL]
            refine mTN 1 hN H ?_; clear H; intro a w H; simp only [drL]
            replace H := v_knownT H 197 true (by rfl)
            simp only [unG, gdEq, Nat.reduceBEq, cond_true, cond_false] at H
            replace H := ntf H
            refine mTN 1 hN H ?_; clear H; intro a w H; simp only [drL]
            replace H := v_knownT H 197 true (by rfl)
            simp only [unG, gdEq, Nat.reduceBEq, cond_true, cond_false] at H
            replace H := ntf H
            try simp only [hn0] at H
            refine mTN 1 hN H ?_; clear H; intro a w H; simp only [drL]
            replace H := v_knownT H 197 true (by rfl)
            simp only [unG, gdEq, Nat.reduceBEq, cond_true, cond_false] at H
            replace H := ntf H
            refine mSkT .any H ?_; clear H; intro a w H
            refine mSkT .any H ?_; clear H; intro a w H
            refine mSkT .any H ?_; clear H; intro a w H
            refine mSkT (.v (.bool false)) H ?_; clear H; intro a w H
            refine mTN 1 hN H ?_; clear H; intro a w H; simp only [drL]
            replace H := v_knownT H 197 true (by rfl)
            simp only [unG, gdEq, Nat.reduceBEq, cond_true, cond_false] at H
            replace H := ntf H
            refine mTN 1 hN H ?_; clear H; intro a w H; simp only [drL]
            refine mT ?_; clear H; intro a w H
            refine v_drawNil H ?_; clear H; intro H
            refine mW ?_; clear H; intro a w H
            have H := (RelX.close hB hZ H).rel
            have hN := hM.1
            have hR := hM.2
            refine wp_ret ?_; exact mEnd [] [] [.tmp 8] [_] hN hR H
          have hn0 : decide (now = 0) = false := decide_eq_false n0
          have hnh := hnow n0
          refine mS ?_; refine mD 0 [1, 10, 21] [2, 11] H ?_; clear H; intro gS H
          refine mTN 1 hN H ?_; clear H; intro a w H; simp only [drL]
          refine mCallT [0, 1, 2, 3] [] (OcU) H ?_; clear H; intro a w H
          refine mTN 2 hN H ?_; clear H; intro a w H; simp only [drL]
          try simp only [hd1] at H
          refine mTN 1 hN H ?_; clear H; intro a w H; simp only [drL]
          refine mTN 1 hN H ?_; clear H; intro a w H; simp only [drL]
          replace H := v_knownT H 186 true (by rfl)
          simp only [unG, gdEq, Nat.reduceBEq, cond_true, cond_false] at H
          replace H := ntf H
          refine mTN 1 hN H ?_; clear H; intro a w H; simp only [drL]
          replace H := v_knownT H 186 true (by rfl)
          simp only [unG, gdEq, Nat.reduceBEq, cond_true, cond_false] at H
          replace H := ntf H
          refine mTN 1 hN H ?_; clear H; intro a w H; simp only [drL]
          replace H := v_knownT H 186 true (by rfl)
          simp only [unG, gdEq, Nat.reduceBEq, cond_true, cond_false] at H
          replace H := ntf H
          refine mTN 2 hN H ?_; clear H; intro a w H; simp only [drL]
          replace H := v_knownT H 189 false (by rfl)
          simp only [unG, gdEq, Nat.reduceBEq, cond_true, cond_false] at H
          replace H := ntf H
          refine v_guardT H (by rfl) (by rfl) (by rfl) ?_
          refine mCallT [0, 1, 2, 3] [] (hdD) H ?_; clear H; intro a w H
          refine mTN 1 hN H ?_; clear H; intro a w H; simp only [drL]
          replace H := v_knownT H 189 false (by rfl)
          simp only [unG, gdEq, Nat.reduceBEq, cond_true, cond_false] at H
          replace H := ntf H
          refine mTN 1 hN H ?_; clear H; intro a w H; simp only [drL]
          replace H := v_knownT H 189 false (by rfl)
          simp only [unG, gdEq, Nat.reduceBEq, cond_true, cond_false] at H
          replace H := ntf H
          try simp only [hRR3] at H
          refine mTN 1 hN H ?_; clear H; intro a w H; simp only [drL]
          replace H := v_knownT H 186 true (by rfl)
          simp only [unG, gdEq, Nat.reduceBEq, cond_true, cond_false] at H
          replace H := ntf H
          refine mTN 1 hN H ?_; clear H; intro a w H; simp only [drL]
          refine mTN 1 hN H ?_; clear H; intro a w H; simp only [drL]
          refine mTN 1 hN H ?_; clear H; intro a w H; simp only [drL]
          replace H := v_knownT H 197 true (by rfl)
          simp only [unG, gdEq, Nat.reduceBEq, cond_true, cond_false] at H
          replace H := ntf H
          refine mTN 1 hN H ?_; clear H; intro a w H; simp only [drL]
          replace H := v_knownT H 197 true (by rfl)
          simp only [unG, gdEq, Nat.reduceBEq, cond_true, cond_false] at H
          replace H := ntf H
          try simp only [hn0] at H
          refine mTN 1 hN H ?_; clear H; intro a w H; simp only [drL]
          replace H := v_knownT H 197 true (by rfl)
          simp only [unG, gdEq, Nat.reduceBEq, cond_true, cond_false] at H
          replace H := ntf H
          refine mTN 2 hN H ?_; clear H; intro a w H; simp only [drL]
          replace H := v_knownT H 200 false (by rfl)
          simp only [unG, gdEq, Nat.reduceBEq, cond_true, cond_false] at H
          replace H := ntf H
          refine v_guardT H (by rfl) (by rfl) (by rfl) ?_
          refine mCallT [0, 1, 2, 3] [] (HdU) H ?_; clear H; intro a w H
          refine mTN 1 hN H ?_; clear H; intro a w H; simp only [drL]
          replace H := v_knownT H 200 false (by rfl)
          simp only [unG, gdEq, Nat.reduceBEq, cond_true, cond_false] at H
          replace H := ntf H
          try simp only [hnh] at H
          refine mTN 1 hN H ?_; clear H; intro a w H; simp only [drL]
          replace H := v_knownT H 197 true (by rfl)
          simp only [unG, gdEq, Nat.reduceBEq, cond_true, cond_false] at H
          replace H := ntf H
          refine mTN 1 hN H ?_; clear H; intro a w H; simp only [drL]
          refine mT ?_; clear H; intro a w H
          refine v_drawNil H ?_; clear H; intro H
          refine mW ?_; clear H; intro a w H
          have H := (RelX.close hB hZ H).rel
          have hN := hM.1
          have hR := hM.2
          refine wp_ret ?_; exact mEnd [] [] [.tmp 8] [_] hN hR H
        cases hb
    clear hRe
    have V := applyE_v s hwf hur h hroot hhd ws hW (by omega) hv2 (by rw [wrongE_full hlw hfit]; decide)
    rw [wrongE_full hlw hfit] at V
    simp only [Slb.sx] at V
    refine mCall [0, 1, 2, 3] [] (V) H ?_; clear H; intro a w H; try refine wpList_nil ?_
    refine mW ?_; clear H; intro a w H
    replace H := v_seeX hZ H 106 _ (wxs_lent hTW (fun x hx => hx)) rfl
    simp only [nilT, reduceIte, Nat.reduceEqDiff] at H
    refine mCall [] [] (cKW) H ?_; clear H; intro a w H; try refine wpList_nil ?_
    refine mW ?_; clear H; intro a w H
    refine mC H (fun hb => ?_) (fun hb => ?_)
    · simp at hb
    clear hb
    refine mS ?_
    (try refine wp_region_lit ?_); refine mN 2 hN H ?_; clear H; intro a w H
    (try refine wp_region_lit ?_); refine mN 2 hN H ?_; clear H; intro a w H
    replace H := v_known H 111 false rfl
    simp only [unG, gdEq, Nat.reduceBEq, cond_true, cond_false] at H
    refine mG H ?_
    refine mCall [] [] (cO) H ?_; clear H; intro a w H; try refine wpList_nil ?_
    (try refine wp_region_lit ?_); refine mN 1 hN H ?_; clear H; intro a w H
    replace H := v_known H 111 false rfl
    simp only [unG, gdEq, Nat.reduceBEq, cond_true, cond_false] at H
    (try refine wp_region_lit ?_); refine mN 1 hN H ?_; clear H; intro a w H
    replace H := v_known H 111 false rfl
    simp only [unG, gdEq, Nat.reduceBEq, cond_true, cond_false] at H
    (try refine wp_region_lit ?_); refine mN 1 hN H ?_; clear H; intro a w H
    replace H := v_known H 111 false rfl
    simp only [unG, gdEq, Nat.reduceBEq, cond_true, cond_false] at H
    (try refine wp_region_lit ?_); refine mN 1 hN H ?_; clear H; intro a w H
    replace H := v_known H 111 false rfl
    simp only [unG, gdEq, Nat.reduceBEq, cond_true, cond_false] at H
    (try refine wp_region_lit ?_); refine mN 1 hN H ?_; clear H; intro a w H
    replace H := v_known H 111 false rfl
    simp only [unG, gdEq, Nat.reduceBEq, cond_true, cond_false] at H
    (try refine wp_region_lit ?_); refine mN 1 hN H ?_; clear H; intro a w H
    refine mS ?_
    refine mC H (fun hb => ?_) (fun hb => ?_)
    · clear hb
      refine mW ?_; clear H; intro a w H
      refine mC H (fun hb => ?_) (fun hb => ?_)
      · cases hb
      clear hb
      refine mS ?_
      have huu : decide ((s.used : Int) = (s.used : Int)) = true := decide_eq_true rfl
      have hRR : decide (R = R) = true := decide_eq_true rfl
      refine mS ?_; refine mD 0 [9, 16] [10, 17] H ?_; clear H; intro gS H
      refine mTN 2 hN H ?_; clear H; intro a w H; simp only [drL]
      refine mTN 1 hN H ?_; clear H; intro a w H; simp only [drL]
      try simp only [decide_true] at H
      refine mTN 1 hN H ?_; clear H; intro a w H; simp only [drL]
      refine mTN 1 hN H ?_; clear H; intro a w H; simp only [drL]
      replace H := v_knownT H 125 true (by rfl)
      simp only [unG, gdEq, Nat.reduceBEq, cond_true, cond_false] at H
      replace H := ntf H
      refine mTN 1 hN H ?_; clear H; intro a w H; simp only [drL]
      replace H := v_knownT H 125 true (by rfl)
      simp only [unG, gdEq, Nat.reduceBEq, cond_true, cond_false] at H
      replace H := ntf H
      refine mTN 1 hN H ?_; clear H; intro a w H; simp only [drL]
      refine mTN 1 hN H ?_; clear H; intro a w H; simp only [drL]
      refine mTN 1 hN H ?_; clear H; intro a w H; simp only [drL]
      replace H := v_knownT H 129 true (by rfl)
      simp only [unG, gdEq, Nat.reduceBEq, cond_true, cond_false] at H
      replace H := ntf H
      refine v_guardT H (by rfl) (by rfl) (by rfl) ?_
      refine mCallT [0, 1, 2, 3] [] (hoc) H ?_; clear H; intro a w H
      refine mTN 1 hN H ?_; clear H; intro a w H; simp only [drL]
      replace H := v_knownT H 129 true (by rfl)
      simp only [unG, gdEq, Nat.reduceBEq, cond_true, cond_false] at H
      replace H := ntf H
      refine mTN 1 hN H ?_; clear H; intro a w H; simp only [drL]
      replace H := v_knownT H 129 true (by rfl)
      simp only [unG, gdEq, Nat.reduceBEq, cond_true, cond_false] at H
      replace H := ntf H
      try simp only [huu] at H
      refine mTN 1 hN H ?_; clear H; intro a w H; simp only [drL]
      refine mTN 1 hN H ?_; clear H; intro a w H; simp only [drL]
      refine mTN 2 hN H ?_; clear H; intro a w H; simp only [drL]
      replace H := v_knownT H 135 true (by rfl)
      simp only [unG, gdEq, Nat.reduceBEq, cond_true, cond_false] at H
      replace H := ntf H
      refine v_guardT H (by rfl) (by rfl) (by rfl) ?_
      refine mCallT [0, 1, 2, 3] [] (hdg) H ?_; clear H; intro a w H
      refine mTN 1 hN H ?_; clear H; intro a w H; simp only [drL]
      replace H := v_knownT H 135 true (by rfl)
      simp only [unG, gdEq, Nat.reduceBEq, cond_true, cond_false] at H
      replace H := ntf H
      refine mTN 1 hN H ?_; clear H; intro a w H; simp only [drL]
      replace H := v_knownT H 135 true (by rfl)
      simp only [unG, gdEq, Nat.reduceBEq, cond_true, cond_false] at H
      replace H := ntf H
      try simp only [hRR] at H
      refine mTN 1 hN H ?_; clear H; intro a w H; simp only [drL]
      refine mT ?_; clear H; intro a w H
      refine v_drawNil H ?_; clear H; intro H
      refine mW ?_; clear H; intro a w H
      have H := (RelX.close hB hZ H).rel
      have hN := hM.1
      have hR := hM.2
      refine wp_ret ?_; exact mEnd [] [] [.tmp 8] [_] hN hR H
    exfalso
    have : decide ((rm : Int) < (s.used : Int) + 258 * ((lstW ws).length : Int)) = false := hb
    rw [decide_eq_false_iff_not] at this
    omega
end Go.Proofs.YtgffimanhmpohaaGreat
namespace Go.Proofs.YtgffimanhmpohaaGreat
open Go Go.RowKit
theorem pair_sh {M d : Nat} {a : AV} (h : Sh tab M (d + 2) 53 a) : ∃ p : Pr, a = prA p ∧ p.1.length = 32 ∧ p.2.length ≤ M := by
  obtain ⟨az, rfl, hs⟩ := h.rcd rfl rfl
  clear h; have h := hs; clear hs; dsimp only [List.map] at h
  obtain ⟨a0, r, rfl, h0, h⟩ := shl_cons h
  obtain ⟨a1, r, rfl, h1, h⟩ := shl_cons h
  obtain rfl := shl_nil h
  obtain ⟨k, rfl, hk⟩ := h0.arr rfl rfl
  obtain ⟨v, rfl, hv⟩ := h1.bytes rfl rfl rfl
  exact ⟨(k, v), rfl, hk, hv⟩
theorem pairs_sh {M d : Nat} {a : AV} (h : Sh tab M (d + 3) 22 a) : ∃ l : List Pr, a = .sl prT (l.map prA) none ∧ K32 l ∧ l.length ≤ M ∧ ∀ x ∈ l, x.2.length ≤ M := by
  obtain ⟨es, rfl, hl, he⟩ := h.slc rfl rfl rfl
  obtain ⟨ys, rfl, hy⟩ := sh_list (q := fun p : Pr => p.1.length = 32 ∧ p.2.length ≤ M) (f := prA) (fun x hx => pair_sh hx) he
  exact ⟨ys, rfl, fun x hx => (hy x hx).1, by simpa using hl, fun x hx => (hy x hx).2⟩
theorem write_shB {M d : Nat} {a : AV} (h : Sh tab M (d + 2) 60 a) : ∃ p : Wr, a = wrA p ∧ p.1.length = 32 ∧ p.2.2.length ≤ M := by
  obtain ⟨az, rfl, hs⟩ := h.rcd rfl rfl
  clear h; have h := hs; clear hs; dsimp only [List.map] at h
  obtain ⟨a0, r, rfl, h0, h⟩ := shl_cons h
  obtain ⟨a1, r, rfl, h1, h⟩ := shl_cons h
  obtain ⟨a2, r, rfl, h2, h⟩ := shl_cons h
  obtain rfl := shl_nil h
  obtain ⟨k, rfl, hk⟩ := h0.arr rfl rfl
  obtain ⟨g, rfl⟩ := h1.bool rfl rfl
  obtain ⟨v, rfl, hv⟩ := h2.bytes rfl rfl rfl
  exact ⟨(k, g, v), rfl, hk, hv⟩
theorem writes_shB {M d : Nat} {a : AV} (h : Sh tab M (d + 3) 56 a) : ∃ l : List Wr, a = .sl wrT (l.map wrA) none ∧ K32W l ∧ l.length ≤ M ∧ ∀ x ∈ l, x.2.2.length ≤ M := by
  obtain ⟨es, rfl, hl, he⟩ := h.slc rfl rfl rfl
  obtain ⟨ys, rfl, hy⟩ := sh_list (q := fun p : Wr => p.1.length = 32 ∧ p.2.2.length ≤ M) (f := wrA) (fun x hx => write_shB hx) he
  exact ⟨ys, rfl, fun x hx => (hy x hx).1, by simpa using hl, fun x hx => (hy x hx).2⟩
theorem batchApplies_az (az : List AV) (h : ShL (Sh tab 1048576 6) [22, 56, 4, 3] az) : VC Tryz.prog 4 az [] (.v (.bool true)) := by
  obtain ⟨a0, r, rfl, h0, h⟩ := shl_cons h
  obtain ⟨a1, r, rfl, h1, h⟩ := shl_cons h
  obtain ⟨a2, r, rfl, h2, h⟩ := shl_cons h
  obtain ⟨a3, r, rfl, h3, h⟩ := shl_cons h
  obtain rfl := shl_nil h
  obtain ⟨m, rfl, k1, k2, k3⟩ := pairs_sh h0
  obtain ⟨l, rfl, q1, q2, q3⟩ := writes_shB h1
  obtain ⟨b, rfl⟩ := h2.bool rfl rfl
  obtain ⟨n, rfl, n1, n2⟩ := h3.int rfl rfl
  exact batchApplies_v m l k1 (Nat.le_trans k2 (by decide)) q1 (Nat.le_trans q2 (by decide)) (fun x hx => Nat.le_trans (q3 x hx) (by decide)) b n ⟨n1, n2⟩
end Go.Proofs.YtgffimanhmpohaaGreat
