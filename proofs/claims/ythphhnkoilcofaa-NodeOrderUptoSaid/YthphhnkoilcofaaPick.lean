/- The root of entries that rise: node.parted, node.root. -/
import Derived.Test.YthphhnkoilcofaaVer
import Derived.Test.YthphhnkoilcofaaBits
import Derived.Shelf.SlicesE.Reverse
import Derived.BigQuiet
import Derived.BigRegion
set_option linter.unusedSimpArgs false
set_option linter.unusedVariables false
namespace Go.Proofs.Ythphhnkoilcofaa
open Go Go.RowKit
def dgs (l : List Pr) : List En := l.map fun p => (p.1, valH p.2)
def V0 (l : List Pr) : Prop := ∀ x ∈ l, x.2.length ≤ 34359730000
theorem dgs_len (l : List Pr) : (dgs l).length = l.length := by simp [dgs]
theorem dgs_keys (l : List Pr) : (dgs l).map Prod.fst = keysP l := by simp [dgs, keysP]
theorem dgs_take (l : List Pr) (n : Nat) : (dgs l).take n = dgs (l.take n) := by simp [dgs, List.map_take]
theorem dgs_drop (l : List Pr) (n : Nat) : (dgs l).drop n = dgs (l.drop n) := by simp [dgs, List.map_drop]
theorem prs_take (l : List Pr) (n : Nat) : (l.map prA).take n = (l.take n).map prA := by simp [List.map_take]
theorem prs_drop (l : List Pr) (n : Nat) : (l.map prA).drop n = (l.drop n).map prA := by simp [List.map_drop]
set_option maxRecDepth 20000 in
theorem npart_v (l : List Pr) (hw : K32 l) (d : Nat) (hd : d < 256) (hl : l.length ≤ 34359730000) : VC Try.prog 102 [.sl prT (l.map prA) none, .v (.int .i64 (d : Int))] [] (.v (.int .i64 (partN d (dgs l) : Int))) := by
  have hxl : (l.map prA).length = l.length := List.length_map ..
  have hkl : (keysP l).length = l.length := by simp [keysP]
  rw [← partN_K, dgs_keys]
  refine mE Try.func102 ?_; intro N w0 a w hN hR H
  have hX := @hxl
  refine mW ?_; clear H; intro a w H
  refine v_loop (fun k : Nat => ⟨[(5, none, .v (.int .i64 (k : Int))), (4, none, .v (.int .i64 0)), (0, none, .sl prT (l.map prA) none), (1, none, .v (.int .i64 (d : Int)))], [], [], []⟩) (fun k => k ≤ l.length ∧ ∀ j (h : j < (keysP l).length), j < k → bitN (keysP l)[j] d = false) (fun k => l.length - k) 0 ⟨Nat.zero_le _, fun j h hj => by omega⟩ (H.to 0 0 ⟨hN, hR⟩ ⟨rfl, rfl, rfl, rfl, trivial⟩ rfl rfl rfl rfl rfl) ?_
  clear H
  rintro k a w ⟨hk, hall⟩ H
  by_cases hlt : k < l.length
  · have g1 := prA_get l k hlt
    have l1 := hw _ (List.getElem_mem hlt)
    have hb1 := bit_v l[k].1 l1 (d : Int)
    have hkk : (keysP l)[k]'(by omega) = l[k].1 := by simp [keysP]
    generalize l[k] = p at *
    obtain ⟨kb, vb⟩ := p
    dsimp only at g1 l1 hb1 hkk
    refine mS ?_
    clear hX; have hX := And.intro @hxl (@g1)
    have hY := @l1
    (try refine wp_region_lit ?_); refine mN 8 hN H ?_; clear H; intro a w H
    refine mW ?_; clear H; intro a w H
    refine mCallG [] [] (hb1) H ?_; clear H; intro a w H; try refine wpList_nil ?_
    refine mW ?_; clear H; intro a w H
    simp only [pbit_zero _ _ hd] at H
    refine mC H (fun hb => ?_) (fun hb => ?_)
    · have hbf : bitN kb d = false := by
        cases h : bitN kb d
        · rfl
        · rw [h] at hb; simp at hb
      refine mW ?_; clear H; intro a w H
      exact ⟨k + 1, ⟨hlt, fun j h hj => by
        by_cases h1 : j < k
        · exact hall j h h1
        · obtain rfl : j = k := by omega
          rw [hkk]; exact hbf⟩, by omega, H.to 0 0 ⟨hN, hR⟩ ⟨rfl, rfl, rfl, rfl, trivial⟩ rfl rfl rfl rfl rfl⟩
    · have hbt : bitN kb d = true := by
        cases h : bitN kb d
        · rw [h] at hb; simp [hlt] at hb
        · rfl
      have e := partK_of d (keysP l) k (by omega) hall fun _ => by rw [hkk]; exact hbt
      rw [e]
      refine mW ?_; clear H; intro a w H
      refine wp_ret ?_; exact mEnd [] [] [.tmp 4] [_] hN hR H
  · have hge : k = l.length := by omega
    subst hge
    have e := partK_of d (keysP l) l.length (by omega) hall fun h => absurd h (by omega)
    rw [e]
    refine mS ?_
    (try refine wp_region_lit ?_); refine mN 5 hN H ?_; clear H; intro a w H
    have hdd : (decide ((l.length : Int) < (l.length : Int))) = false := by simp
    simp only [hdd] at H
    refine mSk (.v (.bool false)) H ?_; clear H; intro a w H
    refine mSk (.v (.bool false)) H ?_; clear H; intro a w H
    refine mSk (.v (.bool false)) H ?_; clear H; intro a w H
    refine mSk (.v (.bool false)) H ?_; clear H; intro a w H
    refine mSk (.v (.bool false)) H ?_; clear H; intro a w H
    refine mSk (.v (.bool false)) H ?_; clear H; intro a w H
    refine mSk (.v (.bool false)) H ?_; clear H; intro a w H
    refine mSk (.v (.bool false)) H ?_; clear H; intro a w H
    refine mW ?_; clear H; intro a w H
    refine mC H (fun hb => ?_) (fun hb => ?_)
    · simp at hb
    · refine mW ?_; clear H; intro a w H
      refine wp_ret ?_; exact mEnd [] [] [.tmp 4] [_] hN hR H
set_option maxRecDepth 20000 in
theorem nroot_small (f d : Nat) (l : List Pr) (hs : l.length < 2) (hw : K32 l) (hv : V0 l) : VC Try.prog 90 [.sl prT (l.map prA) none, .v (.int .i64 (d : Int))] [] (.ba (rootA f d (dgs l))) := by
  rw [rootA_small f d _ (by rw [dgs_len]; exact hs)]
  match l, hs with
  | [], _ =>
    have hsl := sum_length [0]
    refine mE Try.func90 ?_; intro N w0 a w hN hR H
    simp only [List.map_nil] at H
    refine mW ?_; clear H; intro a w H
    refine mC H (fun hb => ?_) (fun hb => ?_)
    · refine mW ?_; clear H; intro a w H
      refine mCall [] [] (empty_v) H ?_; clear H; intro a w H; try refine wpList_nil ?_
      refine mW ?_; clear H; intro a w H
      refine wp_ret ?_; exact mEnd [] [] [.cell 4 27] [_] hN hR H
    · simp at hb
  | [x], _ =>
    have h1 := hw x List.mem_cons_self
    have h2 := value_v x.2 (hv x List.mem_cons_self)
    have h3 := valH_len x.2
    have hlf := leaf_v x.1 (valH x.2) h1 h3
    have hsl := leafH_len x.1 (valH x.2)
    obtain ⟨kb, vb⟩ := x
    dsimp only at h1 h2 h3 hlf hsl
    refine mE Try.func90 ?_; intro N w0 a w hN hR H
    simp only [List.map_cons, List.map_nil, prA] at H
    refine mW ?_; clear H; intro a w H
    refine mC H (fun hb => ?_) (fun hb => ?_)
    · simp at hb
    · refine mW ?_; clear H; intro a w H
      refine mC H (fun hb => ?_) (fun hb => ?_)
      · refine mW ?_; clear H; intro a w H
        refine mS ?_; refine mD 0 [8, 9, 10] [0, 1, 2, 3] H ?_; clear H; intro gS H; refine mT ?_; clear H; intro a w H
        refine mCallT [] [] (h2) H ?_; clear H; intro a w H
        refine mT ?_; clear H; intro a w H
        refine mCallT [] [] (hlf) H ?_; clear H; intro a w H
        refine mT ?_; clear H; intro a w H
        refine v_drawNil H ?_; clear H; intro H
        refine wp_ret ?_; exact mEnd [] [] [.cell 4 27] [_] hN hR H
      · simp at hb
theorem V0.take {l : List Pr} (h : V0 l) (n : Nat) : V0 (l.take n) := fun x hx => h x (List.mem_of_mem_take hx)
theorem V0.drop {l : List Pr} (h : V0 l) (n : Nat) : V0 (l.drop n) := fun x hx => h x (List.mem_of_mem_drop hx)
theorem K32.take {l : List Pr} (h : K32 l) (n : Nat) : K32 (l.take n) := fun x hx => h x (List.mem_of_mem_take hx)
theorem K32.drop {l : List Pr} (h : K32 l) (n : Nat) : K32 (l.drop n) := fun x hx => h x (List.mem_of_mem_drop hx)
set_option maxRecDepth 20000 in
theorem nroot_v : ∀ (f d : Nat) (l : List Pr), f + d = 256 → Rise d (dgs l) → K32 l → V0 l → l.length ≤ 34359730000 →
    VC Try.prog 90 [.sl prT (l.map prA) none, .v (.int .i64 (d : Int))] [] (.ba (rootA f d (dgs l))) := by
  intro f
  induction f with
  | zero =>
    intro d l hd hr hw hv hl
    exact nroot_small 0 d l (by have := hr.sep.deep (by omega); rwa [dgs_len] at this) hw hv
  | succ f ih =>
    intro d l hd hr hw hv hl
    by_cases hs : l.length < 2
    · exact nroot_small _ d l hs hw hv
    · rw [rootA, if_neg (by rw [dgs_len]; exact hs)]
      have hxl : (l.map prA).length = l.length := List.length_map ..
      obtain ⟨e1, e2⟩ := hr.part (by omega)
      have hn := partN_le d (dgs l)
      rw [dgs_len] at hn
      have hp := npart_v l hw d (by omega) hl
      have s1 := hr.side false
      have s2 := hr.side true
      rw [e1, dgs_take] at s1
      rw [e2, dgs_drop] at s2
      rw [e1, e2, dgs_take, dgs_drop]
      have c1 := ih (d + 1) (l.take (partN d (dgs l))) (by omega) s1 (hw.take _) (hv.take _) (by rw [List.length_take]; omega)
      have c2 := ih (d + 1) (l.drop (partN d (dgs l))) (by omega) s2 (hw.drop _) (hv.drop _) (by rw [List.length_drop]; omega)
      have r1 := rootA_len f (d + 1) (dgs (l.take (partN d (dgs l))))
      have r2 := rootA_len f (d + 1) (dgs (l.drop (partN d (dgs l))))
      generalize rootA f (d + 1) (dgs (l.take (partN d (dgs l)))) = a1 at *
      generalize rootA f (d + 1) (dgs (l.drop (partN d (dgs l)))) = a2 at *
      generalize partN d (dgs l) = n at *
      have hin := inner_v a1 a2 r1 r2
      have hsl := innerH_len a1 a2
      clear ih e1 e2 s1 s2
      refine mE Try.func90 ?_; intro N w0 a w hN hR H
      have hX := @hxl
      refine mW ?_; clear H; intro a w H
      refine mC H (fun hb => ?_) (fun hb => ?_)
      · exfalso; rw [decide_eq_true_eq] at hb; omega
      · refine mW ?_; clear H; intro a w H
        refine mC H (fun hb => ?_) (fun hb => ?_)
        · exfalso; rw [decide_eq_true_eq] at hb; omega
        · refine mW ?_; clear H; intro a w H
          refine mCall [] [] (hp) H ?_; clear H; intro a w H; try refine wpList_nil ?_
          refine mW ?_; clear H; intro a w H
          clear hX; have hX := And.intro @hxl (And.intro @prs_take (@prs_drop))
          refine mS ?_; refine mD 0 [5, 11, 12, 13] [6, 7, 8, 9, 10] H ?_; clear H; intro gS H; refine mT ?_; clear H; intro a w H
          refine mCallT [] [] (c1) H ?_; clear H; intro a w H
          refine mT ?_; clear H; intro a w H
          refine mCallT [] [] (c2) H ?_; clear H; intro a w H
          refine mT ?_; clear H; intro a w H
          refine mCallT [] [] (hin) H ?_; clear H; intro a w H
          refine mT ?_; clear H; intro a w H
          refine v_drawNil H ?_; clear H; intro H
          clear hX
          refine wp_ret ?_; exact mEnd [] [] [.cell 4 27] [_] hN hR H
end Go.Proofs.Ythphhnkoilcofaa
/- node.RootAt, node.Root: any entries. -/
namespace Go.Proofs.Ythphhnkoilcofaa
open Go Go.RowKit
def endsP (l : List Pr) : Nat := com (l.getD 0 ([], [])).1 (l.getD (l.length - 1) ([], [])).1
def rootE (l : List Pr) (d : Int) : List UInt8 × Nat :=
  if d < 0 ∨ 256 < d then (z32, 2) else if errP l ≠ 0 then (z32, errP l) else if 1 < l.length ∧ (endsP (srt l) : Int) < d then (z32, 2) else (rootA (256 - d.toNat) d.toNat (dgs (srt l)), 0)
theorem ends_rise {d : Nat} (l : List Pr) (hk : K32 l) (hr : Ris l) (hd : d ≤ 256) (h : l.length < 2 ∨ d ≤ endsP l) : Rise d (dgs l) := by
  unfold Rise dgs
  rw [List.pairwise_map]
  rw [List.pairwise_iff_getElem]
  intro i j hi hj hij
  have hlt := List.pairwise_iff_getElem.1 hr i j hi hj hij
  refine ⟨?_, hlt⟩
  rcases h with h | h
  · omega
  · have h0 : l.getD 0 ([], []) = l[0]'(by omega) := by simp [List.getD_eq_getElem?_getD, show 0 < l.length by omega]
    have h1 : l.getD (l.length - 1) ([], []) = l[l.length - 1]'(by omega) := by simp [List.getD_eq_getElem?_getD, show l.length - 1 < l.length by omega]
    unfold endsP at h
    rw [h0, h1] at h
    have ha := (com_ge hd).1 h
    have le : ∀ (a b : Nat) (ha : a < l.length) (hb : b < l.length), a ≤ b → l[a].1 = l[b].1 ∨ ltB l[a].1 l[b].1 := fun a b ha hb hab => by
      by_cases e : a = b
      · subst e; exact .inl rfl
      · exact .inr (List.pairwise_iff_getElem.1 hr a b ha hb (by omega))
    have mid : ∀ p q r : List UInt8, (p = q ∨ ltB p q) → (q = r ∨ ltB q r) → agree d p r → agree d p q := fun p q r h1 h2 ha => by
      rcases h1 with rfl | ⟨c, hc, g1, g2, g3⟩
      · exact agree_refl _ _
      · rcases h2 with rfl | ⟨e, he, k1, k2, k3⟩
        · exact ha
        · intro t ht
          by_cases htc : t < c
          · exact g1 t htc
          · exfalso
            rcases Nat.lt_trichotomy c e with hl | rfl | hg
            · have := ha c (by omega); rw [g2, ← k1 c hl, g3] at this; cases this
            · rw [g3] at k2; cases k2
            · have := ha e (by omega); rw [k3, g1 e hg, k2] at this; cases this
    have a1 := mid _ _ _ (le 0 i (by omega) hi (Nat.zero_le _)) (le i (l.length - 1) hi (by omega) (by omega)) ha
    have a2 := mid _ _ _ (le 0 j (by omega) hj (Nat.zero_le _)) (le j (l.length - 1) hj (by omega) (by omega)) ha
    exact a1.symm.trans a2
theorem chkP_vals : ∀ (ks : List (List UInt8)) (l : List Pr), chkP ks l = 0 → ∀ x ∈ l, x.2.length ≤ 1024
  | _, [], _, x, hx => by cases hx
  | ks, p :: l, h, x, hx => by
    unfold chkP at h
    split at h
    · cases h
    · split at h
      · cases h
      · rcases List.mem_cons.1 hx with rfl | hx
        · omega
        · exact chkP_vals _ l h x hx
theorem errP_ok {l : List Pr} (h : errP l = 0) : l.length ≤ 4096 ∧ Dis l ∧ ∀ x ∈ l, x.2.length ≤ 1024 := by
  unfold errP at h
  split at h
  · cases h
  · exact ⟨by omega, (chkP_dis _ _ h).1, chkP_vals _ _ h⟩
set_option maxRecDepth 20000 in
set_option maxHeartbeats 1000000 in
theorem nrootAt_v (l : List Pr) (hk : K32 l) (hl : l.length ≤ 34359730000) (d : Int) : VC Try.prog 40 [.sl prT (l.map prA) none, .v (.int .i64 d)] [] (.tup [.ba (rootE l d).1, .v (.int .i64 ((rootE l d).2 : Int))]) := by
  have hs := sorted_v l hk (by omega)
  by_cases he : errP l = 0
  · obtain ⟨hle, hdis, hvals⟩ := errP_ok he
    have hr : resP l = .tup [.sl prT ((srt l).map prA) none, .v (.int .i64 0)] := by unfold resP; rw [if_pos he]
    rw [hr] at hs
    have hsl : (srt l).length = l.length := (srt_perm l).length_eq
    have hsk : K32 (srt l) := hk.perm (srt_perm l)
    have hsr := srt_ris l hk hdis
    have hsv : V0 (srt l) := fun x hx => Nat.le_trans (hvals x ((srt_perm l).mem_iff.1 hx)) (by decide)
    have hro : rootE l d = if d < 0 ∨ 256 < d then (z32, 2) else if 1 < l.length ∧ (endsP (srt l) : Int) < d then (z32, 2) else (rootA (256 - d.toNat) d.toNat (dgs (srt l)), 0) := by
      unfold rootE; rw [if_neg (show ¬ errP l ≠ 0 by omega)]
    rw [hro]
    generalize srt l = m at *
    have hml : (m.map prA).length = l.length := by rw [List.length_map, hsl]
    refine mE Try.func40 ?_; intro N w0 a w hN hR H
    refine mW ?_; clear H; intro a w H
    refine mC H (fun hb => ?_) (fun hb => ?_)
    · have hd : d < 0 ∨ 256 < d := by
        by_cases h0 : d < 0
        · exact .inl h0
        · right; simpa [h0] using hb
      rw [if_pos hd]
      refine mW ?_; clear H; intro a w H
      refine wp_ret ?_; exact mEnd [] [] [.cell 4 27, .tmp 5] [_, _] hN hR H
    · have hd : ¬ (d < 0 ∨ 256 < d) := by
        rintro (h | h)
        · simp [h] at hb
        · by_cases h0 : d < 0
          · simp [h0] at hb
          · simp [h0] at hb; omega
      rw [if_neg hd]
      clear hb
      obtain ⟨dn, rfl⟩ := Int.eq_ofNat_of_zero_le (show 0 ≤ d by omega)
      simp only [Int.toNat_natCast]
      have hroot := fun (h : l.length < 2 ∨ dn ≤ endsP m) => nroot_v (256 - dn) dn m (by omega) (ends_rise m hsk hsr (by omega) (by rw [hsl]; exact h)) hsk hsv (by omega)
      have hrl := rootA_len (256 - dn) dn (dgs m)
      replace H := mK [0, 1, 4, 5] 1 0 hN hR H
      refine mW ?_; clear H; intro a w H
      refine mCall [] [] (hs) H ?_; clear H; intro a w H; try refine wpList_nil ?_
      refine mW ?_; clear H; intro a w H
      refine mC H (fun hb => ?_) (fun hb => ?_)
      · simp at hb
      · clear hb
        replace H := mK [1, 4, 5, 6] 1 0 hN hR H
        by_cases h1 : 1 < l.length
        · have g0 := prA_get m 0 (by omega)
          have g1 := prA_get m (l.length - 1) (by omega)
          have q0 := hsk _ (List.getElem_mem (show 0 < m.length by omega))
          have q1 := hsk _ (List.getElem_mem (show l.length - 1 < m.length by omega))
          have hen : endsP m = com m[0].1 (m[l.length - 1]'(by omega)).1 := by
            have e1 : m.getD 0 ([], []) = m[0] := by simp [List.getD_eq_getElem?_getD, show 0 < m.length by omega]
            have e2 : m.getD (l.length - 1) ([], []) = m[l.length - 1]'(by omega) := by simp [List.getD_eq_getElem?_getD, show l.length - 1 < m.length by omega]
            unfold endsP
            rw [show m.length - 1 = l.length - 1 by omega, e1, e2]
          have hcm := common_v _ _ q0 q1
          rw [← hen] at hcm
          have hti : ((l.length : Int) - 1).toNat = l.length - 1 := by omega
          have hdt : decide ((1 : Int) < (l.length : Int)) = true := by simp; omega
          generalize m[0] = p0 at *
          generalize m[l.length - 1]'(by omega) = p1 at *
          obtain ⟨k0, v0⟩ := p0
          obtain ⟨k1, v1⟩ := p1
          dsimp only at g0 g1 q0 q1 hcm
          have hX := And.intro @hml (And.intro @g0 (And.intro @g1 (And.intro @hti (@hdt))))
          refine mS ?_; refine mD 0 [15] [16] H ?_; clear H; intro gS H
          refine mTN 6 hN H ?_; clear H; intro a w H; simp only [List.drop_succ_cons, List.drop_zero, List.drop_nil]
          replace H := v_knownT H 27 true (by rfl)
          simp only [unG, gdEq, Nat.reduceBEq, cond_true, cond_false] at H
          replace H := ntf H
          refine mTN 7 hN H ?_; clear H; intro a w H; simp only [List.drop_succ_cons, List.drop_zero, List.drop_nil]
          refine mTN 2 hN H ?_; clear H; intro a w H; simp only [List.drop_succ_cons, List.drop_zero, List.drop_nil]
          replace H := v_knownT H 27 true (by rfl)
          simp only [unG, gdEq, Nat.reduceBEq, cond_true, cond_false] at H
          replace H := ntf H
          refine v_guardT H (by rfl) (by rfl) (by rfl) ?_
          refine mCallT [] [] (hcm) H ?_; clear H; intro a w H
          refine mT ?_; clear H; intro a w H
          refine v_drawNil H ?_; clear H; intro H
          refine mC H (fun hb => ?_) (fun hb => ?_)
          · rw [if_pos ⟨h1, by simpa using hb⟩]
            refine mW ?_; clear H; intro a w H
            refine wp_ret ?_; exact mEnd [] [] [.cell 4 27, .tmp 5] [_, _] hN hR H
          · have hnb : ¬ ((endsP m : Int) < (dn : Int)) := by simpa using hb
            rw [if_neg (fun h => hnb h.2)]
            have hrt := hroot (.inr (by omega))
            clear hb hroot
            generalize rootA (256 - dn) dn (dgs m) = r at *
            clear hX; have hX := @hrl
            refine mW ?_; clear H; intro a w H
            refine mCall [] [] (hrt) H ?_; clear H; intro a w H; try refine wpList_nil ?_
            refine mW ?_; clear H; intro a w H
            refine wp_ret ?_; exact mEnd [] [] [.cell 4 27, .tmp 5] [_, _] hN hR H
        · rw [if_neg (fun h => h1 h.1)]
          have hrt := hroot (.inl (by omega))
          clear hroot
          generalize rootA (256 - dn) dn (dgs m) = r at *
          have hdt : decide ((1 : Int) < (l.length : Int)) = false := by simp; omega
          have hX := And.intro @hml (And.intro @hdt (@hrl))
          refine mS ?_; refine mD 0 [15] [16] H ?_; clear H; intro gS H
          refine mTN 4 hN H ?_; clear H; intro a w H; simp only [List.drop_succ_cons, List.drop_zero, List.drop_nil]
          refine mSkT (.v (.bool false)) H ?_; clear H; intro a w H
          refine mSkT (.v (.bool false)) H ?_; clear H; intro a w H
          refine mSkT (.v (.bool false)) H ?_; clear H; intro a w H
          refine mSkT (.v (.bool false)) H ?_; clear H; intro a w H
          refine mSkT (.v (.bool false)) H ?_; clear H; intro a w H
          refine mSkT (.v (.bool false)) H ?_; clear H; intro a w H
          refine mSkT (.v (.bool false)) H ?_; clear H; intro a w H
          refine mSkT (.v (.bool false)) H ?_; clear H; intro a w H
          refine mSkT (.v (.bool false)) H ?_; clear H; intro a w H
          refine mSkT (.v (.bool false)) H ?_; clear H; intro a w H
          refine mSkT (.v (.bool false)) H ?_; clear H; intro a w H
          refine mSkT (.v (.bool false)) H ?_; clear H; intro a w H
          refine mSkT (.v (.bool false)) H ?_; clear H; intro a w H
          refine mSkT (.v (.bool false)) H ?_; clear H; intro a w H
          refine mT ?_; clear H; intro a w H
          refine v_drawNil H ?_; clear H; intro H
          refine mC H (fun hb => ?_) (fun hb => ?_)
          · cases hb
          · refine mW ?_; clear H; intro a w H
            refine mCall [] [] (hrt) H ?_; clear H; intro a w H; try refine wpList_nil ?_
            refine mW ?_; clear H; intro a w H
            refine wp_ret ?_; exact mEnd [] [] [.cell 4 27, .tmp 5] [_, _] hN hR H
  · have hr : resP l = .tup [.sl prT [] none, .v (.int .i64 (errP l : Int))] := by unfold resP; rw [if_neg he]
    rw [hr] at hs
    have hro : rootE l d = if d < 0 ∨ 256 < d then (z32, 2) else (z32, errP l) := by unfold rootE; rw [if_pos (show errP l ≠ 0 from he)]
    rw [hro]
    generalize errP l = er at *
    refine mE Try.func40 ?_; intro N w0 a w hN hR H
    refine mW ?_; clear H; intro a w H
    refine mC H (fun hb => ?_) (fun hb => ?_)
    · have hd : d < 0 ∨ 256 < d := by
        by_cases h0 : d < 0
        · exact .inl h0
        · right; simpa [h0] using hb
      rw [if_pos hd]
      refine mW ?_; clear H; intro a w H
      refine wp_ret ?_; exact mEnd [] [] [.cell 4 27, .tmp 5] [_, _] hN hR H
    · have hd : ¬ (d < 0 ∨ 256 < d) := by
        rintro (h | h)
        · simp [h] at hb
        · by_cases h0 : d < 0
          · simp [h0] at hb
          · simp [h0] at hb; omega
      rw [if_neg hd]
      clear hb
      replace H := mK [0, 1, 4, 5] 1 0 hN hR H
      refine mW ?_; clear H; intro a w H
      refine mCall [] [] (hs) H ?_; clear H; intro a w H; try refine wpList_nil ?_
      refine mW ?_; clear H; intro a w H
      refine mC H (fun hb => ?_) (fun hb => ?_)
      · refine mW ?_; clear H; intro a w H
        refine wp_ret ?_; exact mEnd [] [] [.cell 4 27, .tmp 5] [_, _] hN hR H
      · simp at hb; omega
theorem nroot0_v (l : List Pr) (hk : K32 l) (hl : l.length ≤ 34359730000) : VC Try.prog 38 [.sl prT (l.map prA) none] [] (.tup [.ba (rootE l 0).1, .v (.int .i64 ((rootE l 0).2 : Int))]) := by
  have hs := nrootAt_v l hk hl 0
  have h32 : (rootE l 0).1.length = 32 := by
    unfold rootE; (repeat' split) <;> first | exact rootA_len _ _ _ | exact List.length_replicate ..
  generalize rootE l 0 = r at *
  refine mE Try.func38 ?_; intro N w0 a w hN hR H
  have hX := @h32
  refine mW ?_; clear H; intro a w H
  refine mCall [] [] (hs) H ?_; clear H; intro a w H; try refine wpList_nil ?_
  refine mW ?_; clear H; intro a w H
  refine wp_ret ?_; exact mEnd [] [] [.cell 2 27, .tmp 3] [_, _] hN hR H
end Go.Proofs.Ythphhnkoilcofaa
/- Rows of slices turned round in place; regions in every order of their loud operations. -/
namespace Go.Proofs.Ythphhnkoilcofaa
open Go Go.RowKit
abbrev OneV := { v : Value // v.oneCell' = true }
instance : Inhabited OneV := ⟨⟨.bool false, rfl⟩⟩
end Go.Proofs.Ythphhnkoilcofaa
namespace Go.Proofs.Ythphhnkoilcofaa
open Go Go.RowKit
/-- Values that lean on no cell but bytes. -/
def leafA : AV → Bool
  | .v _ => true
  | .ba _ => true
  | .bs _ none => true
  | .bc _ _ none => true
  | .ptr _ _ => true
  | .pti _ _ _ => true
  | .win _ _ _ _ => true
  | .vw _ _ _ => true
  | .pv _ _ _ _ => true
  | .mr _ => true
  | .ref (.ba _) (.ba _) => true
  | .any => true
  | _ => false
def plainA : Nat → AV → Bool
  | d + 1, .st fs => fs.all (plainA d)
  | d + 1, .tup fs => fs.all (plainA d)
  | _, a => leafA a
theorem RC.plain {g g2 : Gh} (hro : ∀ b o c, g.ro b o = some (B8 c) → g2.ro b o = some (B8 c)) (hbx : g2.bx = g.bx) : ∀ {d : Nat} {T : Ty} {a : AV} {cs : List Value}, RC g T a cs → plainA d a = true → RC g2 T a cs := by
  intro d
  have leaf : ∀ {T : Ty} {a : AV} {cs : List Value}, RC g T a cs → leafA a = true → RC g2 T a cs := by
    intro T a cs h hp
    cases h with
    | v h => exact .v h
    | ba h => exact .ba h
    | nl => simp [leafA] at hp
    | cn h hs => simp [leafA] at hp
    | bs hc hm hr ht =>
      rename_i l tok A c
      cases tok with
      | some j => simp [leafA] at hp
      | none =>
        refine .bs hc hm ?_ fun i hi => by cases hi
        rcases hr with h | ⟨b, o, hA, hj⟩
        · exact .inl h
        · exact .inr ⟨b, o, hA, fun j hj' => hro _ _ _ (hj j hj')⟩
    | sl hc hm F hr hv ht => simp [leafA] at hp
    | ptr h ho => exact .ptr (by rw [hbx]; exact h) ho
    | pti h ho hk => exact .pti (by rw [hbx]; exact h) ho hk
    | win h ho hn hc hm hA => exact .win (by rw [hbx]; exact h) ho hn hc hm hA
    | vw h hT hg hn hm hx => exact .vw (by rw [hbx]; exact h) hT hg hn hm hx
    | pv h hT hg ho hx => exact .pv (by rw [hbx]; exact h) hT hg ho hx
    | mr h hT => exact .mr (by rw [hbx]; exact h) hT
    | slc hn hm F hr hv => simp [leafA] at hp
    | vwc h hk => simp [leafA] at hp
    | bc hn hm hr ht =>
      rename_i l n tok A
      cases tok with
      | some j => simp [leafA] at hp
      | none =>
        refine .bc hn hm ?_ fun i hi => by cases hi
        rcases hr with h | ⟨b, o, hA, hj⟩
        · exact .inl h
        · exact .inr ⟨b, o, hA, fun j hj' => hro _ _ _ (hj j hj')⟩
    | ref cs h hr =>
      cases h with
      | ba h =>
        rename_i n l
        refine .ref (l.map B8) (.ba h) fun j u hu => ?_
        have := hr j u hu
        simp only [List.getElem?_map, Option.map_eq_some_iff] at hu
        obtain ⟨c, _, rfl⟩ := hu
        exact hro _ _ _ this
      | _ => simp [leafA] at hp
  induction d with
  | zero => exact fun {T a cs} h hp => leaf h (by cases a <;> exact hp)
  | succ d ih =>
    intro T a cs h hp
    have key : ∀ {T : Ty} {cs : List Value} {fs : List AV}, RC g T (.st fs) cs → fs.all (plainA d) = true → RC g2 T (.st fs) cs := by
      intro T
      induction T with
      | cn T Ts _ ihs =>
        intro cs fs h hp
        cases h with
        | cn h hs =>
          simp only [List.all_cons, Bool.and_eq_true] at hp
          exact .cn (ih h hp.1) (ihs hs hp.2)
      | nl => intro cs fs h hp; cases h; exact .nl
      | _ => intro cs fs h hp; cases h
    cases a with
    | st fs => exact key h hp
    | tup fs => cases h
    | _ =>
      exact leaf h hp
theorem BC.plain {g g2 : Gh} (hro : ∀ b o c, g.ro b o = some (B8 c) → g2.ro b o = some (B8 c)) (hbx : g2.bx = g.bx) {d : Nat} {T : Ty} {a : AV} {x : Bx} (h : BC g T a x) (hp : plainA d a = true) : BC g2 T a x := by
  obtain ⟨h1, h2, h3⟩ := h.rc_of (fun _ _ e => by subst e; cases d <;> simp [plainA, leafA] at hp) (fun _ _ e => by subst e; cases d <;> simp [plainA, leafA] at hp) (fun _ _ e => by subst e; cases d <;> simp [plainA, leafA] at hp)
  exact .pl (h3.plain hro hbx hp) h1 h2
theorem RV.plain {g g2 : Gh} (hro : ∀ b o c, g.ro b o = some (B8 c) → g2.ro b o = some (B8 c)) (hbx : g2.bx = g.bx) {d : Nat} {a : AV} {u : Value} (h : RV g a u) (hp : plainA (d + 1) a = true) : RV g2 a u := by
  have one : ∀ {d : Nat} {a : AV} {u : Value}, RV1 g a u → plainA d a = true → RV1 g2 a u := fun {d a u} h hp => by
    rcases h with ⟨T, cs, h1, h2, h3⟩ | h
    · exact .inl ⟨T, cs, h1, h2.plain hro hbx hp, h3⟩
    · exact .inr (h.plain hro hbx hp)
  cases a with
  | any => trivial
  | tup az =>
    obtain ⟨vs, h1, h2, h3⟩ := h
    exact ⟨vs, h1, h2, fun i a u ha hu => one (h3 i a u ha hu) (List.all_eq_true.1 hp a (List.mem_of_getElem? ha))⟩
  | _ => exact (one (show RV1 g _ u from h) hp).rv
end Go.Proofs.Ythphhnkoilcofaa
namespace Go.Proofs.Ythphhnkoilcofaa
open Go
section
variable {P : Program} {ops : Array Oper} {Q : Exit → Act → World → Prop} {S : World → Prop} {L A : List Nat}
/-- Where an operation stands in an order of one's own. -/
def rk (ord : List Nat) (i : Nat) : Nat := ord.idxOf i
def chkO (ops : Array Oper) (ord : List Nat) : Bool :=
  ord.length == ops.size && ord.all (fun i => decide (i < ops.size)) && (List.range ops.size).all (fun i => ord.contains i) && (List.range ord.length).all (fun p => match ord[p]? with | some x => rk ord x == p | none => false) &&
    (List.range ops.size).all fun j => (match ops[j]? with | some o => o.after.all fun e => !Region.binds .any e || decide (rk ord e.on < rk ord j) | none => true)
structure OrdOk (ops : Array Oper) (ord : List Nat) : Prop where
  len : ord.length = ops.size
  lt : ∀ i ∈ ord, i < ops.size
  mem : ∀ i, i < ops.size → i ∈ ord
  pos : ∀ p (h : p < ord.length), rk ord ord[p] = p
  edge : ∀ j o, ops[j]? = some o → ∀ e ∈ o.after, Region.binds .any e = true → rk ord e.on < rk ord j
theorem chkO_ok {ops : Array Oper} {ord : List Nat} (h : chkO ops ord = true) : OrdOk ops ord := by
  simp only [chkO, Bool.and_eq_true, beq_iff_eq, List.all_eq_true, decide_eq_true_eq, List.mem_range, List.contains_eq_mem] at h
  obtain ⟨⟨⟨⟨h1, h2⟩, h3⟩, h4⟩, h5⟩ := h
  refine ⟨h1, h2, h3, fun p hp => ?_, fun j o hj e he hb => ?_⟩
  · have := h4 p hp; rw [List.getElem?_eq_getElem hp] at this; simpa using this
  · have := h5 j (Array.getElem?_eq_some_iff.1 hj).1
    rw [hj] at this
    have := (Array.all_eq_true_iff_forall_mem.1 this) e he
    simpa [hb] using this
theorem OrdOk.inj {ops : Array Oper} {ord : List Nat} (h : OrdOk ops ord) {i j : Nat} (hi : i < ops.size) (hj : j < ops.size) (e : rk ord i = rk ord j) : i = j := by
  have h1 := List.getElem_idxOf (List.idxOf_lt_length_of_mem (h.mem i hi))
  have h2 := List.getElem_idxOf (List.idxOf_lt_length_of_mem (h.mem j hj))
  unfold rk at e
  rw [← h1, ← h2]
  simp only [e]
def chkZ (ops : Array Oper) (pre : Array Nat) (ord L A : List Nat) : Bool :=
  (List.range ops.size).all fun j => (List.range ops.size).all fun i => !decide (rk ord i < rk ord j) || ((pre.getD j 0).testBit i || (!(L.contains i && L.contains j) && (!L.contains j || A.contains i) && (!L.contains i || A.contains j)) ||
    (L.contains i && L.contains j && (match ops[j]? with | some o => o.after.all fun e => !Region.binds .any e || (decide (rk ord e.on < rk ord i) || L.contains e.on) | none => true)))
/-- Two that wait for nothing: they change places, or both are loud and the later one waits for nothing but what stands ahead of the other. -/
theorem pair_Z {pre : Array Nat} {ord : List Nat} (hf : Fine ops pre [] []) (hz : chkZ ops pre ord L A = true) {listed : Array Bool} (hd : Down ops listed) {i j : Nat} (hi : i ∈ Region.ready .any ops listed) (hj : j ∈ Region.ready .any ops listed) (hij : rk ord i < rk ord j) :
    ∃ oi oj, ops[i]? = some oi ∧ ops[j]? = some oj ∧ oi.apart ops oj = true ∧ oj.apart ops oi = true ∧
      ((¬ (L.contains i = true ∧ L.contains j = true) ∧ (L.contains j = true → A.contains i = true) ∧ (L.contains i = true → A.contains j = true)) ∨
       (L.contains i = true ∧ L.contains j = true ∧ ∀ e ∈ oj.after, Region.binds .any e = true → rk ord e.on < rk ord i ∨ L.contains e.on = true)) := by
  obtain ⟨oi, oj, hoi, hoj, g1, g2, _⟩ := pair_of_ready hf hd hi hj (by rintro rfl; omega)
  refine ⟨oi, oj, hoi, hoj, g1, g2, ?_⟩
  have unl : ∀ k, listed.getD k true = false → listed.getD k false = true → False := by
    intro k h1 h2
    rcases Nat.lt_or_ge k listed.size with h' | h'
    · simp [h'] at h1 h2; rw [h1] at h2; cases h2
    · simp [Array.getElem?_eq_none h'] at h1
  obtain ⟨hiu, _⟩ := mem_ready.1 hi
  obtain ⟨_, oj', hoj', hallj⟩ := mem_ready.1 hj
  rw [hoj] at hoj'; injection hoj' with hoj'; subst hoj'
  have nij : (pre.getD j 0).testBit i = false := by
    cases ht : (pre.getD j 0).testBit i
    · rfl
    · exact (unl i hiu (pre_listed hf hd j oj hoj hallj i ht)).elim
  simp only [chkZ, List.all_eq_true, List.mem_range] at hz
  have h1 := hz j (Array.getElem?_eq_some_iff.1 hoj).1 i (Array.getElem?_eq_some_iff.1 hoi).1
  rw [nij, hoj, decide_eq_true hij] at h1
  simp only [Bool.not_true, Bool.false_or, Bool.or_eq_true, Bool.and_eq_true] at h1
  rcases h1 with ⟨⟨g1, g2⟩, g3⟩ | ⟨⟨g1, g2⟩, g3⟩
  · refine .inl ⟨fun ⟨x, y⟩ => ?_, fun x => ?_, fun x => ?_⟩
    · rw [x, y] at g1; cases g1
    · rw [x] at g2; simpa using g2
    · rw [x] at g3; simpa using g3
  · refine .inr ⟨g1, g2, fun e he hb => ?_⟩
    have := (Array.all_eq_true_iff_forall_mem.1 g3) e he
    simpa [hb] using this
theorem tOp_all {ι : Type} {p : ι → Prop} {j : Nat} {oj : Oper} {a : Act} {w : World} {K : ι → Act → World → Prop} (hi : ops[j]? = some oj) (hL : ¬ L.contains j = true) (hA : A.contains j = true) (hS : S w) (m0 : ι) (h0 : p m0) (h : ∀ m, p m → tOp P ops S L A j (K m) a w) :
    tOp P ops S L A j (fun a w => ∀ m, p m → K m a w) a w := by
  have h1 := h m0 h0
  unfold tOp at h1 ⊢
  simp only [hi] at h1 ⊢
  by_cases hw : Region.wanted oj (yielded ops a.tmps) = true
  · rw [if_pos hw, if_neg hL] at h1 ⊢
    obtain ⟨v, e1, e2, _⟩ := h1
    refine ⟨v, e1, e2, fun m hm => ?_⟩
    have h2 := h m hm
    unfold tOp at h2
    simp only [hi] at h2
    rw [if_pos hw, if_neg hL] at h2
    obtain ⟨u, f1, f2, f3⟩ := h2
    have := Vr.uniq (e2 hA w hS) (f2 hA w hS)
    subst this
    exact f3
  · rw [if_neg hw] at h1 ⊢
    intro m hm
    have h2 := h m hm
    unfold tOp at h2
    simp only [hi] at h2
    rw [if_neg hw] at h2
    exact h2
/-- A quiet operation at the head: it may come up now. -/
theorem ready_lt {listed : Array Bool} {i : Nat} (h : i ∈ Region.ready .any ops listed) : i < ops.size := by
  obtain ⟨_, o, h, _⟩ := mem_ready.1 h; exact (Array.getElem?_eq_some_iff.1 h).1
theorem tAny_quiet {pre : Array Nat} {ord : List Nat} (ho : OrdOk ops ord) (hf : Fine ops pre [] []) (hz : chkZ ops pre ord L A = true) {i : Nat} (hL : ¬ L.contains i = true) : ∀ (fuel : Nat) (listed : Array Bool) (a : Act) (w : World), Down ops listed → i ∈ Region.ready .any ops listed → S w →
    tOp P ops S L A i (tAny P ops Q S L A fuel (listed.setIfInBounds i true)) a w → tAny P ops Q S L A (fuel + 1) listed a w := by
  intro fuel
  induction fuel with
  | zero =>
    intro listed a w hd hr hS H
    refine ⟨fun h => (by rw [h] at hr; cases hr), fun j hj => ?_⟩
    by_cases hji : j = i
    · subst hji; exact H
    · have := ready_mono hj hji
      obtain ⟨a', w', h⟩ := tOp_some H
      rw [h.1] at this
      cases this
  | succ fuel ih =>
    intro listed a w hd hr hS H
    refine ⟨fun h => (by rw [h] at hr; cases hr), fun j hj => ?_⟩
    by_cases hji : j = i
    · subst hji; exact H
    · have hp : ∃ oi oj, ops[i]? = some oi ∧ ops[j]? = some oj ∧ oi.apart ops oj = true ∧ oj.apart ops oi = true ∧ ¬ (L.contains i = true ∧ L.contains j = true) ∧ (L.contains j = true → A.contains i = true) ∧ (L.contains i = true → A.contains j = true) := by
        rcases Nat.lt_or_gt_of_ne (fun e => hji (ho.inj (ready_lt hj) (ready_lt hr) e)) with h | h
        · obtain ⟨oj, oi, hoj, hoi, g1, g2, g3⟩ := pair_Z hf hz hd hj hr h
          rcases g3 with ⟨k1, k2, k3⟩ | ⟨_, k, _⟩
          · exact ⟨oi, oj, hoi, hoj, g2, g1, fun ⟨x, y⟩ => k1 ⟨y, x⟩, k3, k2⟩
          · exact absurd k hL
        · obtain ⟨oi, oj, hoi, hoj, g1, g2, g3⟩ := pair_Z hf hz hd hr hj h
          rcases g3 with ⟨k1, k2, k3⟩ | ⟨k, _⟩
          · exact ⟨oi, oj, hoi, hoj, g1, g2, k1, k2, k3⟩
          · exact absurd k hL
      obtain ⟨oi, oj, hoi, hoj, g1, g2, g3, g4, g5⟩ := hp
      have H2 : tOp P ops S L A i (tOp P ops S L A j (tAny P ops Q S L A fuel ((listed.setIfInBounds i true).setIfInBounds j true))) a w :=
        tOp_mono hS (fun a w _ h => h.2 j (ready_mono hj hji)) H
      have H3 := tOp_swap hoi hoj g1 g2 (fun cs b => hf.sel i oi cs b hoi) (fun cs b => hf.sel j oj cs b hoj) g3 g4 g5 hS H2
      refine tOp_mono hS (fun a' w' _ h => ?_) H3
      refine ih (listed.setIfInBounds j true) a' w' (down_set hd hj) (ready_mono hr (Ne.symm hji)) h.1 ?_
      rw [Array.setIfInBounds_comm _ _ hji]
      exact h.2
/-- A loud operation at the head: whichever loud one comes up first. -/
theorem tAny_loud {pre : Array Nat} {ord : List Nat} (ho : OrdOk ops ord) (hf : Fine ops pre [] []) (hz : chkZ ops pre ord L A = true) {i : Nat} (hL : L.contains i = true) : ∀ (fuel : Nat) (listed : Array Bool) (a : Act) (w : World), Down ops listed → (∀ j, j < ops.size → rk ord j < rk ord i → listed.getD j false = true) → i ∈ Region.ready .any ops listed → S w →
    (∀ m, (m ∈ Region.ready .any ops listed ∧ L.contains m = true) → tOp P ops S L A m (tAny P ops Q S L A fuel (listed.setIfInBounds m true)) a w) → tAny P ops Q S L A (fuel + 1) listed a w := by
  intro fuel
  induction fuel with
  | zero =>
    intro listed a w hd hlow hr hS H
    refine ⟨fun h => (by rw [h] at hr; cases hr), fun j hj => ?_⟩
    by_cases hji : j = i
    · subst hji; exact H j ⟨hj, hL⟩
    · have := ready_mono hj hji
      obtain ⟨a', w', h⟩ := tOp_some (H i ⟨hr, hL⟩)
      rw [h.1] at this
      cases this
  | succ fuel ih =>
    intro listed a w hd hlow hr hS H
    refine ⟨fun h => (by rw [h] at hr; cases hr), fun j hj => ?_⟩
    by_cases hLj : L.contains j = true
    · exact H j ⟨hj, hLj⟩
    · have hall : ∀ m, (m ∈ Region.ready .any ops listed ∧ L.contains m = true) → ∃ om oj, ops[m]? = some om ∧ ops[j]? = some oj ∧ om.apart ops oj = true ∧ oj.apart ops om = true ∧ A.contains j = true := fun m hm => by
        have hmj : m ≠ j := fun e => hLj (e ▸ hm.2)
        rcases Nat.lt_or_gt_of_ne (fun e => hmj (ho.inj (ready_lt hm.1) (ready_lt hj) e)) with h | h
        · obtain ⟨om, oj, k1, k2, k3, k4, k5⟩ := pair_Z hf hz hd hm.1 hj h
          rcases k5 with ⟨_, _, k7⟩ | ⟨_, k, _⟩
          · exact ⟨om, oj, k1, k2, k3, k4, k7 hm.2⟩
          · exact absurd k hLj
        · obtain ⟨oj, om, k1, k2, k3, k4, k5⟩ := pair_Z hf hz hd hj hm.1 h
          rcases k5 with ⟨_, k6, _⟩ | ⟨k, _⟩
          · exact ⟨om, oj, k2, k1, k4, k3, k6 hm.2⟩
          · exact absurd k hLj
      obtain ⟨_, oj, _, hoj, _, _, hAj⟩ := hall i ⟨hr, hL⟩
      have B : ∀ m, (m ∈ Region.ready .any ops listed ∧ L.contains m = true) → tOp P ops S L A j (fun a w => S w ∧ tOp P ops S L A m (tAny P ops Q S L A fuel ((listed.setIfInBounds m true).setIfInBounds j true)) a w) a w := fun m hm => by
        have hmj : j ≠ m := fun e => hLj (e ▸ hm.2)
        obtain ⟨om, oj', hom, hoj', g1, g2, _⟩ := hall m hm
        rw [hoj] at hoj'; injection hoj' with hoj'; subst hoj'
        have H2 : tOp P ops S L A m (tOp P ops S L A j (tAny P ops Q S L A fuel ((listed.setIfInBounds m true).setIfInBounds j true))) a w :=
          tOp_mono hS (fun a w _ h => h.2 j (ready_mono hj hmj)) (H m hm)
        exact tOp_swap hom hoj g1 g2 (fun cs b => hf.sel m om cs b hom) (fun cs b => hf.sel j oj cs b hoj) (fun ⟨_, y⟩ => hLj y) (fun y => absurd y hLj) (fun _ => hAj) hS H2
      refine tOp_mono hS (fun a' w' hS' h => ?_) (tOp_all hoj hLj hAj hS i ⟨hr, hL⟩ B)
      have hji : j ≠ i := fun e => hLj (e ▸ hL)
      refine ih (listed.setIfInBounds j true) a' w' (down_set hd hj) (fun k hks hk => by
        by_cases e : j = k
        · subst e; exact getD_set_true (hlow _ hks hk)
        · rw [getD_set_ne false e]; exact hlow k hks hk) (ready_mono hr (Ne.symm hji)) hS' fun m hm => ?_
      have hmj : j ≠ m := fun e => hLj (e ▸ hm.2)
      have hmr : m ∈ Region.ready .any ops listed := by
        by_cases hmi : m = i
        · subst hmi; exact hr
        · have hd' := down_set hd hj
          have hri := ready_mono hr (Ne.symm hji)
          rcases Nat.lt_or_gt_of_ne (fun e => hmi (ho.inj (ready_lt hm.1) (ready_lt hr) e)) with h | h
          · exfalso
            refine unlisted hm.1 ?_
            rw [getD_set_ne false hmj]
            exact hlow m (ready_lt hm.1) h
          · obtain ⟨_, om, _, hom, _, _, k5⟩ := pair_Z hf hz hd' hri hm.1 h
            rcases k5 with ⟨k, _⟩ | ⟨_, _, k⟩
            · exact absurd ⟨hL, hm.2⟩ k
            · obtain ⟨q1, om', q2, _⟩ := mem_ready.1 hm.1
              rw [hom] at q2; injection q2 with q2; subst q2
              rw [getD_set_ne true hmj] at q1
              obtain ⟨_, om', q3, q4⟩ := mem_ready.1 hm.1
              rw [hom] at q3; injection q3 with q3; subst q3
              refine mem_ready.2 ⟨q1, om, hom, fun e he hb => ?_⟩
              rcases k e he hb with k | k
              · exact hlow _ (Nat.lt_trans (hf.edge m _ hom e he hb) (ready_lt hm.1)) k
              · have q5 := q4 e he hb
                have hne : j ≠ e.on := fun hh => hLj (hh ▸ k)
                rwa [getD_set_ne _ hne] at q5
      rw [Array.setIfInBounds_comm _ _ hmj]
      exact (h m ⟨hmr, hm.2⟩).2
/-- Which loud operations may come up ahead of i: (i, m) in U; but not as long as one is open that m waits for: (m + 1000, j) in U. -/
def altZ (U : List (Nat × Nat)) (i : Nat) (rest : List Nat) : List Nat := rest.filter fun m => U.contains (i, m) && rest.all fun j => !U.contains (m + 1000, j)
/-- The walk in every order of the loud operations; U: those pairs that wait for nothing. -/
def wpZ (P : Program) (ops : Array Oper) (Q : Exit → Act → World → Prop) (S : World → Prop) (L A : List Nat) (U : List (Nat × Nat)) : Nat → List Nat → Act → World → Prop
  | 0, _, a, w => Q .normal a w
  | _ + 1, [], a, w => Q .normal a w
  | n + 1, i :: rest, a, w => if L.contains i then ∀ m ∈ i :: altZ U i rest, tOp P ops S L A m (wpZ P ops Q S L A U n ((i :: rest).erase m)) a w
      else tOp P ops S L A i (wpZ P ops Q S L A U n rest) a w
def chkU (ops : Array Oper) (pre : Array Nat) (ord L : List Nat) (U : List (Nat × Nat)) : Bool :=
  ((List.range ops.size).all fun j => (List.range ops.size).all fun i => !decide (rk ord i < rk ord j) || (pre.getD j 0).testBit i || !(L.contains i && L.contains j) || U.contains (i, j)) && U.all fun p => decide (p.1 < 1000) || (pre.getD (p.1 - 1000) 0).testBit p.2
theorem wpZ_any {pre : Array Nat} {ord : List Nat} {U : List (Nat × Nat)} (ho : OrdOk ops ord) (hf : Fine ops pre [] []) (hz : chkZ ops pre ord L A = true) (hu : chkU ops pre ord L U = true) : ∀ (n : Nat) (pend : List Nat) (listed : Array Bool) (a : Act) (w : World), pend.length = n → pend.Pairwise (rk ord · < rk ord ·) → (∀ m ∈ pend, m < ops.size) → listed.size = ops.size →
    (∀ i, i < ops.size → ∀ d, listed.getD i d = !pend.contains i) → Down ops listed → S w → wpZ P ops Q S L A U n pend a w → tAny P ops Q S L A n listed a w := by
  intro n
  induction n with
  | zero =>
    intro pend listed a w hl hp hb hsz hli hd hS h
    obtain rfl : pend = [] := List.length_eq_zero_iff.1 hl
    exact tAny_nil (fun i hi d => by rw [hli i hi d]; rfl) h
  | succ n ih =>
    intro pend listed a w hl hp hb hsz hli hd hS h
    match pend, hl with
    | i :: rest, hl =>
      have hl' : rest.length = n := by simpa using hl
      obtain ⟨hp1, hp2⟩ := List.pairwise_cons.1 hp
      have hilt := hb i List.mem_cons_self
      have hlow : ∀ j, j < ops.size → rk ord j < rk ord i → listed.getD j false = true := fun j hjs hj => by
        rw [hli j hjs false]
        simp only [Bool.not_eq_true', List.contains_eq_mem, decide_eq_false_iff_not, List.mem_cons, not_or]
        exact ⟨by rintro rfl; omega, fun e => by have := hp1 j e; omega⟩
      have hri : i ∈ Region.ready .any ops listed := by
        refine mem_ready.2 ⟨by rw [hli i hilt true]; simp, _, Array.getElem?_eq_getElem hilt, fun e he hb => hlow _ (Nat.lt_trans (hf.edge i _ (Array.getElem?_eq_getElem hilt) e he hb) hilt) (ho.edge i _ (Array.getElem?_eq_getElem hilt) e he hb)⟩
      have next : ∀ m, m ∈ Region.ready .any ops listed → m ∈ i :: rest → ∀ a w, S w → wpZ P ops Q S L A U n ((i :: rest).erase m) a w → tAny P ops Q S L A n (listed.setIfInBounds m true) a w := fun m hmr hm a w hS h => by
        refine ih _ _ a w (by rw [List.length_erase_of_mem hm, hl]; rfl) (hp.sublist List.erase_sublist) (fun x hx => hb x (List.mem_of_mem_erase hx)) (by simpa using hsz) (fun x hx d => ?_) (down_set hd hmr) hS h
        have hnd : (i :: rest).Nodup := hp.imp (fun {a b} h => by rintro rfl; omega)
        by_cases e : m = x
        · subst e
          have h1 : (listed.setIfInBounds m true).getD m d = true := by simp [hsz, hx]
          rw [h1]
          simp [List.contains_eq_mem, hnd.mem_erase_iff]
        · rw [getD_set_ne d e, hli x hx d]
          congr 1
          simp only [List.contains_eq_mem, hnd.mem_erase_iff]
          have : x ≠ m := fun h => e h.symm
          simp [this]
      unfold wpZ at h
      by_cases hL : L.contains i = true
      · rw [if_pos hL] at h
        refine tAny_loud ho hf hz hL n listed a w hd hlow hri hS fun m hm => ?_
        have hmp : m ∈ i :: rest := by
          obtain ⟨q1, om, q2, _⟩ := mem_ready.1 hm.1
          have := hli m (Array.getElem?_eq_some_iff.1 q2).1 true
          rw [q1] at this
          have hc : (i :: rest).contains m = true := by
            cases hq : (i :: rest).contains m
            · rw [hq] at this; cases this
            · rfl
          simpa [List.contains_eq_mem] using hc
        have hmc : m ∈ i :: altZ U i rest := by
          rcases List.mem_cons.1 hmp with rfl | hmr
          · exact List.mem_cons_self
          · refine List.mem_cons_of_mem _ (List.mem_filter.2 ⟨hmr, ?_⟩)
            have him := hp1 m hmr
            simp only [chkU, Bool.and_eq_true, List.all_eq_true, List.mem_range] at hu
            obtain ⟨hu, hu2⟩ := hu
            have h1 := hu m (hb m hmp) i hilt
            have h2 : (rest.all fun j => !U.contains (m + 1000, j)) = true := by
              refine List.all_eq_true.2 fun j hj => ?_
              cases hc : U.contains (m + 1000, j) with
              | false => rfl
              | true =>
                have h3 := hu2 (m + 1000, j) (by simpa [List.contains_eq_mem] using hc)
                have h4 : ¬ (m + 1000 < 1000) := by omega
                simp only [h4, decide_false, Bool.false_or, Nat.add_sub_cancel] at h3
                obtain ⟨_, om, hom, hall⟩ := mem_ready.1 hm.1
                have h5 := pre_listed hf hd m om hom hall j h3
                have hjb := hb j (List.mem_cons_of_mem _ hj)
                rw [hli j hjb false] at h5
                simp [List.contains_eq_mem, hj] at h5
            rw [decide_eq_true him] at h1
            obtain ⟨_, om, hom, hall⟩ := mem_ready.1 hm.1
            have hn : (pre.getD m 0).testBit i = false := by
              cases ht : (pre.getD m 0).testBit i
              · rfl
              · exact absurd (pre_listed hf hd m om hom hall i ht) (unlisted hri)
            rw [hn, hL, hm.2] at h1
            have h6 : U.contains (i, m) = true := by simpa using h1
            rw [h6, h2]; rfl
        exact tOp_mono hS (fun a' w' hS' hh => next m hm.1 hmp a' w' hS' hh) (h m hmc)
      · rw [if_neg hL] at h
        refine tAny_quiet ho hf hz hL n listed a w hd hri hS ?_
        refine tOp_mono hS (fun a' w' hS' hh => next i hri List.mem_cons_self a' w' hS' ?_) h
        rw [List.erase_cons_head]
        exact hh
theorem wp_region_Z {id : Nat} {a : Act} {w : World} {l : List Oper} (ord L A : List Nat) (U : List (Nat × Nat)) (S : World → Prop) (hm : P.follows .mixedOrders = true) (hc : chk l.toArray (Region.before l.toArray) [] [] = true) (hoc : chkO l.toArray ord = true) (hz : chkZ l.toArray (Region.before l.toArray) ord L A = true) (hu : chkU l.toArray (Region.before l.toArray) ord L U = true)
    (hS : S w.drew) (h : wpZ P l.toArray Q S L A U l.length ord a w.drew) : (Code.region id l.toArray true).wp P Q a w := by
  refine wp_region_any hm (wpAny_of_tAny (L := L) (A := A) (S := S) _ _ _ _ ?_)
  have hsz : l.toArray.size = l.length := by simp
  have ho := chkO_ok hoc
  have hol : ord.length = l.length := ho.len.trans hsz
  have := wpZ_any (P := P) (Q := Q) (S := S) ho (fine_of_chk hc) hz hu l.length ord (Array.replicate l.toArray.size false) a w.drew hol (List.pairwise_iff_getElem.2 fun i j hi hj hij => by rw [ho.pos i hi, ho.pos j hj]; exact hij) ho.lt (by simp)
    (fun i hi d => by
      have hm := ho.mem i hi
      simp only [Array.getD_eq_getD_getElem?, Array.getElem?_replicate, if_pos hi, List.contains_eq_mem]
      simp [hm])
    (fun j o hj hl => by
      have hjl := (Array.getElem?_eq_some_iff.1 hj).1
      simp only [Array.getD_eq_getD_getElem?, Array.getElem?_replicate, if_pos hjl] at hl
      simp at hl) hS h
  rw [hsz]
  exact this
/-- The next operations, in their order. -/
theorem wpZ_seg {U : List (Nat × Nat)} : ∀ (seg : List Oper) (i n : Nat) (rest : List Nat) (a : Act) (w : World), (∀ j, j < seg.length → L.contains (i + j) = false) → (∀ j, j < seg.length → ops[i + j]? = seg[j]?) → wpT P ops (fun _ a w => wpZ P ops Q S L A U n rest a w) S L A seg i a w →
    wpZ P ops Q S L A U (seg.length + n) (List.range' i seg.length ++ rest) a w
  | [], i, n, rest, a, w, _, _, h => by simpa [wpT] using h
  | o :: seg, i, n, rest, a, w, hL, ho, h => by
    have h0 := hL 0 (by simp)
    have o0 := ho 0 (by simp)
    rw [Nat.add_zero] at h0 o0
    have o0 : ops[i]? = some o := by simpa using o0
    rw [List.length_cons, show seg.length + 1 + n = (seg.length + n) + 1 by omega, List.range'_succ, List.cons_append]
    unfold wpZ
    rw [if_neg (by rw [h0]; exact Bool.false_ne_true)]
    have ih := fun a w hh => wpZ_seg (U := U) seg (i + 1) n rest a w (fun j hj => by have := hL (j + 1) (by simp; omega); rwa [show i + 1 + j = i + (j + 1) by omega]) (fun j hj => by have := ho (j + 1) (by simp; omega); rw [show i + 1 + j = i + (j + 1) by omega, this]; simp) hh
    unfold tOp
    simp only [o0]
    unfold wpT at h
    by_cases hw : Region.wanted o (yielded ops a.tmps) = true
    · rw [if_pos hw, if_neg (by rw [h0]; exact Bool.false_ne_true)] at h ⊢
      obtain ⟨v, e1, e2, e3⟩ := h
      exact ⟨v, e1, e2, ih _ _ e3⟩
    · rw [if_neg hw] at h ⊢
      exact ih _ _ h
theorem wpZ_run {U : List (Nat × Nat)} (k : Nat) {i n n' : Nat} {pend pend' : List Nat} {seg : List Oper} {a : Act} {w : World} (hp : pend = List.range' i k ++ pend') (hn : n = k + n') (hs : (ops.toList.drop i).take k = seg) (hk : seg.length = k) (hL : (List.range' i k).all (fun j => !L.contains j) = true)
    (h : wpT P ops (fun _ a w => wpZ P ops Q S L A U n' pend' a w) S L A seg i a w) : wpZ P ops Q S L A U n pend a w := by
  subst hp hn
  have := wpZ_seg (U := U) seg i n' pend' a w (fun j hj => by
    have := List.all_eq_true.1 hL (i + j) (List.mem_range'_1.2 ⟨by omega, by omega⟩)
    simpa using this) (fun j hj => by
    rw [← hs, List.getElem?_take, if_pos (by omega), List.getElem?_drop, Array.getElem?_toList]) h
  rw [hk] at this
  exact this
theorem wpZ_loud {U : List (Nat × Nat)} {i n : Nat} {rest : List Nat} {a : Act} {w : World} (hL : L.contains i = true) (h : ∀ m ∈ i :: altZ U i rest, tOp P ops S L A m (wpZ P ops Q S L A U n ((i :: rest).erase m)) a w) : wpZ P ops Q S L A U (n + 1) (i :: rest) a w := by
  unfold wpZ; rw [if_pos hL]; exact h
theorem wpZ_pick {U : List (Nat × Nat)} {m n : Nat} {pend pend' : List Nat} {o : Oper} {a : Act} {w : World} (he : pend.erase m = pend') (ho : (ops.toList.drop m).head? = some o) (h : wpT P ops (fun _ a w => wpZ P ops Q S L A U n pend' a w) S L A [o] m a w) : tOp P ops S L A m (wpZ P ops Q S L A U n (pend.erase m)) a w := by
  have ho : ops[m]? = some o := by rw [List.head?_drop, Array.getElem?_toList] at ho; exact ho
  rw [he]; unfold tOp; simp only [ho]; exact h
theorem all1 {p : Nat → Prop} {x : Nat} (h : p x) : ∀ m ∈ [x], p m := fun m hm => by simp at hm; subst hm; exact h
theorem wpZ_nil {U : List (Nat × Nat)} {p : List Nat} {a : Act} {w : World} (h : Q .normal a w) : wpZ P ops Q S L A U 0 p a w := h
theorem wpZ_two {U : List (Nat × Nat)} {i n : Nat} {rest cs : List Nat} {a : Act} {w : World} (hL : L.contains i = true) (hc : altZ U i rest = cs) (h : ∀ m ∈ i :: cs, tOp P ops S L A m (wpZ P ops Q S L A U n ((i :: rest).erase m)) a w) : wpZ P ops Q S L A U (n + 1) (i :: rest) a w := by
  subst hc; exact wpZ_loud hL h
theorem all2 {p : Nat → Prop} {x y : Nat} (h : p x ∧ p y) : ∀ m ∈ [x, y], p m := fun m hm => by
  simp at hm
  rcases hm with rfl | rfl
  · exact h.1
  · exact h.2
end
section
variable {P : Program} {w0 w : World} {N : Gh} {st : St} {nt : Nat} {a : Act}
/-- A region that draws its order, in every order of its loud operations. -/
theorem v_drawZ {id : Nat} {Q : Exit → Act → World → Prop} {l : List Oper} (nb : Nat) (ord L A : List Nat) (U : List (Nat × Nat)) (hm : P.follows .mixedOrders = true) (hchk : chk l.toArray (Region.before l.toArray) [] [] = true) (hoc : chkO l.toArray ord = true) (hz : chkZ l.toArray (Region.before l.toArray) ord L A = true) (hu : chkU l.toArray (Region.before l.toArray) ord L U = true) (H : Rel P w0 N nt st a w)
    (hb : (st.bx.take nb).all (fun x => low nb 0 4 x.2) = true)
    (k : ∀ gS, RelT P w0 N nt gS ⟨st.t.filter fun p => low nb 0 4 p.2.2, st.bx.take nb, st.fz, []⟩ st a w.drew → wpZ P l.toArray Q (Mem gS) L A U l.length ord a w.drew) : (Code.region id l.toArray true).wp P Q a w := by
  obtain ⟨g, HI, hF⟩ := H
  have HI' := HI.drew
  have hc := HI'.loose.cut (nr := 0) (Nat.zero_le _) (Nat.zero_le _) hb
  have hgb : ∀ (i : Nat) x, (g.cut nb 0).bx[i]? = some x → g.bx[i]? = some x := fun i x hx => by
    have : (g.bx.take nb)[i]? = some x := hx
    rw [List.getElem?_take] at this
    split at this
    · exact this
    · cases this
  have hle : (g.cut nb 0).le g := ⟨fun _ _ _ h => h, fun i x hx => ⟨x, hgb i x hx, x.same⟩, fun i r hr => by simp [Gh.cut] at hr⟩
  have hbs : Bs (g.cut nb 0) g := fun i x hx => ⟨x, hgb i x hx, rfl, rfl, rfl, rfl, rfl⟩
  have HT : RelT P w0 N nt (g.cut nb 0) ⟨st.t.filter fun p => low nb 0 4 p.2.2, st.bx.take nb, st.fz, []⟩ st a w.drew :=
    ⟨hc.mem, by simp [Gh.cut], ⟨hF.sz, hF.df, fun p hp hg => by
      simp only [List.mem_filter] at hp
      exact (hF.t p hp.1 hg).low_ (d := 3) hp.2, fun p hp hg => hF.u p (List.mem_filter.1 hp).1 hg⟩, hc.br, g, HI', hF, hle, hbs⟩
  exact wp_region_Z ord L A U (Mem (g.cut nb 0)) hm hchk hoc hz hu HT.mem (k _ HT)
end
end Go.Proofs.Ythphhnkoilcofaa
/- node.Way: the way of a key among entries. -/
namespace Go.Proofs.Ythphhnkoilcofaa
open Go Go.RowKit
/-- The other sides' digests on a key's way; with what it ends. -/
def wayA (key : List UInt8) : Nat → Nat → List En → List (List UInt8)
  | 0, _, _ => []
  | f + 1, d, l => if l.length < 2 then [] else rootA f (d + 1) (half (!bitN key d) d l) :: wayA key f (d + 1) (half (bitN key d) d l)
def endB (l : List En) : Nd := match l with
  | [] => Nd.zero
  | x :: _ => Nd.one x.1 x.2
def endA (key : List UInt8) : Nat → Nat → List En → Nd
  | 0, _, l => endB l
  | f + 1, d, l => if l.length < 2 then endB l else endA key f (d + 1) (half (bitN key d) d l)
theorem wayA_small (key : List UInt8) (f d : Nat) (l : List En) (h : l.length < 2) : wayA key f d l = [] := by cases f with
  | zero => rfl
  | succ f => rw [wayA, if_pos h]
theorem endA_small (key : List UInt8) (f d : Nat) (l : List En) (h : l.length < 2) : endA key f d l = endB l := by cases f with
  | zero => rfl
  | succ f => rw [endA, if_pos h]
theorem wayA_w (key : List UInt8) : ∀ f d l, ∀ x ∈ wayA key f d l, x.length = 32
  | 0, _, _, x, hx => by cases hx
  | f + 1, d, l, x, hx => by
    unfold wayA at hx
    split at hx
    · cases hx
    · rcases List.mem_cons.1 hx with rfl | hx
      · exact rootA_len _ _ _
      · exact wayA_w key f _ _ x hx
theorem wayA_le (key : List UInt8) : ∀ f d l, (wayA key f d l).length ≤ f
  | 0, _, _ => Nat.le_refl _
  | f + 1, d, l => by
    unfold wayA
    split
    · exact Nat.zero_le _
    · have := wayA_le key f (d + 1) (half (bitN key d) d l); simp only [List.length_cons]; omega
theorem Nd.one_wf {a b : List UInt8} (ha : a.length = 32) (hb : b.length = 32) : (Nd.one a b).wf := ⟨ha, hb, z32_len, z32_len⟩
/-- The state of the walk down: what is done, what is to do. -/
structure Wy (key : List UInt8) (W : List (List UInt8)) (E : Nd) (i : Nat × List Pr × List (List UInt8)) : Prop where
  d : i.1 ≤ 256
  w : i.2.2 ++ wayA key (256 - i.1) i.1 (dgs i.2.1) = W
  e : endA key (256 - i.1) i.1 (dgs i.2.1) = E
  r : Rise i.1 (dgs i.2.1)
  k : K32 i.2.1
  v : V0 i.2.1
  n : i.2.1.length ≤ 34359730000
  s : i.2.2.length = i.1
theorem bas_snoc (s : List (List UInt8)) (x : List UInt8) : bas (s ++ [x]) = bas s ++ [.ba x] := by simp [bas]
theorem Wy.go {key : List UInt8} {W : List (List UInt8)} {E : Nd} {d : Nat} {s : List Pr} {ss : List (List UInt8)} (h : Wy key W E (d, s, ss)) (h2 : 1 < s.length) :
    d < 256 ∧ ∀ o q : List Pr, (o, q) = (if bitN key d then (s.drop (partN d (dgs s)), s.take (partN d (dgs s))) else (s.take (partN d (dgs s)), s.drop (partN d (dgs s)))) →
      Wy key W E (d + 1, o, ss ++ [rootA (255 - d) (d + 1) (dgs q)]) ∧ Rise (d + 1) (dgs q) ∧ K32 q ∧ V0 q ∧ q.length ≤ 34359730000 := by
  have hl : ¬ (dgs s).length < 2 := by rw [dgs_len]; omega
  have hd : d < 256 := by
    by_cases hd : d < 256
    · exact hd
    · exact absurd (h.r.sep.deep (by show 256 ≤ d; omega)) (by rw [dgs_len]; show ¬ s.length < 2; omega)
  refine ⟨hd, fun o q hoq => ?_⟩
  obtain ⟨e1, e2⟩ := Rise.part hd h.r
  have f1 : 256 - d = (255 - d) + 1 := by omega
  have hw := h.w
  have he := h.e
  have hn := h.n
  have hs := h.s
  dsimp only at hw he e1 e2 hn hs
  rw [f1, wayA, if_neg hl] at hw
  rw [f1, endA, if_neg hl] at he
  have f2 : 256 - (d + 1) = 255 - d := by omega
  cases hb : bitN key d with
  | true =>
    rw [hb, if_pos rfl] at hoq
    obtain ⟨rfl, rfl⟩ := Prod.mk.inj hoq
    rw [hb] at hw he
    rw [e2, dgs_drop] at hw he
    rw [Bool.not_true, e1, dgs_take] at hw
    have r1 := h.r.side false
    have r2 := h.r.side true
    dsimp only at r1 r2
    rw [e1, dgs_take] at r1
    rw [e2, dgs_drop] at r2
    refine ⟨⟨by show d + 1 ≤ 256; omega, ?_, ?_, r2, h.k.drop _, h.v.drop _, by dsimp only; rw [List.length_drop]; omega, by dsimp only; rw [List.length_append, hs]; rfl⟩, r1, h.k.take _, h.v.take _, by rw [List.length_take]; omega⟩
    · dsimp only; rw [f2, List.append_assoc]; exact hw
    · dsimp only; rw [f2]; exact he
  | false =>
    rw [hb, if_neg (by decide)] at hoq
    obtain ⟨rfl, rfl⟩ := Prod.mk.inj hoq
    rw [hb] at hw he
    rw [e1, dgs_take] at hw he
    rw [Bool.not_false, e2, dgs_drop] at hw
    have r1 := h.r.side false
    have r2 := h.r.side true
    dsimp only at r1 r2
    rw [e1, dgs_take] at r1
    rw [e2, dgs_drop] at r2
    refine ⟨⟨by show d + 1 ≤ 256; omega, ?_, ?_, r1, h.k.take _, h.v.take _, by dsimp only; rw [List.length_take]; omega, by dsimp only; rw [List.length_append, hs]; rfl⟩, r2, h.k.drop _, h.v.drop _, by rw [List.length_drop]; omega⟩
    · dsimp only; rw [f2, List.append_assoc]; exact hw
    · dsimp only; rw [f2]; exact he
/-- The way of a key among entries. -/
def wayE (l : List Pr) (key : List UInt8) : Pf := ⟨wayA key 256 0 (dgs (srt l)), endA key 256 0 (dgs (srt l))⟩
theorem cutH {B R : Act → World → Prop} {G : Prop} (h : (∀ a w, R a w → B a w) → G) (k : ∀ a w, R a w → B a w) : G := h k
set_option maxRecDepth 20000 in
set_option maxHeartbeats 2000000 in
theorem nway_v (l : List Pr) (hk : K32 l) (hl : l.length ≤ 34359730000) (key : List UInt8) (hk32 : key.length = 32) (he : errP l = 0) :
    VC Try.prog 58 [.sl prT (l.map prA) none, .ba key] [(27, (wayE l key).s.length)] (.tup [.st [.sl (.ba 32) (bas (wayE l key).s) (some 0), (wayE l key).e.av], errv 0]) := by
  have hs := sorted_v l hk (by omega)
  obtain ⟨hle, hdis, hvals⟩ := errP_ok he
  have hr : resP l = .tup [.sl prT ((srt l).map prA) none, .v (.int .i64 0)] := by unfold resP; rw [if_pos he]
  rw [hr] at hs
  have hsl : (srt l).length = l.length := (srt_perm l).length_eq
  have hsk : K32 (srt l) := hk.perm (srt_perm l)
  have hsr := srt_ris l hk hdis
  have hsv : V0 (srt l) := fun x hx => Nat.le_trans (hvals x ((srt_perm l).mem_iff.1 hx)) (by decide)
  have hrise := ends_rise (d := 0) (srt l) hsk hsr (by omega) (.inr (by omega))
  unfold wayE
  generalize srt l = m at *
  have hm0 : Wy key (wayA key 256 0 (dgs m)) (endA key 256 0 (dgs m)) (0, m, []) := ⟨Nat.zero_le _, rfl, rfl, hrise, hsk, hsv, by dsimp only; omega, rfl⟩
  have hWle := wayA_le key 256 0 (dgs m)
  generalize wayA key 256 0 (dgs m) = W at *
  generalize endA key 256 0 (dgs m) = E at *
  dsimp only
  have hWl := bas_len W
  have hz2 := z32_len
  refine mE Try.func58 ?_; intro N w0 a w hN hR H
  refine mW ?_; clear H; intro a w H
  refine mCall [] [] (hs) H ?_; clear H; intro a w H; try refine wpList_nil ?_
  refine mW ?_; clear H; intro a w H
  refine mC H (fun hb => ?_) (fun hb => ?_)
  · simp at hb
  · clear hb
    refine mW ?_; clear H; intro a w H
    have H := v_nilX tab_ok H 2 0 27 (j := ti27) (.ba 32) rfl (by decide) rfl rfl
    simp only [List.set_cons_succ, List.set_cons_zero, List.length_cons, List.length_nil, Nat.reduceAdd, List.cons_append, List.nil_append, hz] at H
    refine v_loop (fun i : Nat × List Pr × List (List UInt8) => ⟨[(9, none, .v (.int .i64 (i.1 : Int))), (8, none, .ptr 2 []), (6, none, .sl prT (i.2.1.map prA) none), (5, none, .v (.int .i64 0)), (4, none, .ptr 1 []), (3, none, .ptr 0 [])],
      [(.ba 32, .ba key), (ti41.ty, .st [.v (.slice none 0 0), .st [.v (.int .u8 0), .ba z32, .ba z32, .ba z32, .ba z32]]), (ti41.ty, .st [.sl (.ba 32) (bas i.2.2) (some 0), .st [.v (.int .u8 0), .ba z32, .ba z32, .ba z32, .ba z32]])], [], [(27, i.2.2.length)]⟩)
      (Wy key W E) (fun i => 256 - i.1) (0, m, []) hm0 (H.to 3 1 ⟨Nat.le_trans hN (by decide), Nat.le_trans hR (by decide)⟩ ⟨rfl, rfl, rfl, rfl, rfl, rfl, trivial⟩ rfl rfl rfl rfl rfl) ?_
    clear H hm0
    rintro ⟨d, s, ss⟩ a w hwy H
    dsimp only at H
    have hml : (s.map prA).length = s.length := List.length_map ..
    have hssl := bas_len ss
    have hn := hwy.n
    have hssd := hwy.s
    dsimp only at hn hssd
    have hX := And.intro @hml (@hssl)
    refine mW ?_; clear H; intro a w H
    refine mC H (fun hb => ?_) (fun hb => ?_)
    · have h2 : 1 < s.length := by rw [decide_eq_true_eq] at hb; omega
      clear hb
      obtain ⟨hd, hgo⟩ := hwy.go h2
      have hp := npart_v s hwy.k d hd hn
      have hbit := bit_v key hk32 (d : Int)
      have hpn := partN_le d (dgs s)
      rw [dgs_len] at hpn
      have hpb : decide (pbit key (d : Int) = 1) = bitN key d := by
        rw [pbit, if_pos (by omega), Int.toNat_natCast]; cases bitN key d <;> rfl
      refine mW ?_; clear H; intro a w H
      refine mCall [] [] (hp) H ?_; clear H; intro a w H; try refine wpList_nil ?_
      clear hX; have hX := And.intro @hml (And.intro @hssl (And.intro @prs_take (@prs_drop)))
      refine mW ?_; clear H; intro a w H
      refine mS ?_; refine mD 0 [] [] H ?_; clear H; intro gS H; refine mT ?_; clear H; intro a w H
      refine v_drawNil H ?_; clear H; intro H
      refine mW ?_; clear H; intro a w H
      refine mCall [] [] (hbit) H ?_; clear H; intro a w H; try refine wpList_nil ?_
      refine mW ?_; clear H; intro a w H
      simp only [hpb] at H
      obtain ⟨o, q, hoq⟩ : ∃ o q : List Pr, (o, q) = (if bitN key d then (s.drop (partN d (dgs s)), s.take (partN d (dgs s))) else (s.take (partN d (dgs s)), s.drop (partN d (dgs s)))) := ⟨_, _, rfl⟩
      obtain ⟨hnext, hq1, hq2, hq3, hq4⟩ := hgo o q hoq
      have hrt := nroot_v (255 - d) (d + 1) q (by omega) hq1 hq2 hq3 hq4
      have hrl := rootA_len (255 - d) (d + 1) (dgs q)
      revert a w
      apply cutH (R := fun a w => Rel Try.prog w0 N Try.f58.ntmps ⟨[(12, none, .sl prT (q.map prA) none), (11, none, .sl prT (o.map prA) none), (9, none, .v (.int .i64 (d : Int))), (8, none, .ptr 2 []), (5, none, .v (.int .i64 0)), (4, none, .ptr 1 []), (3, none, .ptr 0 [])],
        [(.ba 32, .ba key), (ti41.ty, .st [.v (.slice none 0 0), .st [.v (.int .u8 0), .ba z32, .ba z32, .ba z32, .ba z32]]), (ti41.ty, .st [.sl (.ba 32) (bas ss) (some 0), .st [.v (.int .u8 0), .ba z32, .ba z32, .ba z32, .ba z32]])], [], [(27, ss.length)]⟩ a w)
      · intro key1 a w H
        refine mC H (fun hb => ?_) (fun hb => ?_)
        · rw [hb, if_pos rfl] at hoq
          obtain ⟨rfl, rfl⟩ := Prod.mk.inj hoq
          refine mW ?_; clear H; intro a w H
          exact key1 _ _ (H.to 3 1 ⟨Nat.le_trans hN (by decide), Nat.le_trans hR (by decide)⟩ ⟨rfl, rfl, rfl, rfl, rfl, rfl, rfl, trivial⟩ rfl rfl rfl rfl rfl)
        · rw [hb, if_neg (by decide)] at hoq
          obtain ⟨rfl, rfl⟩ := Prod.mk.inj hoq
          refine mS ?_
          exact key1 _ _ (H.to 3 1 ⟨Nat.le_trans hN (by decide), Nat.le_trans hR (by decide)⟩ ⟨rfl, rfl, rfl, rfl, rfl, rfl, rfl, trivial⟩ rfl rfl rfl rfl rfl)
      intro a w H
      generalize rootA (255 - d) (d + 1) (dgs q) = x at *
      clear hX; have hX := @hssl
      repeat (first | refine wp_seq ?_ | refine wp_block ?_)
      refine v_drawZ 0 [2, 3, 4, 0, 1, 5, 6, 7, 8, 9] [0, 1, 5, 6, 7, 9] [2, 3, 4] [(0, 5), (0, 6), (1, 5), (1, 6), (1006, 5)] (by kernel_rfl) (by kernel_rfl) (by kernel_rfl) (by kernel_rfl) (by kernel_rfl) H (by rfl) ?_; clear H; intro gS H; try replace H := ntf H
      refine wpZ_run 3 (i := 2) (n' := 7) (pend' := [0, 1, 5, 6, 7, 8, 9]) (by rfl) (by rfl) (by rfl) (by rfl) (by rfl) ?_
      repeat ((first | refine v_someT 3 tab_ok hN H (by rfl) ctX ?_ | refine v_someT 2 tab_ok hN H (by rfl) ctX ?_ | refine v_someT 1 tab_ok hN H (by rfl) ctX ?_); clear H; intro a w H; replace H := ntf H; simp only [List.drop_succ_cons, List.drop_zero, List.drop_nil])
      refine wpT_nil ?_
      try dsimp only
      refine wpZ_two (cs := [5]) (by rfl) (by rfl) ?_
      refine all2 ?_
      refine ⟨?_, ?_⟩
      focus
        refine wpZ_pick (pend' := [1, 5, 6, 7, 8, 9]) (by rfl) (by rfl) ?_
        repeat ((first | refine v_someT 3 tab_ok hN H (by rfl) ctX ?_ | refine v_someT 2 tab_ok hN H (by rfl) ctX ?_ | refine v_someT 1 tab_ok hN H (by rfl) ctX ?_); clear H; intro a w H; replace H := ntf H; simp only [List.drop_succ_cons, List.drop_zero, List.drop_nil])
        refine wpT_nil ?_
        try dsimp only
        refine wpZ_two (cs := [5]) (by rfl) (by rfl) ?_
        refine all2 ?_
        refine ⟨?_, ?_⟩
        focus
          refine wpZ_pick (pend' := [5, 6, 7, 8, 9]) (by rfl) (by rfl) ?_
          repeat ((first | refine v_someT 3 tab_ok hN H (by rfl) ctX ?_ | refine v_someT 2 tab_ok hN H (by rfl) ctX ?_ | refine v_someT 1 tab_ok hN H (by rfl) ctX ?_); clear H; intro a w H; replace H := ntf H; simp only [List.drop_succ_cons, List.drop_zero, List.drop_nil])
          refine wpT_nil ?_
          try dsimp only
          refine wpZ_two (cs := []) (by rfl) (by rfl) ?_
          refine all1 ?_
          refine wpZ_pick (pend' := [6, 7, 8, 9]) (by rfl) (by rfl) ?_
          refine mCallT [] [] (hrt) H ?_; clear H; intro a w H
          refine wpT_nil ?_
          try dsimp only
          refine wpZ_two (cs := []) (by rfl) (by rfl) ?_
          refine all1 ?_
          refine wpZ_pick (pend' := [7, 8, 9]) (by rfl) (by rfl) ?_
          repeat ((first | refine v_someT 3 tab_ok hN H (by rfl) ctX ?_ | refine v_someT 2 tab_ok hN H (by rfl) ctX ?_ | refine v_someT 1 tab_ok hN H (by rfl) ctX ?_); clear H; intro a w H; replace H := ntf H; simp only [List.drop_succ_cons, List.drop_zero, List.drop_nil])
          refine wpT_nil ?_
          try dsimp only
          refine wpZ_two (cs := []) (by rfl) (by rfl) ?_
          refine all1 ?_
          refine wpZ_pick (pend' := [8, 9]) (by rfl) (by rfl) ?_
          repeat ((first | refine v_someT 3 tab_ok hN H (by rfl) ctX ?_ | refine v_someT 2 tab_ok hN H (by rfl) ctX ?_ | refine v_someT 1 tab_ok hN H (by rfl) ctX ?_); clear H; intro a w H; replace H := ntf H; simp only [List.drop_succ_cons, List.drop_zero, List.drop_nil])
          refine wpT_nil ?_
          try dsimp only
          refine wpZ_run 1 (i := 8) (n' := 1) (pend' := [9]) (by rfl) (by rfl) (by rfl) (by rfl) (by rfl) ?_
          repeat ((first | refine v_someT 3 tab_ok hN H (by rfl) ctX ?_ | refine v_someT 2 tab_ok hN H (by rfl) ctX ?_ | refine v_someT 1 tab_ok hN H (by rfl) ctX ?_); clear H; intro a w H; replace H := ntf H; simp only [List.drop_succ_cons, List.drop_zero, List.drop_nil])
          refine wpT_nil ?_
          try dsimp only
          refine wpZ_two (cs := []) (by rfl) (by rfl) ?_
          refine all1 ?_
          refine wpZ_pick (pend' := []) (by rfl) (by rfl) ?_
          repeat ((first | refine v_someT 3 tab_ok hN H (by rfl) ctX ?_ | refine v_someT 2 tab_ok hN H (by rfl) ctX ?_ | refine v_someT 1 tab_ok hN H (by rfl) ctX ?_); clear H; intro a w H; replace H := ntf H; simp only [List.drop_succ_cons, List.drop_zero, List.drop_nil])
          refine wpT_nil ?_
          try dsimp only
          refine wpZ_nil ?_
          replace H := RelT.toRel H
        rotate_left 1
        focus
          refine wpZ_pick (pend' := [1, 6, 7, 8, 9]) (by rfl) (by rfl) ?_
          refine mCallT [] [] (hrt) H ?_; clear H; intro a w H
          refine wpT_nil ?_
          try dsimp only
          refine wpZ_two (cs := [6]) (by rfl) (by rfl) ?_
          refine all2 ?_
          refine ⟨?_, ?_⟩
          focus
            refine wpZ_pick (pend' := [6, 7, 8, 9]) (by rfl) (by rfl) ?_
            repeat ((first | refine v_someT 3 tab_ok hN H (by rfl) ctX ?_ | refine v_someT 2 tab_ok hN H (by rfl) ctX ?_ | refine v_someT 1 tab_ok hN H (by rfl) ctX ?_); clear H; intro a w H; replace H := ntf H; simp only [List.drop_succ_cons, List.drop_zero, List.drop_nil])
            refine wpT_nil ?_
            try dsimp only
            refine wpZ_two (cs := []) (by rfl) (by rfl) ?_
            refine all1 ?_
            refine wpZ_pick (pend' := [7, 8, 9]) (by rfl) (by rfl) ?_
            repeat ((first | refine v_someT 3 tab_ok hN H (by rfl) ctX ?_ | refine v_someT 2 tab_ok hN H (by rfl) ctX ?_ | refine v_someT 1 tab_ok hN H (by rfl) ctX ?_); clear H; intro a w H; replace H := ntf H; simp only [List.drop_succ_cons, List.drop_zero, List.drop_nil])
            refine wpT_nil ?_
            try dsimp only
            refine wpZ_two (cs := []) (by rfl) (by rfl) ?_
            refine all1 ?_
            refine wpZ_pick (pend' := [8, 9]) (by rfl) (by rfl) ?_
            repeat ((first | refine v_someT 3 tab_ok hN H (by rfl) ctX ?_ | refine v_someT 2 tab_ok hN H (by rfl) ctX ?_ | refine v_someT 1 tab_ok hN H (by rfl) ctX ?_); clear H; intro a w H; replace H := ntf H; simp only [List.drop_succ_cons, List.drop_zero, List.drop_nil])
            refine wpT_nil ?_
            try dsimp only
            refine wpZ_run 1 (i := 8) (n' := 1) (pend' := [9]) (by rfl) (by rfl) (by rfl) (by rfl) (by rfl) ?_
            repeat ((first | refine v_someT 3 tab_ok hN H (by rfl) ctX ?_ | refine v_someT 2 tab_ok hN H (by rfl) ctX ?_ | refine v_someT 1 tab_ok hN H (by rfl) ctX ?_); clear H; intro a w H; replace H := ntf H; simp only [List.drop_succ_cons, List.drop_zero, List.drop_nil])
            refine wpT_nil ?_
            try dsimp only
            refine wpZ_two (cs := []) (by rfl) (by rfl) ?_
            refine all1 ?_
            refine wpZ_pick (pend' := []) (by rfl) (by rfl) ?_
            repeat ((first | refine v_someT 3 tab_ok hN H (by rfl) ctX ?_ | refine v_someT 2 tab_ok hN H (by rfl) ctX ?_ | refine v_someT 1 tab_ok hN H (by rfl) ctX ?_); clear H; intro a w H; replace H := ntf H; simp only [List.drop_succ_cons, List.drop_zero, List.drop_nil])
            refine wpT_nil ?_
            try dsimp only
            refine wpZ_nil ?_
            replace H := RelT.toRel H
          rotate_left 1
          focus
            refine wpZ_pick (pend' := [1, 7, 8, 9]) (by rfl) (by rfl) ?_
            repeat ((first | refine v_someT 3 tab_ok hN H (by rfl) ctX ?_ | refine v_someT 2 tab_ok hN H (by rfl) ctX ?_ | refine v_someT 1 tab_ok hN H (by rfl) ctX ?_); clear H; intro a w H; replace H := ntf H; simp only [List.drop_succ_cons, List.drop_zero, List.drop_nil])
            refine wpT_nil ?_
            try dsimp only
            refine wpZ_two (cs := []) (by rfl) (by rfl) ?_
            refine all1 ?_
            refine wpZ_pick (pend' := [7, 8, 9]) (by rfl) (by rfl) ?_
            repeat ((first | refine v_someT 3 tab_ok hN H (by rfl) ctX ?_ | refine v_someT 2 tab_ok hN H (by rfl) ctX ?_ | refine v_someT 1 tab_ok hN H (by rfl) ctX ?_); clear H; intro a w H; replace H := ntf H; simp only [List.drop_succ_cons, List.drop_zero, List.drop_nil])
            refine wpT_nil ?_
            try dsimp only
            refine wpZ_two (cs := []) (by rfl) (by rfl) ?_
            refine all1 ?_
            refine wpZ_pick (pend' := [8, 9]) (by rfl) (by rfl) ?_
            repeat ((first | refine v_someT 3 tab_ok hN H (by rfl) ctX ?_ | refine v_someT 2 tab_ok hN H (by rfl) ctX ?_ | refine v_someT 1 tab_ok hN H (by rfl) ctX ?_); clear H; intro a w H; replace H := ntf H; simp only [List.drop_succ_cons, List.drop_zero, List.drop_nil])
            refine wpT_nil ?_
            try dsimp only
            refine wpZ_run 1 (i := 8) (n' := 1) (pend' := [9]) (by rfl) (by rfl) (by rfl) (by rfl) (by rfl) ?_
            repeat ((first | refine v_someT 3 tab_ok hN H (by rfl) ctX ?_ | refine v_someT 2 tab_ok hN H (by rfl) ctX ?_ | refine v_someT 1 tab_ok hN H (by rfl) ctX ?_); clear H; intro a w H; replace H := ntf H; simp only [List.drop_succ_cons, List.drop_zero, List.drop_nil])
            refine wpT_nil ?_
            try dsimp only
            refine wpZ_two (cs := []) (by rfl) (by rfl) ?_
            refine all1 ?_
            refine wpZ_pick (pend' := []) (by rfl) (by rfl) ?_
            repeat ((first | refine v_someT 3 tab_ok hN H (by rfl) ctX ?_ | refine v_someT 2 tab_ok hN H (by rfl) ctX ?_ | refine v_someT 1 tab_ok hN H (by rfl) ctX ?_); clear H; intro a w H; replace H := ntf H; simp only [List.drop_succ_cons, List.drop_zero, List.drop_nil])
            refine wpT_nil ?_
            try dsimp only
            refine wpZ_nil ?_
            replace H := RelT.toRel H
      rotate_left 3
      focus
        refine wpZ_pick (pend' := [0, 1, 6, 7, 8, 9]) (by rfl) (by rfl) ?_
        refine mCallT [] [] (hrt) H ?_; clear H; intro a w H
        refine wpT_nil ?_
        try dsimp only
        refine wpZ_two (cs := [6]) (by rfl) (by rfl) ?_
        refine all2 ?_
        refine ⟨?_, ?_⟩
        focus
          refine wpZ_pick (pend' := [1, 6, 7, 8, 9]) (by rfl) (by rfl) ?_
          repeat ((first | refine v_someT 3 tab_ok hN H (by rfl) ctX ?_ | refine v_someT 2 tab_ok hN H (by rfl) ctX ?_ | refine v_someT 1 tab_ok hN H (by rfl) ctX ?_); clear H; intro a w H; replace H := ntf H; simp only [List.drop_succ_cons, List.drop_zero, List.drop_nil])
          refine wpT_nil ?_
          try dsimp only
          refine wpZ_two (cs := [6]) (by rfl) (by rfl) ?_
          refine all2 ?_
          refine ⟨?_, ?_⟩
          focus
            refine wpZ_pick (pend' := [6, 7, 8, 9]) (by rfl) (by rfl) ?_
            repeat ((first | refine v_someT 3 tab_ok hN H (by rfl) ctX ?_ | refine v_someT 2 tab_ok hN H (by rfl) ctX ?_ | refine v_someT 1 tab_ok hN H (by rfl) ctX ?_); clear H; intro a w H; replace H := ntf H; simp only [List.drop_succ_cons, List.drop_zero, List.drop_nil])
            refine wpT_nil ?_
            try dsimp only
            refine wpZ_two (cs := []) (by rfl) (by rfl) ?_
            refine all1 ?_
            refine wpZ_pick (pend' := [7, 8, 9]) (by rfl) (by rfl) ?_
            repeat ((first | refine v_someT 3 tab_ok hN H (by rfl) ctX ?_ | refine v_someT 2 tab_ok hN H (by rfl) ctX ?_ | refine v_someT 1 tab_ok hN H (by rfl) ctX ?_); clear H; intro a w H; replace H := ntf H; simp only [List.drop_succ_cons, List.drop_zero, List.drop_nil])
            refine wpT_nil ?_
            try dsimp only
            refine wpZ_two (cs := []) (by rfl) (by rfl) ?_
            refine all1 ?_
            refine wpZ_pick (pend' := [8, 9]) (by rfl) (by rfl) ?_
            repeat ((first | refine v_someT 3 tab_ok hN H (by rfl) ctX ?_ | refine v_someT 2 tab_ok hN H (by rfl) ctX ?_ | refine v_someT 1 tab_ok hN H (by rfl) ctX ?_); clear H; intro a w H; replace H := ntf H; simp only [List.drop_succ_cons, List.drop_zero, List.drop_nil])
            refine wpT_nil ?_
            try dsimp only
            refine wpZ_run 1 (i := 8) (n' := 1) (pend' := [9]) (by rfl) (by rfl) (by rfl) (by rfl) (by rfl) ?_
            repeat ((first | refine v_someT 3 tab_ok hN H (by rfl) ctX ?_ | refine v_someT 2 tab_ok hN H (by rfl) ctX ?_ | refine v_someT 1 tab_ok hN H (by rfl) ctX ?_); clear H; intro a w H; replace H := ntf H; simp only [List.drop_succ_cons, List.drop_zero, List.drop_nil])
            refine wpT_nil ?_
            try dsimp only
            refine wpZ_two (cs := []) (by rfl) (by rfl) ?_
            refine all1 ?_
            refine wpZ_pick (pend' := []) (by rfl) (by rfl) ?_
            repeat ((first | refine v_someT 3 tab_ok hN H (by rfl) ctX ?_ | refine v_someT 2 tab_ok hN H (by rfl) ctX ?_ | refine v_someT 1 tab_ok hN H (by rfl) ctX ?_); clear H; intro a w H; replace H := ntf H; simp only [List.drop_succ_cons, List.drop_zero, List.drop_nil])
            refine wpT_nil ?_
            try dsimp only
            refine wpZ_nil ?_
            replace H := RelT.toRel H
          rotate_left 1
          focus
            refine wpZ_pick (pend' := [1, 7, 8, 9]) (by rfl) (by rfl) ?_
            repeat ((first | refine v_someT 3 tab_ok hN H (by rfl) ctX ?_ | refine v_someT 2 tab_ok hN H (by rfl) ctX ?_ | refine v_someT 1 tab_ok hN H (by rfl) ctX ?_); clear H; intro a w H; replace H := ntf H; simp only [List.drop_succ_cons, List.drop_zero, List.drop_nil])
            refine wpT_nil ?_
            try dsimp only
            refine wpZ_two (cs := []) (by rfl) (by rfl) ?_
            refine all1 ?_
            refine wpZ_pick (pend' := [7, 8, 9]) (by rfl) (by rfl) ?_
            repeat ((first | refine v_someT 3 tab_ok hN H (by rfl) ctX ?_ | refine v_someT 2 tab_ok hN H (by rfl) ctX ?_ | refine v_someT 1 tab_ok hN H (by rfl) ctX ?_); clear H; intro a w H; replace H := ntf H; simp only [List.drop_succ_cons, List.drop_zero, List.drop_nil])
            refine wpT_nil ?_
            try dsimp only
            refine wpZ_two (cs := []) (by rfl) (by rfl) ?_
            refine all1 ?_
            refine wpZ_pick (pend' := [8, 9]) (by rfl) (by rfl) ?_
            repeat ((first | refine v_someT 3 tab_ok hN H (by rfl) ctX ?_ | refine v_someT 2 tab_ok hN H (by rfl) ctX ?_ | refine v_someT 1 tab_ok hN H (by rfl) ctX ?_); clear H; intro a w H; replace H := ntf H; simp only [List.drop_succ_cons, List.drop_zero, List.drop_nil])
            refine wpT_nil ?_
            try dsimp only
            refine wpZ_run 1 (i := 8) (n' := 1) (pend' := [9]) (by rfl) (by rfl) (by rfl) (by rfl) (by rfl) ?_
            repeat ((first | refine v_someT 3 tab_ok hN H (by rfl) ctX ?_ | refine v_someT 2 tab_ok hN H (by rfl) ctX ?_ | refine v_someT 1 tab_ok hN H (by rfl) ctX ?_); clear H; intro a w H; replace H := ntf H; simp only [List.drop_succ_cons, List.drop_zero, List.drop_nil])
            refine wpT_nil ?_
            try dsimp only
            refine wpZ_two (cs := []) (by rfl) (by rfl) ?_
            refine all1 ?_
            refine wpZ_pick (pend' := []) (by rfl) (by rfl) ?_
            repeat ((first | refine v_someT 3 tab_ok hN H (by rfl) ctX ?_ | refine v_someT 2 tab_ok hN H (by rfl) ctX ?_ | refine v_someT 1 tab_ok hN H (by rfl) ctX ?_); clear H; intro a w H; replace H := ntf H; simp only [List.drop_succ_cons, List.drop_zero, List.drop_nil])
            refine wpT_nil ?_
            try dsimp only
            refine wpZ_nil ?_
            replace H := RelT.toRel H
        rotate_left 2
        focus
          refine wpZ_pick (pend' := [0, 1, 7, 8, 9]) (by rfl) (by rfl) ?_
          repeat ((first | refine v_someT 3 tab_ok hN H (by rfl) ctX ?_ | refine v_someT 2 tab_ok hN H (by rfl) ctX ?_ | refine v_someT 1 tab_ok hN H (by rfl) ctX ?_); clear H; intro a w H; replace H := ntf H; simp only [List.drop_succ_cons, List.drop_zero, List.drop_nil])
          refine wpT_nil ?_
          try dsimp only
          refine wpZ_two (cs := []) (by rfl) (by rfl) ?_
          refine all1 ?_
          refine wpZ_pick (pend' := [1, 7, 8, 9]) (by rfl) (by rfl) ?_
          repeat ((first | refine v_someT 3 tab_ok hN H (by rfl) ctX ?_ | refine v_someT 2 tab_ok hN H (by rfl) ctX ?_ | refine v_someT 1 tab_ok hN H (by rfl) ctX ?_); clear H; intro a w H; replace H := ntf H; simp only [List.drop_succ_cons, List.drop_zero, List.drop_nil])
          refine wpT_nil ?_
          try dsimp only
          refine wpZ_two (cs := []) (by rfl) (by rfl) ?_
          refine all1 ?_
          refine wpZ_pick (pend' := [7, 8, 9]) (by rfl) (by rfl) ?_
          repeat ((first | refine v_someT 3 tab_ok hN H (by rfl) ctX ?_ | refine v_someT 2 tab_ok hN H (by rfl) ctX ?_ | refine v_someT 1 tab_ok hN H (by rfl) ctX ?_); clear H; intro a w H; replace H := ntf H; simp only [List.drop_succ_cons, List.drop_zero, List.drop_nil])
          refine wpT_nil ?_
          try dsimp only
          refine wpZ_two (cs := []) (by rfl) (by rfl) ?_
          refine all1 ?_
          refine wpZ_pick (pend' := [8, 9]) (by rfl) (by rfl) ?_
          repeat ((first | refine v_someT 3 tab_ok hN H (by rfl) ctX ?_ | refine v_someT 2 tab_ok hN H (by rfl) ctX ?_ | refine v_someT 1 tab_ok hN H (by rfl) ctX ?_); clear H; intro a w H; replace H := ntf H; simp only [List.drop_succ_cons, List.drop_zero, List.drop_nil])
          refine wpT_nil ?_
          try dsimp only
          refine wpZ_run 1 (i := 8) (n' := 1) (pend' := [9]) (by rfl) (by rfl) (by rfl) (by rfl) (by rfl) ?_
          repeat ((first | refine v_someT 3 tab_ok hN H (by rfl) ctX ?_ | refine v_someT 2 tab_ok hN H (by rfl) ctX ?_ | refine v_someT 1 tab_ok hN H (by rfl) ctX ?_); clear H; intro a w H; replace H := ntf H; simp only [List.drop_succ_cons, List.drop_zero, List.drop_nil])
          refine wpT_nil ?_
          try dsimp only
          refine wpZ_two (cs := []) (by rfl) (by rfl) ?_
          refine all1 ?_
          refine wpZ_pick (pend' := []) (by rfl) (by rfl) ?_
          repeat ((first | refine v_someT 3 tab_ok hN H (by rfl) ctX ?_ | refine v_someT 2 tab_ok hN H (by rfl) ctX ?_ | refine v_someT 1 tab_ok hN H (by rfl) ctX ?_); clear H; intro a w H; replace H := ntf H; simp only [List.drop_succ_cons, List.drop_zero, List.drop_nil])
          refine wpT_nil ?_
          try dsimp only
          refine wpZ_nil ?_
          replace H := RelT.toRel H
      all_goals
        refine mS ?_
        refine mW ?_; clear H; intro a w H
        try rw [← bas_snoc] at H
        exact ⟨(d + 1, o, ss ++ [x]), hnext, by dsimp only; omega, H.to 3 1 ⟨Nat.le_trans hN (by decide), Nat.le_trans hR (by decide)⟩ ⟨rfl, rfl, rfl, rfl, rfl, rfl, trivial⟩ rfl (by dsimp only; rw [List.length_append]; rfl) rfl rfl rfl⟩
    · have h2 : s.length < 2 := by rw [decide_eq_false_iff_not] at hb; omega
      clear hb
      have hE := hwy.e
      have hW := hwy.w
      have hsk2 := hwy.k
      have hsv2 := hwy.v
      dsimp only at hE hW hsk2 hsv2
      rw [endA_small _ _ _ _ (by rw [dgs_len]; exact h2)] at hE
      rw [wayA_small _ _ _ _ (by rw [dgs_len]; exact h2), List.append_nil] at hW
      subst hW
      clear hwy
      match s, h2 with
      | [], _ =>
        subst hE
        simp only [List.map_nil] at H
        clear hX; have hX := @hssl
        refine mW ?_; clear H; intro a w H
        refine mC H (fun hb => ?_) (fun hb => ?_)
        · simp at hb
        · refine mW ?_; clear H; intro a w H
          simp only [endB, dgs, List.map_nil, Nd.zero, Nd.av]
          refine wp_ret ?_; exact mEnd [] [0] [.cell 4 41, .tmp 5] [_, _] hN hR H
      | [x], _ =>
        subst hE
        have q1 := hsk2 x List.mem_cons_self
        have q2 := value_v x.2 (hsv2 x List.mem_cons_self)
        have q3 := valH_len x.2
        obtain ⟨kb, vb⟩ := x
        dsimp only at q1 q2 q3
        simp only [List.map_cons, List.map_nil, prA] at H
        clear hX; have hX := @hssl
        refine mW ?_; clear H; intro a w H
        refine mC H (fun hb => ?_) (fun hb => ?_)
        · refine mS ?_; refine mD 0 [8, 11] [0, 1, 2, 3] H ?_; clear H; intro gS H
          refine mT ?_; clear H; intro a w H
          refine mCallT [] [] (q2) H ?_; clear H; intro a w H
          refine mT ?_; clear H; intro a w H
          refine v_drawNil H ?_; clear H; intro H
          refine mW ?_; clear H; intro a w H
          simp only [endB, dgs, List.map_nil, List.map_cons, Nd.one, Nd.av]
          refine wp_ret ?_; exact mEnd [] [0] [.cell 4 41, .tmp 5] [_, _] hN hR H
        · simp at hb
end Go.Proofs.Ythphhnkoilcofaa
/- The document's entries: side, At. -/
namespace Go.Proofs.Ythphhnkoilcofaa
open Go Go.RowKit
def halfP (b : Bool) (d : Nat) (l : List Pr) : List Pr := l.filter fun x => bitN x.1 d == b
theorem halfP_dgs (b : Bool) (d : Nat) (l : List Pr) : dgs (halfP b d l) = half b d (dgs l) := by
  unfold dgs halfP half
  rw [List.filter_map]; rfl
theorem halfP_le (b : Bool) (d : Nat) (l : List Pr) : (halfP b d l).length ≤ l.length := List.length_filter_le _ _
theorem halfP_yes (b : Bool) (d : Nat) (l : List Pr) (k : Nat) (hk : k < l.length) (h : bitN l[k].1 d = b) : halfP b d (l.take (k + 1)) = halfP b d (l.take k) ++ [l[k]] := by
  unfold halfP; rw [List.take_succ_eq_append_getElem hk, List.filter_append]; congr 1; simp [List.filter_cons, h]
theorem halfP_no (b : Bool) (d : Nat) (l : List Pr) (k : Nat) (hk : k < l.length) (h : bitN l[k].1 d = !b) : halfP b d (l.take (k + 1)) = halfP b d (l.take k) := by
  unfold halfP; rw [List.take_succ_eq_append_getElem hk, List.filter_append]; simp [List.filter_cons, h]
theorem rootA_perm : ∀ (f d : Nat) (l m : List En), f + d = 256 → Sep d l → l.Perm m → rootA f d l = rootA f d m := by
  have small : ∀ (l m : List En), l.length < 2 → l.Perm m → l = m := fun l m hl hp => by
    match l, hl with
    | [], _ => exact (List.nil_perm.1 hp).symm
    | [x], _ => exact (List.singleton_perm.1 hp)
  intro f
  induction f with
  | zero => intro d l m hd hs hp; rw [small l m (hs.deep (by omega)) hp]
  | succ f ih =>
    intro d l m hd hs hp
    by_cases h : l.length < 2
    · rw [small l m h hp]
    · rw [rootA, rootA, if_neg h, if_neg (by rw [← hp.length_eq]; exact h), ih (d + 1) _ _ (by omega) (hs.side false) (hp.filter _), ih (d + 1) _ _ (by omega) (hs.side true) (hp.filter _)]
      rfl
theorem prs_app (l : List Pr) (x : Pr) : (l ++ [x]).map prA = l.map prA ++ [.st [.ba x.1, .bs x.2 none]] := by simp [prA]
theorem K32.half {l : List Pr} (h : K32 l) (b : Bool) (d : Nat) : K32 (halfP b d l) := fun x hx => h x (List.mem_filter.1 hx).1
theorem V0.half {l : List Pr} (h : V0 l) (b : Bool) (d : Nat) : V0 (halfP b d l) := fun x hx => h x (List.mem_filter.1 hx).1
end Go.Proofs.Ythphhnkoilcofaa
/- The document's List, RootAt, Root: any entries. -/
namespace Go.Proofs.Ythphhnkoilcofaa
open Go Go.RowKit
theorem ends_iff (l : List Pr) (hk : K32 l) (hd : Dis l) (d : Nat) (h256 : d ≤ 256) : (l.length < 2 ∨ d ≤ endsP (srt l)) ↔ ∀ x ∈ l, ∀ y ∈ l, agree d x.1 y.1 := by
  have hsl : (srt l).length = l.length := (srt_perm l).length_eq
  have hmem : ∀ x, x ∈ srt l ↔ x ∈ l := fun x => (srt_perm l).mem_iff
  constructor
  · intro h x hx y hy
    have hr := ends_rise (srt l) (hk.perm (srt_perm l)) (srt_ris l hk hd) h256 (by rw [hsl]; exact h)
    unfold Rise dgs at hr
    rw [List.pairwise_map] at hr
    obtain ⟨i, hi, rfl⟩ := List.getElem_of_mem ((hmem x).2 hx)
    obtain ⟨j, hj, rfl⟩ := List.getElem_of_mem ((hmem y).2 hy)
    rcases Nat.lt_trichotomy i j with q | q | q
    · exact (List.pairwise_iff_getElem.1 hr i j hi hj q).1
    · subst q; exact agree_refl _ _
    · exact (List.pairwise_iff_getElem.1 hr j i hj hi q).1.symm
  · intro h
    by_cases h2 : l.length < 2
    · exact .inl h2
    · right
      unfold endsP
      have e1 : (srt l).getD 0 ([], []) = (srt l)[0]'(by omega) := by simp [List.getD_eq_getElem?_getD, show 0 < (srt l).length by omega]
      have e2 : (srt l).getD ((srt l).length - 1) ([], []) = (srt l)[(srt l).length - 1]'(by omega) := by simp [List.getD_eq_getElem?_getD, show (srt l).length - 1 < (srt l).length by omega]
      rw [e1, e2]
      exact (com_ge h256).2 (h _ ((hmem _).1 (List.getElem_mem _)) _ ((hmem _).1 (List.getElem_mem _)))
theorem sep_of (l : List Pr) (hk : K32 l) (hd : Dis l) (d : Nat) (h : ∀ x ∈ l, ∀ y ∈ l, agree d x.1 y.1) : Sep d (dgs l) := by
  unfold Sep dgs
  rw [List.pairwise_map]
  exact List.Pairwise.imp_of_mem (fun {x y} hx hy hp => ⟨h x hx y hy, fun ha => hp (agree_eq (hk x hx) (hk y hy) ha)⟩) hd
theorem root_srt (l : List Pr) (hk : K32 l) (hd : Dis l) (f d : Nat) (hf : f + d = 256) (h : ∀ x ∈ l, ∀ y ∈ l, agree d x.1 y.1) : rootA f d (dgs (srt l)) = rootA f d (dgs l) :=
  (rootA_perm f d (dgs l) (dgs (srt l)) hf (sep_of l hk hd d h) ((srt_perm l).symm.map _)).symm
end Go.Proofs.Ythphhnkoilcofaa
/- The document's RootAt, Root. -/
namespace Go.Proofs.Ythphhnkoilcofaa
open Go Go.RowKit
theorem rootE_len (l : List Pr) (d : Int) : (rootE l d).1.length = 32 := by
  unfold rootE; (repeat' split) <;> first | exact rootA_len _ _ _ | exact List.length_replicate ..
end Go.Proofs.Ythphhnkoilcofaa
/- The document's way of a key among entries. -/
namespace Go.Proofs.Ythphhnkoilcofaa
open Go Go.RowKit
theorem small_perm (l m : List En) (hl : l.length < 2) (hp : l.Perm m) : l = m := by
  match l, hl with
  | [], _ => exact (List.nil_perm.1 hp).symm
  | [x], _ => exact (List.singleton_perm.1 hp)
theorem wayA_perm (key : List UInt8) : ∀ (f d : Nat) (l m : List En), f + d = 256 → Sep d l → l.Perm m → wayA key f d l = wayA key f d m ∧ endA key f d l = endA key f d m := by
  intro f
  induction f with
  | zero => intro d l m hd hs hp; rw [small_perm l m (hs.deep (by omega)) hp]; exact ⟨rfl, rfl⟩
  | succ f ih =>
    intro d l m hd hs hp
    by_cases h : l.length < 2
    · rw [small_perm l m h hp]; exact ⟨rfl, rfl⟩
    · have h' : ¬ m.length < 2 := by rw [← hp.length_eq]; exact h
      have e1 := rootA_perm f (d + 1) (half (!bitN key d) d l) (half (!bitN key d) d m) (by omega) (hs.side _) (hp.filter _)
      obtain ⟨e2, e3⟩ := ih (d + 1) (half (bitN key d) d l) (half (bitN key d) d m) (by omega) (hs.side _) (hp.filter _)
      rw [wayA, wayA, endA, endA, if_neg h, if_neg h', if_neg h, if_neg h', e1, e2, e3]
      exact ⟨rfl, rfl⟩
/-- The state of the document's walk down. -/
structure Wz (key : List UInt8) (W : List (List UInt8)) (E : Nd) (i : Nat × List Pr × List (List UInt8)) : Prop where
  d : i.1 ≤ 256
  w : i.2.2 ++ wayA key (256 - i.1) i.1 (dgs i.2.1) = W
  e : endA key (256 - i.1) i.1 (dgs i.2.1) = E
  r : Sep i.1 (dgs i.2.1)
  k : K32 i.2.1
  v : V0 i.2.1
  n : i.2.1.length ≤ 34359730000
  s : i.2.2.length = i.1
theorem Wz.go {key : List UInt8} {W : List (List UInt8)} {E : Nd} {d : Nat} {s : List Pr} {ss : List (List UInt8)} (h : Wz key W E (d, s, ss)) (h2 : 1 < s.length) :
    d < 256 ∧ Wz key W E (d + 1, halfP (bitN key d) d s, ss ++ [rootA (255 - d) (d + 1) (dgs (halfP (!bitN key d) d s))]) ∧ Sep (d + 1) (dgs (halfP (!bitN key d) d s)) := by
  have hl : ¬ (dgs s).length < 2 := by rw [dgs_len]; omega
  have hd : d < 256 := by
    by_cases hd : d < 256
    · exact hd
    · exact absurd (h.r.deep (by show 256 ≤ d; omega)) (by rw [dgs_len]; show ¬ s.length < 2; omega)
  have f1 : 256 - d = (255 - d) + 1 := by omega
  have f2 : 256 - (d + 1) = 255 - d := by omega
  have hw := h.w
  have he := h.e
  have hn := h.n
  have hs := h.s
  have r1 := h.r.side (bitN key d)
  have r2 := h.r.side (!bitN key d)
  dsimp only at hw he hn hs r1 r2
  rw [f1, wayA, if_neg hl] at hw
  rw [f1, endA, if_neg hl] at he
  rw [← halfP_dgs] at r1 r2 he
  rw [← halfP_dgs, ← halfP_dgs] at hw
  refine ⟨hd, ⟨by show d + 1 ≤ 256; omega, ?_, ?_, r1, h.k.half _ _, h.v.half _ _, Nat.le_trans (halfP_le _ _ _) hn, by dsimp only; rw [List.length_append, hs]; rfl⟩, r2⟩
  · dsimp only; rw [f2, List.append_assoc]; exact hw
  · dsimp only; rw [f2]; exact he
theorem wayE_of (l : List Pr) (hk : K32 l) (hd : Dis l) (key : List UInt8) : (wayE l key).s = wayA key 256 0 (dgs l) ∧ (wayE l key).e = endA key 256 0 (dgs l) := by
  have hs := sep_of l hk hd 0 (fun x _ y _ t ht => absurd ht (Nat.not_lt_zero t))
  obtain ⟨e1, e2⟩ := wayA_perm key 256 0 (dgs l) (dgs (srt l)) rfl hs ((srt_perm l).symm.map _)
  exact ⟨e1.symm, e2.symm⟩
end Go.Proofs.Ythphhnkoilcofaa
/- Proofs as bytes: there and back, in plain Lean. -/
namespace Go.Proofs.Ythphhnkoilcofaa
open Go Go.RowKit
def Pf.pre (p : Pf) (r : List UInt8) : List UInt8 := [UInt8.ofNat (p.s.length / 256), UInt8.ofNat p.s.length] ++ (p.bits ++ (hashes p.s ++ r))
theorem Pf.chk_ok {p : Pf} (h : p.chk = 0) : p.s.length ≤ 256 ∧ p.e.ok ∧ p.e.k ≠ 2 := by
  unfold Pf.chk at h
  split at h
  · cases h
  · split at h
    · rename_i h1 h2; exact ⟨by omega, h2⟩
    · cases h
theorem ntext_len {n : Nd} (hw : n.wf) (h2 : n.k ≠ 2) : n.text.length = 1 ∨ n.text.length = 65 := by
  obtain ⟨h1, h3, _, _⟩ := hw
  unfold Nd.text
  split
  · right; simp; omega
  · left; first | rfl | (rw [if_neg h2]; rfl)
theorem plen (p : Pf) (hw : p.wf) (h : p.chk = 0) : 3 ≤ p.text.length ∧ p.text.length ≤ 8291 := by
  obtain ⟨h1, h2, h3⟩ := p.chk_ok h
  have hl := ntext_len hw.e h3
  have hbl : p.bits.length = (p.s.length + 7) / 8 := bitsB_len _ _
  have hh := hashes_len p.s hw.s
  simp only [Pf.text, List.length_append, List.length_cons, List.length_nil]
  omega
end Go.Proofs.Ythphhnkoilcofaa
/- A contract that says less: rows that nobody will make longer. -/
namespace Go.Proofs.Ythphhnkoilcofaa
open Go Go.RowKit
theorem VC.less1 {P : Program} {f : FuncId} {args : List AV} {rws : List (TypeId × Nat)} {r r' : AV} (h : VC P f args rws r) (ha : isAny r = false) (ht : ∀ az, r ≠ .tup az) (hs : sub 4 r r') (hl : low 0 0 4 r' = true) : VC P f args [] r' := by
  refine ⟨h.1, fun w N vs HI h1 h2 => (h.2 w N vs HI h1 h2).mono ?_⟩
  rintro e w' ⟨g, v, he, HI', hv⟩
  have hnb : N.bx.length ≤ 0 := by rw [HI.br.len]; exact Nat.le_refl _
  have hnr : N.rw.length ≤ 0 := by have := congrArg List.length HI.wr; rw [List.length_map] at this; rw [this]; exact Nat.le_refl _
  refine ⟨g.cut 0 0, v, he, Inv.cut (st := ⟨[], [], [], rws⟩) HI' hnb hnr rfl, ?_⟩
  have h1 : RV1 g r v := hv.rv1 ha ht
  exact RV.low_ (d := 3) ((h1.sub_ hs).rv) hl
theorem VC.lessT {P : Program} {f : FuncId} {args : List AV} {rws : List (TypeId × Nat)} {az az' : List AV} (h : VC P f args rws (.tup az)) (hs : allP (sub 4) az az') (hl : az'.all (low 0 0 3) = true) : VC P f args [] (.tup az') := by
  refine ⟨h.1, fun w N vs HI h1 h2 => (h.2 w N vs HI h1 h2).mono ?_⟩
  rintro e w' ⟨g, v, he, HI', hv⟩
  have hnb : N.bx.length ≤ 0 := by rw [HI.br.len]; exact Nat.le_refl _
  have hnr : N.rw.length ≤ 0 := by have := congrArg List.length HI.wr; rw [List.length_map] at this; rw [this]; exact Nat.le_refl _
  refine ⟨g.cut 0 0, v, he, Inv.cut (st := ⟨[], [], [], rws⟩) HI' hnb hnr rfl, ?_⟩
  refine RV.low_ (d := 3) (a := .tup az') ?_ (by simpa only [low] using hl)
  obtain ⟨us, e1, e2, e3⟩ := hv
  have key : ∀ (az az' : List AV), allP (sub 4) az az' → az.length = az'.length ∧ ∀ (i : Nat) b, az'[i]? = some b → ∃ a, az[i]? = some a ∧ sub 4 a b := by
    intro az
    induction az with
    | nil => intro az' h; cases az' with
      | nil => exact ⟨rfl, fun i b hb => by simp at hb⟩
      | cons _ _ => exact h.elim
    | cons a az ih => intro az' h; cases az' with
      | nil => exact h.elim
      | cons b az' =>
        obtain ⟨h1, h2⟩ := h
        obtain ⟨k1, k2⟩ := ih az' h2
        refine ⟨by simp [k1], fun i c hc => ?_⟩
        cases i with
        | zero => simp at hc; subst hc; exact ⟨a, rfl, h1⟩
        | succ i => simp at hc; obtain ⟨x, q1, q2⟩ := k2 i c hc; exact ⟨x, by simpa using q1, q2⟩
  obtain ⟨k1, k2⟩ := key az az' hs
  refine ⟨us, e1, e2.trans k1, fun i b u hb hu => ?_⟩
  obtain ⟨x, q1, q2⟩ := k2 i b hb
  exact (e3 i x u q1 hu).sub_ q2
end Go.Proofs.Ythphhnkoilcofaa
/- Ways among entries, plain: they lead up to the root, and say what is there; the error of node.Way. -/
namespace Go.Proofs.Ythphhnkoilcofaa
open Go Go.RowKit
theorem endB_sum {m : List En} (h : ∀ x ∈ m, True) : sum (endB m).text = base m := by
  match m with
  | [] => simp [endB, base, Nd.text, Nd.zero]
  | x :: _ => simp [endB, base, Nd.text, Nd.one, leafH]
theorem up_way (key : List UInt8) : ∀ (f d : Nat) (m : List En), f + d = 256 → Sep d m → upL key d (wayA key f d m) (sum (endA key f d m).text) = rootA f d m := by
  intro f
  induction f with
  | zero => intro d m hd hs; rw [wayA, endA, rootA_small 0 d m (hs.deep (by omega)), upL, endB_sum fun _ _ => trivial]
  | succ f ih =>
    intro d m hd hs
    by_cases h : m.length < 2
    · rw [wayA_small _ _ _ _ h, endA_small _ _ _ _ h, rootA_small _ _ _ h, upL, endB_sum fun _ _ => trivial]
    · rw [wayA, endA, rootA, if_neg h, if_neg h, if_neg h, upL, ih (d + 1) _ (by omega) (hs.side _), stepH]
      cases bitN key d <;> rfl
theorem endA_there (key : List UInt8) : ∀ (f d : Nat) (m : List En) (v : List UInt8), f + d = 256 → Sep d m → (key, v) ∈ m → endA key f d m = Nd.one key v := by
  have small : ∀ (m : List En) (v : List UInt8), m.length < 2 → (key, v) ∈ m → endB m = Nd.one key v := fun m v hl h => by
    match m, hl, h with
    | [x], _, h => rw [← List.mem_singleton.1 h]; rfl
  intro f
  induction f with
  | zero => intro d m v hd hs h; exact small m v (hs.deep (by omega)) h
  | succ f ih =>
    intro d m v hd hs h
    by_cases h2 : m.length < 2
    · rw [endA_small _ _ _ _ h2]; exact small m v h2 h
    · rw [endA, if_neg h2]
      exact ih (d + 1) _ v (by omega) (hs.side _) (List.mem_filter.2 ⟨h, by simp⟩)
theorem endA_mem (key : List UInt8) : ∀ (f d : Nat) (m : List En), (endA key f d m).k = 1 → ∃ x ∈ m, (endA key f d m).key = x.1 := by
  have small : ∀ (m : List En), (endB m).k = 1 → ∃ x ∈ m, (endB m).key = x.1 := fun m h => by
    match m, h with
    | [], h => simp [endB, Nd.zero] at h
    | x :: _, _ => exact ⟨x, List.mem_cons_self, rfl⟩
  intro f
  induction f with
  | zero => intro d m h; exact small m h
  | succ f ih =>
    intro d m h
    by_cases h2 : m.length < 2
    · rw [endA_small _ _ _ _ h2] at h ⊢; exact small m h
    · rw [endA, if_neg h2] at h ⊢
      obtain ⟨x, hx, e⟩ := ih (d + 1) _ h
      exact ⟨x, (List.mem_filter.1 hx).1, e⟩
theorem endA_form (key : List UInt8) : ∀ (f d : Nat) (m : List En), endA key f d m = Nd.zero ∨ ∃ x ∈ m, endA key f d m = Nd.one x.1 x.2 := by
  have small : ∀ (m : List En), endB m = Nd.zero ∨ ∃ x ∈ m, endB m = Nd.one x.1 x.2 := fun m => by
    match m with
    | [] => exact .inl rfl
    | x :: _ => exact .inr ⟨x, List.mem_cons_self, rfl⟩
  intro f
  induction f with
  | zero => intro d m; exact small m
  | succ f ih =>
    intro d m
    by_cases h2 : m.length < 2
    · rw [endA_small _ _ _ _ h2]; exact small m
    · rw [endA, if_neg h2]
      rcases ih (d + 1) (half (bitN key d) d m) with h | ⟨x, hx, e⟩
      · exact .inl h
      · exact .inr ⟨x, (List.mem_filter.1 hx).1, e⟩
theorem wayE_wf (l : List Pr) (hk : K32 l) (hd : Dis l) (key : List UInt8) : (wayE l key).wf ∧ (wayE l key).chk = 0 := by
  obtain ⟨e1, e2⟩ := wayE_of l hk hd key
  have hf := endA_form key 256 0 (dgs l)
  rw [← e2] at hf
  have hl := wayA_le key 256 0 (dgs l)
  rw [← e1] at hl
  refine ⟨⟨fun h hh => wayA_w key 256 0 (dgs l) h (e1 ▸ hh), ?_⟩, ?_⟩
  · rcases hf with h | ⟨x, hx, h⟩
    · rw [h]; exact zero_wf
    · rw [h]
      obtain ⟨p, hp, rfl⟩ := List.mem_map.1 hx
      exact Nd.one_wf (hk p hp) (valH_len _)
  · unfold Pf.chk
    rw [if_neg (by omega), if_pos]
    rcases hf with h | ⟨x, hx, h⟩
    · rw [h]; exact ⟨zero_ok, by decide⟩
    · rw [h]; exact ⟨by simp [Nd.ok, Nd.bare, Nd.one], by simp [Nd.one]⟩
theorem wayE_top (l : List Pr) (hk : K32 l) (hd : Dis l) (key : List UInt8) : topH key (wayE l key) = rootA 256 0 (dgs l) := by
  obtain ⟨e1, e2⟩ := wayE_of l hk hd key
  have hs := sep_of l hk hd 0 (fun x _ y _ t ht => absurd ht (Nat.not_lt_zero t))
  rw [topH, e1, e2]
  exact up_way key 256 0 (dgs l) rfl hs
theorem rootE_ok (l : List Pr) (hk : K32 l) (he : errP l = 0) : rootE l 0 = (rootA 256 0 (dgs l), 0) := by
  obtain ⟨hle, hdis, hvals⟩ := errP_ok he
  have hall : ∀ x ∈ l, ∀ y ∈ l, agree 0 x.1 y.1 := fun x _ y _ t ht => absurd ht (Nat.not_lt_zero t)
  unfold rootE
  rw [if_neg (by omega), if_neg (show ¬ errP l ≠ 0 by omega), if_neg (fun h => by omega)]
  show (rootA 256 0 (dgs (srt l)), 0) = _
  rw [root_srt l hk hdis 256 0 (by omega) hall]
theorem rootE_bad (l : List Pr) (he : errP l ≠ 0) : rootE l 0 = (z32, errP l) := by
  unfold rootE; rw [if_neg (by omega), if_pos he]
end Go.Proofs.Ythphhnkoilcofaa
/- Entries in another order; both sides: in plain Lean. -/
namespace Go.Proofs.Ythphhnkoilcofaa
open Go Go.RowKit
theorem chkP_iff : ∀ (ks : List (List UInt8)) (l : List Pr), chkP ks l = 0 ↔ Dis l ∧ (∀ x ∈ l, x.1 ∉ ks) ∧ ∀ x ∈ l, x.2.length ≤ 1024
  | _, [] => ⟨fun _ => ⟨List.Pairwise.nil, fun x hx => (by cases hx), fun x hx => (by cases hx)⟩, fun _ => rfl⟩
  | ks, p :: l => by
    have ih := chkP_iff (ks ++ [p.1]) l
    unfold chkP
    constructor
    · intro h
      split at h
      · cases h
      · rename_i h1
        split at h
        · cases h
        · rename_i h2
          obtain ⟨a1, a2, a3⟩ := ih.1 h
          refine ⟨List.pairwise_cons.2 ⟨fun y hy e => a2 y hy (by simp [e]), a1⟩, fun x hx => ?_, fun x hx => ?_⟩
          · rcases List.mem_cons.1 hx with rfl | hx
            · exact h2
            · exact fun hm => a2 x hx (List.mem_append_left _ hm)
          · rcases List.mem_cons.1 hx with rfl | hx
            · omega
            · exact a3 x hx
    · rintro ⟨a1, a2, a3⟩
      obtain ⟨b1, b2⟩ := List.pairwise_cons.1 a1
      have c1 := a2 p List.mem_cons_self
      have c2 := a3 p List.mem_cons_self
      rw [if_neg (by omega), if_neg c1]
      refine ih.2 ⟨b2, fun x hx hm => ?_, fun x hx => a3 x (List.mem_cons_of_mem _ hx)⟩
      rcases List.mem_append.1 hm with hm | hm
      · exact a2 x (List.mem_cons_of_mem _ hx) hm
      · exact b1 x hx (List.mem_singleton.1 hm).symm
theorem errP_iff (l : List Pr) : errP l = 0 ↔ l.length ≤ 4096 ∧ Dis l ∧ ∀ x ∈ l, x.2.length ≤ 1024 := by
  unfold errP
  split
  · exact ⟨fun h => (by cases h), fun h => (by omega)⟩
  · rw [chkP_iff]
    exact ⟨fun h => ⟨by omega, h.1, h.2.2⟩, fun h => ⟨h.2.1, fun x _ hm => (by cases hm), h.2.2⟩⟩
theorem Dis.perm {l m : List Pr} (h : Dis l) (hp : l.Perm m) : Dis m := List.Pairwise.perm h hp fun h e => h e.symm
theorem errP_perm {l m : List Pr} (hp : l.Perm m) : errP l = 0 ↔ errP m = 0 := by
  rw [errP_iff, errP_iff, hp.length_eq]
  exact ⟨fun h => ⟨h.1, h.2.1.perm hp, fun x hx => h.2.2 x (hp.mem_iff.2 hx)⟩, fun h => ⟨h.1, h.2.1.perm hp.symm, fun x hx => h.2.2 x (hp.mem_iff.1 hx)⟩⟩
theorem root_perm {l m : List Pr} (hk : K32 l) (hp : l.Perm m) (he : errP l = 0) : rootA 256 0 (dgs l) = rootA 256 0 (dgs m) := by
  obtain ⟨hle, hdis, hvals⟩ := errP_ok he
  exact rootA_perm 256 0 (dgs l) (dgs m) rfl (sep_of l hk hdis 0 (fun x _ y _ t ht => absurd ht (Nat.not_lt_zero t))) (hp.map _)
/-- One side's root. -/
theorem side_root (l : List Pr) (hk : K32 l) (he : errP l = 0) (b : Bool) : rootE (halfP b 0 l) 1 = (rootA 255 1 (half b 0 (dgs l)), 0) := by
  obtain ⟨hle, hdis, hvals⟩ := errP_ok he
  have hs : (halfP b 0 l).Sublist l := List.filter_sublist
  have hdis2 : Dis (halfP b 0 l) := List.Pairwise.sublist hs hdis
  have hk2 : K32 (halfP b 0 l) := hk.half b 0
  have he2 : errP (halfP b 0 l) = 0 := (errP_iff _).2 ⟨Nat.le_trans (halfP_le _ _ _) hle, hdis2, fun x hx => hvals x (List.mem_filter.1 hx).1⟩
  have hag : ∀ x ∈ halfP b 0 l, ∀ y ∈ halfP b 0 l, agree 1 x.1 y.1 := fun x hx y hy t ht => by
    have h1 := (List.mem_filter.1 hx).2
    have h2 := (List.mem_filter.1 hy).2
    rw [show t = 0 by omega]
    have e1 : bitN x.1 0 = b := by simpa using h1
    have e2 : bitN y.1 0 = b := by simpa using h2
    rw [e1, e2]
  have hyes := (ends_iff _ hk2 hdis2 1 (by decide)).2 hag
  unfold rootE
  rw [if_neg (by omega), if_neg (show ¬ errP (halfP b 0 l) ≠ 0 by omega), if_neg (fun h => by rcases hyes with q | q <;> omega)]
  show (rootA 255 1 (dgs (srt (halfP b 0 l))), 0) = _
  rw [root_srt _ hk2 hdis2 255 1 rfl hag, halfP_dgs]
theorem root_two (l : List Pr) (h : 1 < l.length) : rootA 256 0 (dgs l) = innerH (rootA 255 1 (half false 0 (dgs l))) (rootA 255 1 (half true 0 (dgs l))) := by
  rw [rootA, if_neg (by rw [dgs_len]; omega)]
theorem root_none : rootA 256 0 (dgs []) = sum [0] := by rw [rootA_small _ _ _ (by decide)]; rfl
theorem there_iff (l : List Pr) (hk : K32 l) (he : errP l = 0) (key : List UInt8) : key ∈ keysP l ↔ ((wayE l key).e.k = 1 ∧ (wayE l key).e.key = key) := by
  obtain ⟨hle, hdis, hvals⟩ := errP_ok he
  obtain ⟨e1, e2⟩ := wayE_of l hk hdis key
  rw [e2]
  constructor
  · intro h
    obtain ⟨p, hp, e⟩ := List.mem_map.1 h
    have hs := sep_of l hk hdis 0 (fun x _ y _ t ht => absurd ht (Nat.not_lt_zero t))
    rw [endA_there key 256 0 (dgs l) (valH p.2) rfl hs (List.mem_map.2 ⟨p, hp, by rw [e]⟩)]
    exact ⟨rfl, rfl⟩
  · rintro ⟨h1, h2⟩
    obtain ⟨x, hx, e⟩ := endA_mem key 256 0 (dgs l) h1
    obtain ⟨p, hp, rfl⟩ := List.mem_map.1 hx
    exact List.mem_map.2 ⟨p, hp, by rw [← h2, e]⟩
theorem swap_prA (o : List Pr) (x y : Nat) (hx : x < o.length) (hy : y < o.length) : ((o.map prA).set x (prA o[y])).set y (prA o[x]) = ((o.set x o[y]).set y o[x]).map prA := by
  rw [List.map_set, List.map_set]
theorem swap_perm (o : List Pr) (x y : Nat) (hx : x < o.length) (hy : y < o.length) : ((o.set x o[y]).set y o[x]).Perm o := List.set_set_perm hx hy
theorem e0_ne : sum [0] ≠ z32 := by decide +kernel
end Go.Proofs.Ythphhnkoilcofaa
/- The statements' kit: proofs compared and copied. -/
namespace Go.Proofs.Ythphhnkoilcofaa
open Go Go.RowKit
theorem copyB_v (l : List UInt8) (hl : l.length ≤ 34359730000) : VC Try.prog 111 [.bs l none] [(5, l.length)] (.bs l (some 0)) := by
  refine mE Try.func111 ?_; intro N w0 a w hN hR H
  refine mW ?_; clear H; intro a w H
  simp only [List.replicate_zero, List.nil_append, List.length_nil, Nat.zero_add] at H
  refine wp_ret ?_; exact mEnd [] [0] [.tmp 2] [_] hN hR H
end Go.Proofs.Ythphhnkoilcofaa
/- CopyPairs: entries in new memory, which may be written. -/
namespace Go.Proofs.Ythphhnkoilcofaa
open Go Go.RowKit
theorem copyB0_v (l : List UInt8) (hl : l.length ≤ 34359730000) : VC Try.prog 111 [.bs l none] [] (.bs l none) :=
  (copyB_v l hl).less1 rfl (fun az h => by cases h) rfl rfl
theorem pr_take (l : List Pr) (k : Nat) (h : k < l.length) : (l.take (k + 1)).map prA = (l.take k).map prA ++ [.st [.ba l[k].1, .bs l[k].2 none]] := by
  rw [List.take_succ_eq_append_getElem h, List.map_append]; rfl
set_option maxRecDepth 20000 in
set_option maxHeartbeats 1000000 in
theorem copyP_v (l : List Pr) (hk : K32 l) (hv : V0 l) (hl : l.length ≤ 34359730000) : VX Try.prog 63 [] [] [] [.sl prT (l.map prA) none] [(.vc 62 prT, .vc l.length (l.map prA))] [] [] (.vw 0 l.length l.length) := by
  have hlm : (l.map prA).length = l.length := List.length_map ..
  refine mE Try.func63 ?_; intro N w0 a w hN hR H
  refine mW ?_; clear H; intro a w H
  have H := v_nilV tab_ok H 3 62 (j := ti62) rfl (by decide) rfl
  refine v_loop (fun k : Nat => ⟨[(4, none, .v (.int .i64 (k : Int))), (3, none, .vw 0 k k), (2, none, .v (.slice none 0 0)), (0, none, .sl prT (l.map prA) none)], [(.vc 62 prT, .vc k ((l.take k).map prA))], [], []⟩) (fun k => k ≤ l.length) (fun k => l.length - k) 0 (Nat.zero_le _) (H.to 1 0 ⟨Nat.le_trans hN (by decide), hR⟩ ⟨rfl, rfl, rfl, rfl, trivial⟩ rfl rfl rfl rfl rfl) ?_
  clear H
  intro k a w hk1 H
  have htl : ((l.take k).map prA).length = k := by rw [List.length_map, List.length_take]; omega
  have hX := @hlm
  refine mW ?_; clear H; intro a w H
  refine mC H (fun hb => ?_) (fun hb => ?_)
  · have hlt : k < l.length := by rw [decide_eq_true_eq] at hb; omega
    clear hb
    have g1 := prA_get l k hlt
    have w1 := hk _ (List.getElem_mem hlt)
    have v1 := hv _ (List.getElem_mem hlt)
    have htk := pr_take l k hlt
    generalize l[k] = q at *
    obtain ⟨kb, vb⟩ := q
    dsimp only at g1 w1 v1 htk
    have hc := copyB0_v vb v1
    have htt : ((l.take k).map prA).take k = (l.take k).map prA := List.take_of_length_le (by omega)
    clear hX; have hX := And.intro @hlm (And.intro @g1 (And.intro @htl (@htt)))
    have hY := @w1
    refine mS ?_; refine mD 0 [11, 13, 14] [0, 1, 2, 3, 4, 5] H ?_; clear H; intro gS H
    refine mTN 4 hN H ?_; clear H; intro a w H; simp only [List.drop_succ_cons, List.drop_zero, List.drop_nil]
    refine mTN 5 hN H ?_; clear H; intro a w H; simp only [List.drop_succ_cons, List.drop_zero, List.drop_nil]
    refine mTN 2 hN H ?_; clear H; intro a w H; simp only [List.drop_succ_cons, List.drop_zero, List.drop_nil]
    refine mCallT [] [] (hc) H ?_; clear H; intro a w H
    refine mT ?_; clear H; intro a w H
    refine v_drawNil H ?_; clear H; intro H
    clear hX; have hX := @hlm
    clear hY
    refine mW ?_; clear H; intro a w H
    exact ⟨k + 1, hlt, by omega, H.to 1 0 ⟨Nat.le_trans hN (by decide), hR⟩ ⟨rfl, rfl, rfl, rfl, trivial⟩ (by rw [htk]; rfl) rfl rfl rfl rfl⟩
  · have hge : k = l.length := by rw [decide_eq_false_iff_not] at hb; omega
    subst hge
    rw [List.take_length] at H
    refine mW ?_; clear H; intro a w H
    refine wp_ret ?_; exact mEnd [0] [] [.tmp 2] [_] hN hR H
end Go.Proofs.Ythphhnkoilcofaa
/- Pick: a number below n. -/
namespace Go.Proofs.Ythphhnkoilcofaa
open Go Go.RowKit
theorem tmod_facts (x n : Int) (h0 : 0 < n) : -n < x.tmod n ∧ x.tmod n < n ∧ (0 ≤ x.tmod n → x % n = x.tmod n) ∧ (x.tmod n < 0 → x % n = x.tmod n + n) := by
  have h1 := Int.lt_tmod_of_pos x h0
  have h2 := Int.tmod_lt_of_pos x h0
  have h3 : x % n = x.tmod n % n := by
    have h4 := Int.mul_tdiv_add_tmod x n
    conv => lhs; rw [← h4]
    rw [Int.mul_add_emod_self_left]
  refine ⟨h1, h2, fun h => ?_, fun h => ?_⟩
  · rw [h3, Int.emod_eq_of_lt h h2]
  · rw [h3, ← Int.add_emod_right, Int.emod_eq_of_lt (by omega) (by omega)]
set_option maxHeartbeats 1000000 in
set_option maxRecDepth 100000 in
theorem pick_any (x n : Int) (w : World) (hx : -9223372036854775808 ≤ x ∧ x ≤ 9223372036854775807) (h0 : 0 < n) (h1 : n ≤ 1048576) : Calls Try.prog 64 #[.int .i64 x, .int .i64 n] w fun e w' => e = .returned (.int .i64 (x % n)) ∧ w' = w := by
  go_enter Try.func64, Try.ntmps64
  obtain ⟨t1, t2, t3, t4⟩ := tmod_facts x n h0
  go_wp2
  · go_ret
    refine ⟨?_, rfl⟩
    rename_i h
    rw [t4 h]; rfl
  · go_ret
    refine ⟨?_, rfl⟩
    rename_i h
    rw [t3 h]; rfl
theorem two_ {g : Gh} {x y : AV} {vs : List Value} (hl : vs.length = 2) (hv : ∀ (i : Nat) a v, [x, y][i]? = some a → vs[i]? = some v → RV g a v) : ∃ u v, vs = [u, v] ∧ RV g x u ∧ RV g y v := by
  match vs, hl with
  | [u, v], _ => exact ⟨u, v, rfl, hv 0 _ _ rfl rfl, hv 1 _ _ rfl rfl⟩
theorem pick_v (x n : Int) (hx : -9223372036854775808 ≤ x ∧ x ≤ 9223372036854775807) (h0 : 0 < n) (h1 : n ≤ 1048576) : VC Try.prog 64 [.v (.int .i64 x), .v (.int .i64 n)] [] (.v (.int .i64 (x % n))) := by
  refine VC.ofA ⟨_, Try.func64, by kernel_rfl, by kernel_rfl⟩ fun w N vs hM hl hv => ?_
  obtain ⟨u, v, rfl, h2, h3⟩ := two_ hl hv
  have e1 := h2.v_inv
  have e2 := h3.v_inv
  subst e1 e2
  refine (pick_any x n w hx h0 h1).mono fun e w' hp => ?_
  obtain ⟨rfl, rfl⟩ := hp
  exact ⟨_, rfl, Below.refl _ _, RV.v_of rfl⟩
end Go.Proofs.Ythphhnkoilcofaa
