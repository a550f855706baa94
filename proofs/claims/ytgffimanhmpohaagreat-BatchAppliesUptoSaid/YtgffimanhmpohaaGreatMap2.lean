/- A store: an inner node of two sides. -/
import Derived.Test.YtgffimanhmpohaaGreatPu
import Derived.Test.YtgffimanhmpohaaGreatZa
import Derived.Shelf.SlSortCmp.WholeK
import Derived.DeepKeys3
import Derived.BigQuiet
import Derived.BigRegion
import Derived.Shelf.SlSortCmp.QuietGrown
import Derived.Shelf.SlSortCmp.NoneTotal
import Derived.Test.YtgffimanhmpohaaGreatA2
import Derived.Test.YtgffimanhmpohaaGreatBits
import Derived.Lib.SliceRun
set_option linter.unusedSimpArgs false
set_option linter.unusedVariables false
namespace Go.Proofs.YtgffimanhmpohaaGreat
open Go Go.RowKit
def Slb.side (s : Slb) (h : Int) : SN := if h = 0 then SN.zero else s.get_ h
theorem Slb.side_wf {s : Slb} (hs : s.wf) (h : Int) : (s.side h).wf := by unfold Slb.side; split; exact SN.zero_wf; exact Slb.get_wf hs h
def inN (dg : List UInt8) (d : Nat) (key : List UInt8) (l r : Int) (sz : Int) (hd : Int) : SN := ⟨dg, 2, (d : Int), key, [], List.replicate 32 0, l, r, sz, hd⟩
def Slb.newIn (s : Slb) (d : Nat) (l r : Int) : SN := inN (innerH (s.dig l) (s.dig r)) d (fillL (if l = 0 then (s.side r).key else (s.side l).key) d false) l r ((s.side l).sz + (s.side r).sz) 1
abbrev innT : Ty := .cn .sc (.cn .sc .nl)
theorem cutG7 {B R : Act → World → Prop} {G : Prop} (h : (∀ a w, R a w → B a w) → G) (k : ∀ a w, R a w → B a w) : G := h k
theorem zNd_sub : sub 4 zNd SN.zero.av := ⟨⟨rfl, trivial⟩, rfl, rfl, rfl, rfl, rfl, rfl, rfl, rfl, rfl, trivial⟩
attribute [local irreducible] wpT
set_option maxRecDepth 20000 in
set_option maxHeartbeats 8000000 in
theorem stoInner_v (s : Slb) (hs : s.wf) (d : Nat) (hd : d ≤ 255) (l r : Int) (hl : l ≠ 0 → s.ok_ l = true ∧ (s.get_ l).hd ≠ 0) (hr : r ≠ 0 → s.ok_ r = true ∧ (s.get_ r).hd ≠ 0)
    (hfit : fitsB d l r (s.side l) (s.side r) = true) (hm : s.m = 0) (hu : s.used < s.room) (hln : s.sl.length < 65536) (hsz : 0 ≤ (s.side l).sz ∧ (s.side l).sz ≤ 1000000 ∧ 0 ≤ (s.side r).sz ∧ (s.side r).sz ≤ 1000000)
    (s3 : Slb) (hc1 : VX Tryz.prog 56 (s.push (s.newIn d l r)).sx [] [] [.ptr 0 [], .v (.int .i64 l), .v (.int .i64 (-1))] ((s.push (s.newIn d l r)).call_ l (-1)).sx [] [] (.tup []))
    (hc2 : VX Tryz.prog 56 ((s.push (s.newIn d l r)).call_ l (-1)).sx [] [] [.ptr 0 [], .v (.int .i64 r), .v (.int .i64 (-1))] s3.sx [] [] (.tup [])) :
    VX Tryz.prog 36 s.sx [] [] [.ptr 0 [], .v (.int .i64 (d : Int)), .v (.int .i64 l), .v (.int .i64 r)] s3.sx [] [] (.tup [.v (.int .i64 ((s.sl.length : Int) + 1)), errv 0]) := by
  have hn := stoNone_v s.γ s.δ s.sl.length s.m s.room s.used (s.sl.map slA) (s.fs.map inA)
  have hg1 := stoGet_v s hs l
  have hg2 := stoGet_v s hs r
  have hw1 := Slb.side_wf hs l
  have hw2 := Slb.side_wf hs r
  have hf := stoFits_v (s.side l) (s.side r) hw1 hw2 d (by omega) l r
  rw [hfit] at hf
  have hD1 := stoDigest_v s hs l
  have hD2 := stoDigest_v s hs r
  have hdl1 := Slb.dig_len hs l
  have hdl2 := Slb.dig_len hs r
  have hin := inner_v (s.dig l) (s.dig r) hdl1 hdl2
  have hil := innerH_len (s.dig l) (s.dig r)
  have hkl : (if l = 0 then (s.side r).key else (s.side l).key).length = 32 := by split; exact hw2.key; exact hw1.key
  have hfi := first_v (if l = 0 then (s.side r).key else (s.side l).key) hkl d (by omega)
  have hfl := fillL_len (if l = 0 then (s.side r).key else (s.side l).key) d false
  have hpu := slbPush_v s hs hm hu (s.newIn d l r) ⟨hil, hfl, List.length_replicate⟩ hln
  have hz2 : (List.replicate 32 (0 : UInt8)).length = 32 := List.length_replicate
  have hsl : l ≠ 0 → s.side l = s.get_ l := fun h => by unfold Slb.side; rw [if_neg h]
  have hsr : r ≠ 0 → s.side r = s.get_ r := fun h => by unfold Slb.side; rw [if_neg h]
  have hzl : l = 0 → s.side l = SN.zero := fun h => by unfold Slb.side; rw [if_pos h]
  have hzr : r = 0 → s.side r = SN.zero := fun h => by unfold Slb.side; rw [if_pos h]
  have d1 : decide ((d : Int) < 0) = false := decide_eq_false (by omega)
  have d2 : decide ((255 : Int) < (d : Int)) = false := decide_eq_false (by omega)
  generalize (s.push (s.newIn d l r)).call_ l (-1) = s2 at *
  unfold Slb.newIn at hpu hc1
  generalize hkk : (if l = 0 then (s.side r).key else (s.side l).key) = kk at *
  generalize fillL kk d false = fk at *
  generalize innerH (s.dig l) (s.dig r) = ih at *
  generalize s.dig l = da at *
  generalize s.dig r = db at *
  generalize hLe : s.side l = L at *
  generalize hRe : s.side r = R at *
  generalize s.push (inN ih d fk l r (L.sz + R.sz) 1) = s1 at *
  simp only [Slb.bx, SN.av, inN] at hpu
  simp only [Slb.sx] at hg1 hg2 hD1 hD2 hc1 hc2 ⊢
  generalize s.sl.map slA = es at *
  generalize s.fs.map inA = fs at *
  have hLA : L.av = .st [.st [.ba L.dg], .v (B8 L.k), .v (.int .i64 L.d), .ba L.key, .bs L.val none, .ba L.hs, .v (.int .i64 L.l), .v (.int .i64 L.r), .v (.int .i64 L.sz), .v (.int .i64 L.hd)] := rfl
  have hRA : R.av = .st [.st [.ba R.dg], .v (B8 R.k), .v (.int .i64 R.d), .ba R.key, .bs R.val none, .ba R.hs, .v (.int .i64 R.l), .v (.int .i64 R.r), .v (.int .i64 R.sz), .v (.int .i64 R.hd)] := rfl
  have hZA : SN.zero.av = .st [.st [.ba (List.replicate 32 0)], .v (.int .u8 0), .v (.int .i64 0), .ba (List.replicate 32 0), .bs [] none, .ba (List.replicate 32 0), .v (.int .i64 0), .v (.int .i64 0), .v (.int .i64 0), .v (.int .i64 0)] := rfl
  obtain ⟨x1, x2, x3⟩ := id hw1
  obtain ⟨y1, y2, y3⟩ := id hw2
  refine mE Tryz.func36 ?_; intro N w0 a w hN hR H
  have hM : N.bx.length ≤ 4 ∧ N.rw.length ≤ 0 := ⟨Nat.le_trans hN (Nat.le_of_ble_eq_true rfl), hR⟩
  have hX := And.intro @d1 (And.intro @d2 (@hz2))
  refine mW ?_; clear H; intro a w H
  refine mCall [0, 1, 2, 3] [] (hn) H ?_; clear H; intro a w H; try refine wpList_nil ?_
  refine mW ?_; clear H; intro a w H
  refine mC H (fun hb => ?_) (fun hb => ?_)
  · exact absurd hb (by decide)
  clear hb
  refine mW ?_; clear H; intro a w H
  refine mC H (fun hb => ?_) (fun hb => ?_)
  · exact absurd hb (by decide)
  clear hb
  refine mS ?_
  replace H := mK [0, 1, 2, 3, 8, 9] 4 0 hN hR H
  (try refine wp_region_lit ?_); refine mN 6 hN H ?_; clear H; intro a w H
  refine wpList_nil ?_
  replace H := v_subB H 4 (y := SN.zero.av) rfl zNd_sub
  simp only [List.set_cons_succ, List.set_cons_zero] at H
  replace H := v_subB H 5 (y := SN.zero.av) rfl zNd_sub
  simp only [List.set_cons_succ, List.set_cons_zero] at H
  replace H := mK [0, 1, 2, 3, 8, 9, 10, 11] 6 0 hN hR H
  replace H := H.toX w0.heap.size
  clear hN hR
  obtain ⟨N1, hB, hZ, H, hN1, hR1⟩ := H.open_
  have hN : N1.bx.length ≤ 6 := Nat.le_of_eq hN1
  have hR : N1.rw.length ≤ 0 := Nat.le_of_eq hR1
  have hN6 : N1.bx.length = 6 := hN1
  clear hN1 hR1
  obtain ⟨u4, hu4, H⟩ := v_ptrV H 10 (i := 4) (path := []) (by omega) rfl rfl rfl
  obtain ⟨u5, hu5, H⟩ := v_ptrV H 11 (i := 5) (path := []) (by omega) rfl rfl rfl
  simp only [nilT, reduceIte, Nat.reduceEqDiff] at H
  have e4 : ∃ b o, u4 = .pointer (some ⟨b, o, none⟩) := by obtain ⟨x, o, _, _, _, _, e⟩ := hu4; exact ⟨_, _, e⟩
  have e5 : ∃ b o, u5 = .pointer (some ⟨b, o, none⟩) := by obtain ⟨x, o, _, _, _, _, e⟩ := hu5; exact ⟨_, _, e⟩
  obtain ⟨b4, o4, rfl⟩ := e4
  obtain ⟨b5, o5, rfl⟩ := e5
  refine mS ?_
  (try refine wp_region_lit ?_); refine mN 7 hN H ?_; clear H; intro a w H
  refine wpList_nil ?_
  replace H := v_sub H 33 (x := .sl innT [.st [.v (.int .i64 l), .v (.pointer (some ⟨b4, o4, none⟩))], .st [.v (.int .i64 r), .v (.pointer (some ⟨b5, o5, none⟩))]] (some 0)) (y := .sl innT [.st [.v (.int .i64 l), .v (.pointer (some ⟨b4, o4, none⟩))], .st [.v (.int .i64 r), .v (.pointer (some ⟨b5, o5, none⟩))]] none) ⟨rfl, rfl⟩ rfl (fun az h => by cases h) rfl
  simp only [nilT, reduceIte, Nat.reduceEqDiff] at H
  replace H := mK [0, 1, 2, 3, 8, 9, 10, 11, 33, 34, 35] 6 0 hN hR H
  refine mS ?_
  refine v_loop (fun i : Nat => ⟨[(35, none, .v (.int .i64 (i : Int))), (34, none, .v (.int .i64 2)), (33, none, .sl innT [.st [.v (.int .i64 l), .v (.pointer (some ⟨b4, o4, none⟩))], .st [.v (.int .i64 r), .v (.pointer (some ⟨b5, o5, none⟩))]] none), (11, none, .v (.pointer (some ⟨b5, o5, none⟩))), (10, none, .v (.pointer (some ⟨b4, o4, none⟩))), (9, none, .v (.int .i64 0)), (8, none, .v (.int .i64 0)), (0, none, .ptr 0 []), (1, none, .v (.int .i64 (d : Int))), (2, none, .v (.int .i64 l)), (3, none, .v (.int .i64 r))],
    [(stoT, .st [.ptr 1 []]), (slbT, .st [.vw 2 s.γ s.sl.length, .vw 3 s.δ s.m, .v (.int .i64 (s.room : Int)), .v (.int .i64 (s.used : Int))]), (.vc 148 sltT, .vc s.γ es), (.vc 3 .sc, .vc s.δ fs), (sndT, (if i = 0 then SN.zero else L).av), (sndT, (if i ≤ 1 then SN.zero else R).av)], [], []⟩) (fun i => i ≤ 2) (fun i => 2 - i) 0 (by omega)
    (H.to 6 0 ⟨hN, hR⟩ ⟨rfl, rfl, rfl, rfl, rfl, rfl, rfl, rfl, rfl, rfl, rfl, trivial⟩ rfl rfl rfl rfl rfl) ?_
  clear H
  intro i a w hi H
  have hgt0 : ([.st [.v (.int .i64 l), .v (.pointer (some ⟨b4, o4, none⟩))], .st [.v (.int .i64 r), .v (.pointer (some ⟨b5, o5, none⟩))]] : List AV).getD 0 .any = .st [.v (.int .i64 l), .v (.pointer (some ⟨b4, o4, none⟩))] := rfl
  have hgt1 : ([.st [.v (.int .i64 l), .v (.pointer (some ⟨b4, o4, none⟩))], .st [.v (.int .i64 r), .v (.pointer (some ⟨b5, o5, none⟩))]] : List AV).getD 1 .any = .st [.v (.int .i64 r), .v (.pointer (some ⟨b5, o5, none⟩))] := rfl
  refine mW ?_; clear H; intro a w H
  refine mC H (fun hb => ?_) (fun hb => ?_)
  · have hlt : i < 2 := by
      have : decide ((i : Int) < 2) = true := hb
      rw [decide_eq_true_eq] at this; omega
    clear hb
    match i, hlt with
    | 0, _ =>
      rw [if_pos rfl, if_pos (by decide)] at H
      by_cases h0 : l = 0
      · have dh : decide (l = 0) = true := decide_eq_true h0
        refine mS ?_
        clear hX; have hX := And.intro @dh (@hgt0)
        (try refine wp_region_lit ?_); refine mN 1 hN H ?_; clear H; intro a w H
        refine mW ?_; clear H; intro a w H
        refine mC H (fun hb => ?_) (fun hb => ?_)
        · clear hb
          refine mW ?_; clear H; intro a w H
          have hz := hzl h0
          subst hz
          exact ⟨1, by omega, by omega, H.to 6 0 ⟨hN, hR⟩ ⟨rfl, rfl, rfl, rfl, rfl, rfl, rfl, rfl, rfl, rfl, rfl, trivial⟩ rfl rfl rfl rfl rfl⟩
        exact absurd hb (by decide)
      have dh : decide (l = 0) = false := decide_eq_false h0
      obtain ⟨g1, g2⟩ := hl h0
      have dk : decide (L.hd = 0) = false := by rw [hsl h0]; exact decide_eq_false g2
      have hg := hg1
      rw [g1, ← hsl h0, hLA] at hg
      refine mS ?_
      clear hX; have hX := And.intro @dh (And.intro @hgt0 (And.intro @dk (And.intro @x1 (And.intro @x2 (@x3)))))
      (try refine wp_region_lit ?_); refine mN 1 hN H ?_; clear H; intro a w H
      refine mW ?_; clear H; intro a w H
      refine mC H (fun hb => ?_) (fun hb => ?_)
      · exact absurd hb (by decide)
      clear hb
      refine mW ?_; clear H; intro a w H
      refine mCall [0, 1, 2, 3] [] (hg) H ?_; clear H; intro a w H; try refine wpList_nil ?_
      refine mW ?_; clear H; intro a w H
      refine mC H (fun hb => ?_) (fun hb => ?_)
      · exact absurd hb (by decide)
      clear hb
      refine mS ?_
      (try refine wp_region_lit ?_); refine mN 2 hN H ?_; clear H; intro a w H
      replace H := v_ptrU hu4 H 57 rfl
      simp only [nilT, reduceIte, Nat.reduceEqDiff] at H
      refine mW ?_; clear H; intro a w H
      exact ⟨1, by omega, by omega, H.to 6 0 ⟨hN, hR⟩ ⟨rfl, rfl, rfl, rfl, rfl, rfl, rfl, rfl, rfl, rfl, rfl, trivial⟩ rfl rfl rfl rfl rfl⟩
    | 1, _ =>
      rw [if_neg (by decide), if_pos (by decide)] at H
      by_cases h0 : r = 0
      · have dh : decide (r = 0) = true := decide_eq_true h0
        refine mS ?_
        clear hX; have hX := And.intro @dh (@hgt1)
        (try refine wp_region_lit ?_); refine mN 1 hN H ?_; clear H; intro a w H
        refine mW ?_; clear H; intro a w H
        refine mC H (fun hb => ?_) (fun hb => ?_)
        · clear hb
          refine mW ?_; clear H; intro a w H
          have hz := hzr h0
          subst hz
          exact ⟨2, by omega, by omega, H.to 6 0 ⟨hN, hR⟩ ⟨rfl, rfl, rfl, rfl, rfl, rfl, rfl, rfl, rfl, rfl, rfl, trivial⟩ rfl rfl rfl rfl rfl⟩
        exact absurd hb (by decide)
      have dh : decide (r = 0) = false := decide_eq_false h0
      obtain ⟨g1, g2⟩ := hr h0
      have dk : decide (R.hd = 0) = false := by rw [hsr h0]; exact decide_eq_false g2
      have hg := hg2
      rw [g1, ← hsr h0, hRA] at hg
      refine mS ?_
      clear hX; have hX := And.intro @dh (And.intro @hgt1 (And.intro @dk (And.intro @y1 (And.intro @y2 (@y3)))))
      (try refine wp_region_lit ?_); refine mN 1 hN H ?_; clear H; intro a w H
      refine mW ?_; clear H; intro a w H
      refine mC H (fun hb => ?_) (fun hb => ?_)
      · exact absurd hb (by decide)
      clear hb
      refine mW ?_; clear H; intro a w H
      refine mCall [0, 1, 2, 3] [] (hg) H ?_; clear H; intro a w H; try refine wpList_nil ?_
      refine mW ?_; clear H; intro a w H
      refine mC H (fun hb => ?_) (fun hb => ?_)
      · exact absurd hb (by decide)
      clear hb
      refine mS ?_
      (try refine wp_region_lit ?_); refine mN 2 hN H ?_; clear H; intro a w H
      replace H := v_ptrU hu5 H 57 rfl
      simp only [nilT, reduceIte, Nat.reduceEqDiff] at H
      refine mW ?_; clear H; intro a w H
      exact ⟨2, by omega, by omega, H.to 6 0 ⟨hN, hR⟩ ⟨rfl, rfl, rfl, rfl, rfl, rfl, rfl, rfl, rfl, rfl, rfl, trivial⟩ rfl rfl rfl rfl rfl⟩
  have h2 : i = 2 := by
    have : decide ((i : Int) < 2) = false := hb
    rw [decide_eq_false_iff_not] at this; omega
  clear hb
  subst h2
  rw [if_neg (by decide), if_neg (by decide), hLA, hRA] at H
  rw [hLA, hRA] at hf
  replace H := v_ptrU hu4 H 10 rfl
  replace H := v_ptrU hu5 H 11 rfl
  simp only [nilT, reduceIte, Nat.reduceEqDiff] at H
  replace H := (RelX.close hB hZ H).rel
  clear hN hR hN6 hB hZ hu4 hu5 hgt0 hgt1
  have hN := hM.1
  have hR := hM.2
  refine mS ?_
  clear hX; have hX := And.intro @x1 (And.intro @x2 (And.intro @x3 (And.intro @y1 (And.intro @y2 (And.intro @y3 (And.intro @hz2 (And.intro @hkl (And.intro @hfl (And.intro @hdl1 (And.intro @hdl2 (@hil)))))))))))
  replace H := mK [0, 1, 2, 3, 8, 9, 10, 11] 6 0 hN hR H
  refine mW ?_; clear H; intro a w H
  refine mCall [] [] (hf) H ?_; clear H; intro a w H; try refine wpList_nil ?_
  refine mW ?_; clear H; intro a w H
  refine mC H (fun hb => ?_) (fun hb => ?_)
  · exact absurd hb (by decide)
  clear hb
  refine mS ?_
  replace H := mK [0, 1, 2, 3, 8, 9, 10, 11] 6 0 hN hR H
  refine mW ?_; clear H; intro a w H
  revert a w
  apply cutG7 (R := fun a w => Rel Tryz.prog w0 N Tryz.f36.ntmps ⟨[(16, none, .ptr 6 []), (11, none, .ptr 5 []), (10, none, .ptr 4 []), (9, none, .v (.int .i64 0)), (8, none, .v (.int .i64 0)), (0, none, .ptr 0 []), (1, none, .v (.int .i64 (d : Int))), (2, none, .v (.int .i64 l)), (3, none, .v (.int .i64 r))],
    [(stoT, .st [.ptr 1 []]), (slbT, .st [.vw 2 s.γ s.sl.length, .vw 3 s.δ s.m, .v (.int .i64 (s.room : Int)), .v (.int .i64 (s.used : Int))]), (.vc 148 sltT, .vc s.γ es), (.vc 3 .sc, .vc s.δ fs), (sndT, L.av), (sndT, R.av), (.ba 32, .ba kk)], [], []⟩ a w)
  · intro key1 a w H
    refine mC H (fun hb => ?_) (fun hb => ?_)
    · rw [decide_eq_true_eq] at hb
      rw [if_pos hb] at hkk
      refine mS ?_
      (try refine wp_region_lit ?_); refine mN 3 hN H ?_; clear H; intro a w H
      refine wpList_nil ?_
      refine mS ?_
      exact key1 _ _ (H.to 7 0 ⟨Nat.le_trans hN (Nat.le_of_ble_eq_true rfl), hR⟩ ⟨rfl, rfl, rfl, rfl, rfl, rfl, rfl, rfl, rfl, trivial⟩ (by rw [← hkk]; rfl) rfl rfl rfl rfl)
    rw [decide_eq_false_iff_not] at hb
    rw [if_neg hb] at hkk
    refine mS ?_
    exact key1 _ _ (H.to 7 0 ⟨Nat.le_trans hN (Nat.le_of_ble_eq_true rfl), hR⟩ ⟨rfl, rfl, rfl, rfl, rfl, rfl, rfl, rfl, rfl, trivial⟩ (by rw [← hkk]; rfl) rfl rfl rfl rfl)
  intro a w H
  rw [hLA, hRA] at H
  refine mW ?_; clear H; intro a w H
  refine mCall [] [] (hfi) H ?_; clear H; intro a w H; try refine wpList_nil ?_
  refine mW ?_; clear H; intro a w H
  refine mS ?_
  replace H := mK [0, 1, 2, 3, 8, 9, 10, 11, 16] 7 0 hN hR H
  replace H := v_ref H 10 4 hN rfl rfl rfl
  simp only [nilT, strip, List.map_cons, List.map_nil, reduceIte, Nat.reduceEqDiff] at H
  replace H := v_ref H 11 5 (Nat.le_trans hN (by decide)) rfl rfl rfl
  simp only [nilT, strip, List.map_cons, List.map_nil, reduceIte, Nat.reduceEqDiff] at H
  replace H := v_ref H 16 6 (Nat.le_trans hN (by decide)) rfl rfl rfl
  simp only [nilT, strip, List.map_cons, List.map_nil, reduceIte, Nat.reduceEqDiff] at H
  repeat (first | refine wp_seq ?_ | refine wp_block ?_)
  refine v_drawZ 0 [0, 1, 2, 4, 5, 7, 8, 12, 13, 14, 15, 16, 17, 18, 19, 20, 3, 6, 9, 10, 11, 21, 22, 23, 24, 25, 26, 27] [3, 6, 9, 10, 22] [0, 1, 2, 4, 5, 7, 8, 11, 12, 13, 14, 15, 16, 17, 18, 19, 20, 21] [(3, 6), (3, 9), (3, 10), (1009, 6), (1010, 6), (1010, 9)] (by kernel_rfl) (by kernel_rfl) (by kernel_rfl) (by kernel_rfl) (by kernel_rfl) H (by rfl) ?_; clear H; intro gS H; try replace H := ntf H
  repeat' ((first | refine wpZ_q1 rfl rfl ?_ | refine wpZ_l1 rfl rfl rfl ?_ | refine wpZ_l2 rfl rfl rfl rfl rfl ?_ ?_ | refine wpZ_l3 rfl rfl rfl rfl rfl rfl rfl ?_ ?_ ?_ | refine wpZ_l4 rfl rfl rfl rfl rfl rfl rfl rfl rfl ?_ ?_ ?_ ?_) <;> ((first | (refine wpT_at 6 ?_; refine mCallT [0, 1, 2, 3] [] (hD1) H ?_; clear H; intro a w H) | (refine wpT_at 9 ?_; refine mCallT [0, 1, 2, 3] [] (hD2) H ?_; clear H; intro a w H) | (refine wpT_at 10 ?_; refine mCallT [] [] (hin) H ?_; clear H; intro a w H) | (refine wpT_at 22 ?_; refine mCallT [1, 2, 3] [] (hpu) H ?_; clear H; intro a w H) | (refine v_someT 1 tab_ok hN H rfl ctX ?_; clear H; intro a w H; replace H := ntf H; simp only [drL])); refine wpT_nil ?_; try dsimp only))
  all_goals (refine wpZ_nil ?_; replace H := RelT.toRel H)
  all_goals
    refine mS ?_
    replace H := mK [0, 1, 2, 3, 8, 9, 17, 18] 4 0 hN hR H
    refine mW ?_; clear H; intro a w H
    refine mC H (fun hb => ?_) (fun hb => ?_)
    · exact absurd hb (by decide)
    clear hb
    refine mW ?_; clear H; intro a w H
    refine mCall [0, 1, 2, 3] [] (hc1) H ?_; clear H; intro a w H; try refine wpList_nil ?_
    refine mW ?_; clear H; intro a w H
    refine mCall [0, 1, 2, 3] [] (hc2) H ?_; clear H; intro a w H; try refine wpList_nil ?_
    refine mW ?_; clear H; intro a w H
    refine wp_ret ?_; exact mEnd [0, 1, 2, 3] [] [.tmp 8, .tmp 9] [_, _] hN hR H
end Go.Proofs.YtgffimanhmpohaaGreat
namespace Go.Proofs.YtgffimanhmpohaaGreat
open Go Go.RowKit
theorem mapM_some {α β : Type} {f : α → Option β} : ∀ (l : List α), (∀ x ∈ l, ∃ y, f x = some y) → ∃ ys, l.mapM f = some ys
  | [], _ => ⟨[], rfl⟩
  | x :: l, h => by
    obtain ⟨y, hy⟩ := h x List.mem_cons_self
    obtain ⟨ys, hys⟩ := mapM_some l fun z hz => h z (List.mem_cons_of_mem _ hz)
    exact ⟨y :: ys, by simp [List.mapM_cons, hy, hys]⟩
structure KT (P : Program) (kt : TypeId) (n : Nat) : Prop where
  law : WideMaps.KeyLaw P kt
  key : ∀ l : List UInt8, l.length = n → ∃ q, keyOf P kt (.agg (l.map B8).toArray) = some q
theorem KT.of {P : Program} {kt e : TypeId} {n : Nat} (ha : P.underlying kt = some (.array n e)) (he : P.underlying e = some (.int .u8)) (hk : P.keyTypeAt 2 kt = true) (ht : P.tiled 2 kt = true) (hK : P.keyType kt = true) (hc : P.cellsOf kt = n) (hce : P.cellsOf e = 1) (hs : 1 ≤ P.types.size) : KT P kt n :=
  ⟨deep_law (m := 2) (by decide) hk ht (by rw [ha]), fun l hl => by
    obtain ⟨d, hd⟩ : ∃ d, P.types.size = d + 1 := ⟨P.types.size - 1, by omega⟩
    have hlen : (l.map B8).length = n := by simpa using hl
    obtain ⟨ys, hys⟩ := mapM_some (f := fun i => P.keyLits (P.types.size) e (((l.map B8).drop (i * P.cellsOf e)).take (P.cellsOf e))) (List.range n) fun i hi => by
      have hi' : i < l.length := by rw [hl]; exact List.mem_range.1 hi
      have e1 : (((l.map B8).drop (i * P.cellsOf e)).take (P.cellsOf e)) = [B8 l[i]] := by
        rw [hce, Nat.mul_one, List.drop_eq_getElem_cons (by simpa using hi')]
        simp
      rw [e1, hd]
      refine ⟨[.int .u8 (l[i].toNat : Int)], ?_⟩
      unfold Program.keyLits
      rw [he]
      have h1 : (Lit.int .u8 (l[i].toNat : Int)).wf = true := by
        have := l[i].toNat_lt
        simp [Lit.wf, IntKind.min, IntKind.max, IntKind.signed, IntKind.bits]; omega
      simp [B8, h1]
    refine ⟨.string (keyBytes ys.flatten), ?_⟩
    unfold keyOf
    rw [ha]
    have hf : (Value.agg (l.map B8).toArray).formed P kt = true := by simp [Value.formed, ha, hc, hl]
    have hkl : P.keyLits (P.types.size + 1) kt (l.map B8) = some ys.flatten := by
      unfold Program.keyLits
      rw [ha]
      simp only [hlen, hc, if_true]
      rw [hys]; rfl
    simp only [hK, hf, Bool.and_self, if_true, Value.cells, List.toList_toArray, hkl, Option.map_some]⟩
theorem new_at (w : World) (o : Obj) : (w.alloc o).heap[w.heap.size]? = some o := by show (w.heap.push o)[w.heap.size]? = some o; simp
section
variable {P : Program} {τ : Tab} {w0 w : World} {N : Gh} {g : Gh} {st : St} {nt : Nat} {a : Act}
theorem v_mkMap {ops : Array Oper} {Q : Exit → Act → World → Prop} {rest : List Oper} {o : Oper} {t : Nat} (K V : Ty) (H : Rel P w0 N nt st a w)
    (k : ∀ a w, Rel P w0 N nt ((⟨st.t, st.bx ++ [(.mp K V, .mp [] [])], st.fz, st.rw⟩ : St).put o.dst none (.mr st.bx.length)) a w → wpList P ops Q rest a w) (hgd : o.guard = none := by rfl) (ho : o.op = .makeMap t none := by rfl) (hd : okDst nt none o.dst = true := by rfl) : wpList P ops Q (o :: rest) a w := by
  obtain ⟨g, HI, hF⟩ := H
  obtain ⟨g', l1, I1, h1⟩ := HI.boxG (x := ⟨w.heap.size, 0, .mp K V, [], false, 0, 0, false, some (#[], 0)⟩) (a := .mp [] []) (w' := w.alloc (.map #[] 0)) rfl (grown_alloc w _) (fun _ => ⟨rfl, ⟨fun e => (by cases e), fun m e => (by injection e with e; subst e; exact new_at w _)⟩⟩) (fun e => by cases e) (fun _ => rfl)
    (.inr (.inr (.inr ⟨K, V, [], [], #[], 0, rfl, rfl, rfl, rfl, rfl, rfl, rfl, fun k h => absurd h (by simp)⟩)))
  refine wpList_plain hgd fun K' hK => ?_
  unfold Oper.wp
  have he : (execOp a.eval o).run P w = .ok (.value (.map (some w.heap.size))) (w.alloc (.map #[] 0)) := by
    obtain ⟨dst, op, ty, pos, after, gd⟩ := o
    dsimp only at ho
    subst ho
    rfl
  rw [he, Oper.upon_value]
  refine hK _ _ (k _ _ ⟨g', ?_, (hF.mono l1.1).put hd (fun _ => (RC.mr h1 rfl).rvp) rfl (fun h => absurd trivial h)⟩)
  cases o.dst <;> exact I1
theorem map_at (HI : Inv P w0 N g st.bx st.fz st.rw w) {i n : Nat} {V : Ty} {ks : List (List UInt8)} {vs : List AV} (hb : st.bx[i]? = some (.mp (.ba n) V, .mp (ks.map .ba) vs)) : ∃ x es clk, g.bx[i]? = some x ∧ x.ty = .mp (.ba n) V ∧ x.off = false ∧ x.mp = some (es, clk) ∧ x.cells = [] ∧ w.heap[x.blk]? = some (.map es clk) ∧ ks.length = es.size ∧ vs.length = es.size ∧
    ∀ k (h : k < es.size) (h1 : k < ks.length) (h2 : k < vs.length), ks[k].length = n ∧ es[k].key = .agg (ks[k].map B8).toArray ∧ ∃ ds, RC g.base V vs[k] ds ∧ es[k].val = mkV V ds := by
  obtain ⟨x, hx, hty, hbc⟩ := HI.br.get hb
  rcases hbc with ⟨_, _, hrc⟩ | ⟨_, _, _, _, _, ⟨_, e, _⟩, _⟩ | ⟨_, _, _, ⟨_, e, _⟩, _⟩ | ⟨K, V', ks', vs', es, clk, e1, e2, ho, hm, hc, hk, hv, hall⟩
  · cases hrc
  · cases e
  · cases e
  injection e1 with e1 e1'; subst e1 e1'
  injection e2 with e2 e2'; subst e2 e2'
  refine ⟨x, es, clk, hx, hty, ho, hm, hc, (HI.mem.bx i x hx ho).m _ hm, by simpa using hk, hv, fun k h h1 h2 => ?_⟩
  obtain ⟨cs, ds, q1, q2, q3, q4⟩ := hall k h (by simpa using h1) h2
  rw [List.getElem_map] at q1
  obtain ⟨q5, rfl⟩ := q1.ba_inv
  injection q5 with q5
  exact ⟨q5.symm, q2, ds, q3, q4⟩
theorem find_at {kt n : Nat} (hKT : KT P kt n) {ks : List (List UInt8)} {es : Array MapEntry} (hlen : ks.length = es.size) (hall : ∀ k (h : k < es.size) (h1 : k < ks.length), ks[k].length = n ∧ es[k].key = .agg (ks[k].map B8).toArray) {kl : List UInt8} (hl : kl.length = n) (w : World) :
    ((Instr.findKey kt (.agg (kl.map B8).toArray) es.toList).run P w = .ok none w ∧ kl ∉ ks) ∨ ∃ j, ∃ h : j < es.size, ks[j]? = some kl ∧ (Instr.findKey kt (.agg (kl.map B8).toArray) es.toList).run P w = .ok (some (j, es[j].val)) w := by
  have inj : ∀ x y : List UInt8, Value.agg (x.map B8).toArray = Value.agg (y.map B8).toArray → x = y := fun x y e => by
    injection e with e
    have e1 := congrArg Array.toList e
    simp only [List.toList_toArray] at e1
    exact (List.map_inj_right (f := B8) (fun u v h => by unfold B8 at h; injection h with _ h; exact UInt8.toNat_inj.1 (by omega))).1 e1
  obtain ⟨q, hq⟩ := hKT.key kl hl
  rcases hKT.law.find w hq es.toList (fun e he => by
    obtain ⟨j, hj, rfl⟩ := List.getElem_of_mem he
    have hj' : j < es.size := by simpa using hj
    obtain ⟨h1, h2⟩ := hall j hj' (by omega)
    rw [Array.getElem_toList, h2]
    exact hKT.key _ h1) with ⟨h1, h2⟩ | ⟨j, e, h1, h2, h3⟩
  · refine .inl ⟨h1, fun hm => ?_⟩
    obtain ⟨j, hj, e⟩ := List.getElem_of_mem hm
    have hj' : j < es.size := by omega
    obtain ⟨_, h4⟩ := hall j hj' hj
    exact h2 es[j] (by simp) (by rw [h4, e])
  have hj : j < es.size := by have := (List.getElem?_eq_some_iff.1 h2).1; simpa using this
  have he : e = es[j] := by rw [Array.getElem?_toList, Array.getElem?_eq_getElem hj] at h2; injection h2 with h2; exact h2.symm
  subst he
  obtain ⟨_, h4⟩ := hall j hj (by omega)
  refine .inr ⟨j, hj, ?_, h1⟩
  rw [List.getElem?_eq_getElem (by omega)]
  congr 1
  exact inj _ _ (h4.symm.trans h3)
theorem v_mapNew {ops : Array Oper} {Q : Exit → Act → World → Prop} {rest : List Oper} {o : Oper} {t kt et i n : Nat} {m kx vx : Operand} {V : Ty} {ks : List (List UInt8)} {vs : List AV} {kl : List UInt8} {v : AV} (hKT : KT P kt n) (H : Rel P w0 N nt st a w)
    (ht : P.underlying t = some (.map kt et)) (hl : kl.length = n) (hn : kl ∉ ks)
    (k : ∀ a w, Rel P w0 N nt ((⟨st.t, st.bx.set i (.mp (.ba n) V, .mp (ks.map .ba ++ [.ba kl]) (vs ++ [strip 3 v])), st.fz, st.rw⟩ : St)) a w → wpList P ops Q rest a w)
    (hgd : o.guard = none := by rfl) (ho : o.op = .mapUpdate t m kx vx := by rfl) (hd : o.dst = none := by rfl) (hm : st.ev none m = .mr i := by rfl) (hk : st.ev none kx = .ba kl := by rfl) (hv : st.ev none vx = v := by rfl) (hb : st.bx[i]? = some (.mp (.ba n) V, .mp (ks.map .ba) vs) := by rfl) (hf : notIn i st.fz = true := by rfl) (hp : pure_ 3 v = true := by rfl) (hft : fit V v := by first | rfl | trivial) : wpList P ops Q (o :: rest) a w := by
  obtain ⟨g, HI, hF⟩ := H
  obtain ⟨x, es, clk, hx, hty, hoff, hmp, hc, hheap, hkl, hvl, hall⟩ := map_at HI hb
  have em := ev_sound hF (c := none) trivial m
  have ek := ev_sound hF (c := none) trivial kx
  have ev := ev_sound hF (c := none) trivial vx
  rw [hm] at em; rw [hk] at ek; rw [hv] at ev
  have ek := ek.ba_inv
  have em2 : a.eval m = .map (some x.blk) := by
    have h3 := em.mr_inv
    generalize a.eval m = u at h3
    cases h3 with
    | mr h hT => rw [hx] at h; injection h with h; subst h; rfl
  obtain ⟨ds, hds, hvd⟩ := ev.fit hft
  have hdb := hds.strip_ hp
  have hget : (getObj x.blk).run P w = .ok (.map es clk) w := MapKept.run_getObj_map hheap
  have hchk : (Instr.checkKey false 10000 kt (a.eval kx)).run P w = .ok () w := by
    obtain ⟨q, hq⟩ := hKT.key kl hl
    rw [ek]; exact hKT.law.check w _ hq
  have hu : (underlying t).run P w = .ok (.map kt et) w := run_underlying ht w
  have hfind : (Instr.findKey kt (a.eval kx) es.toList).run P w = .ok none w := by
    rw [ek]
    rcases find_at hKT hkl (fun k h h1 => ⟨(hall k h h1 (by omega)).1, (hall k h h1 (by omega)).2.1⟩) hl w with ⟨h1, h2⟩ | ⟨j, hj, h1, h2⟩
    · exact h1
    exact absurd (List.mem_of_getElem? h1) hn
  let ne : MapEntry := { key := a.eval kx, val := a.eval vx, born := clk }
  have hr : (Instr.mapUpdate t (a.eval m) (a.eval kx) (a.eval vx)).run P w = (setObj x.blk (.map (es.push ne) (clk + 1))).run P w := by
    rw [em2]
    unfold Instr.mapUpdate
    simp only [Sem.run_bind, hu, Result.andThen_ok, hget, hchk, hfind]
    rfl
  let w' : World := { w with heap := w.heap.setIfInBounds x.blk (.map (es.push ne) (clk + 1)) }
  have hlt : x.blk < w.heap.size := (Array.getElem?_eq_some_iff.1 hheap).1
  have hset : (setObj x.blk (.map (es.push ne) (clk + 1))).run P w = .ok () w' := MapKept.run_setObj_map _ hheap
  have hxf : x.fz = false := by cases e : x.fz with | false => rfl | true => exact absurd (HI.fz i x hx e) (notIn_ok hf)
  obtain ⟨g', h1, h2, _⟩ := HI.upd (x' := { x with mp := some (es.push ne, clk + 1) }) (w' := w') (a := .mp (ks.map .ba ++ [.ba kl]) (vs ++ [strip 3 v])) hx (notIn_ok hf)
    (by unfold Bx.own; rw [hoff]; exact ⟨rfl, rfl, rfl, by simp [w'], fun k hk hne => by
      show (w.heap.setIfInBounds x.blk _)[k]? = _
      rw [Array.getElem?_setIfInBounds_ne (fun e => hne (by rw [e]; rfl))]⟩) rfl hxf (Nat.le_refl _) (fun _ => ⟨rfl, rfl, rfl⟩)
    (fun _ => ⟨⟨fun e => (by cases e), fun m e => by
      injection e with e; subst e
      show (w.heap.setIfInBounds x.blk _)[x.blk]? = _
      rw [Array.getElem?_setIfInBounds_self_of_lt hlt]⟩, .inr ⟨hoff, rfl⟩⟩) (fun e => by rw [show ({ x with mp := some (es.push ne, clk + 1) } : Bx).off = x.off from rfl, hoff] at e; cases e) (fun _ => hc)
    (by
      rw [hty]
      refine .inr (.inr (.inr ⟨.ba n, V, _, _, es.push ne, clk + 1, rfl, rfl, hoff, rfl, hc, by simp [hkl], by simp [hvl], fun j hj q1 q2 => ?_⟩))
      by_cases hj2 : j < es.size
      · obtain ⟨r1, r2, ds2, r3, r4⟩ := hall j hj2 (by omega) (by omega)
        refine ⟨ks[j].map B8, ds2, ?_, ?_, ?_, ?_⟩
        · rw [List.getElem_append_left (by simp; omega), List.getElem_map]; exact .ba r1
        · rw [Array.getElem_push_lt hj2, r2]; rfl
        · rw [List.getElem_append_left (by omega)]; exact r3
        rw [Array.getElem_push_lt hj2, r4]
      have hje : j = es.size := by simp at hj; omega
      subst hje
      refine ⟨kl.map B8, ds, ?_, ?_, ?_, ?_⟩
      · rw [List.getElem_append_right (by simp; omega)]; simp [hkl]; exact .ba hl
      · rw [Array.getElem_push_eq]; exact ek
      · rw [List.getElem_append_right (by omega)]; simp [hvl]; exact hdb
      rw [Array.getElem_push_eq]; exact hvd)
  rw [hty] at h2
  refine wpList_plain hgd fun K hK => ?_
  unfold Oper.wp
  have he : (execOp a.eval o).run P w = .ok .skip w' := by
    obtain ⟨dst, op, ty, pos, after, gd⟩ := o
    dsimp only at ho
    subst ho
    simp only [execOp, Sem.run_bind, Sem.run_pure, hr, hset, Result.andThen_ok]
  rw [he, Oper.upon_skip]
  have e8 : a.put o.dst undef = a := by rw [hd]; rfl
  rw [e8]
  exact hK _ _ (k _ _ ⟨g', h2, ⟨hF.sz, hF.df, fun p hp hg => (hF.t p hp hg).mono h1, hF.u⟩⟩)
end
theorem cell_new (w : World) (cs : Array Value) (t : TypeId) (j : Nat) : (w.alloc (.cells cs t)).cell? ⟨w.heap.size, j, none⟩ = cs[j]? := by
  unfold World.cell?
  rw [show (w.alloc (.cells cs t)).heap[(⟨w.heap.size, j, none⟩ : Addr).block]? = some (.cells cs t) from new_at w _]
  rfl
theorem size_alloc (w : World) (o : Obj) : (w.alloc o).heap.size = w.heap.size + 1 := by show (w.heap.push o).size = _; simp
theorem cmpT_any (a b : ByteArray) (w : World) : Calls Tryz.prog 136 #[.string a, .string b] w fun e w' => e = .returned (.int .i64 (Lib.compareBytes a.data.toList b.data.toList)) ∧ w' = w := by
  go_enter Tryz.func136, Tryz.ntmps136
  go_wp2_with (first | (go_at_call 158; refine (cmp_any _ _ _).mono ?_; rintro e w' ⟨rfl, rfl⟩))
  go_ret
  exact ⟨rfl, rfl⟩
theorem ocmp_any (x y : List UInt8) (B : Nat) (A1 A2 : Option Addr) (c1 c2 : Nat) (w : World) (h1 : Rd byteE w B A1 x) (h2 : Rd byteE w B A2 y) : Calls Tryz.prog 110 #[.slice A1 x.length c1, .slice A2 y.length c2] w fun e w' => e = .returned (.int .i64 (Lib.compareBytes x y)) ∧ w' = w := by
  have r1 := run_str h1 x.length c1 rfl
  have r2 := run_str h2 y.length c2 rfl
  have hc := cmpT_any (strOf x) (strOf y) w
  have e1 : (strOf x).data.toList = x := rfl
  have e2 : (strOf y).data.toList = y := rfl
  rw [e1, e2] at hc
  generalize strOf x = s1 at *
  generalize strOf y = s2 at *
  go_enter Tryz.func110, Tryz.ntmps110
  go_wp2_with (first | (go_at_call 136; refine hc.mono ?_; rintro e w' ⟨rfl, rfl⟩))
  go_ret
  exact ⟨rfl, rfl⟩
set_option maxHeartbeats 1000000 in
set_option maxRecDepth 100000 in
theorem pcmp_any (x y : List UInt8) (hx : x.length = 32) (hy : y.length = 32) (W : World) : Calls Tryz.prog 81 #[.agg (x.map B8).toArray, .agg (y.map B8).toArray] W fun e w' => e = .returned (.int .i64 (Lib.compareBytes x y)) ∧ ∃ q os', w' = Sort.grow (W.drewN q) os' := by
  have mixed : Tryz.prog.follows .mixedOrders = true := by kernel_rfl
  have hcon : ∀ n os, Calls Tryz.prog 110 #[.slice (some ⟨W.heap.size, 0, none⟩) 32 32, .slice (some ⟨W.heap.size + 1, 0, none⟩) 32 32] (Sort.grow ((((W.alloc (.cells (x.map B8).toArray 24)).alloc (.cells (y.map B8).toArray 24))).drewN n) os) fun e w' => e = .returned (.int .i64 (Lib.compareBytes x y)) ∧ ∃ p : GrownBy, w' = Sort.grow ((((W.alloc (.cells (x.map B8).toArray 24)).alloc (.cells (y.map B8).toArray 24))).drewN p.n) p.os := fun n os => by
    have h1 : Rd byteE (Sort.grow ((((W.alloc (.cells (x.map B8).toArray 24)).alloc (.cells (y.map B8).toArray 24))).drewN n) os) (W.heap.size + 2) (some ⟨W.heap.size, 0, none⟩) x := .inr ⟨_, _, rfl, by omega, fun j u hj => by
      refine cell_grown (by simp; omega) ?_ n os
      rw [byteE_all] at hj
      refine Lib.cell?_alloc_some _ ?_
      rw [Nat.zero_add, cell_new, List.getElem?_toArray]
      exact hj⟩
    have h2 : Rd byteE (Sort.grow ((((W.alloc (.cells (x.map B8).toArray 24)).alloc (.cells (y.map B8).toArray 24))).drewN n) os) (W.heap.size + 2) (some ⟨W.heap.size + 1, 0, none⟩) y := .inr ⟨_, _, rfl, by omega, fun j u hj => by
      refine cell_grown (by simp) ?_ n os
      rw [byteE_all] at hj
      have := cell_new (W.alloc (.cells (x.map B8).toArray 24)) (y.map B8).toArray 24 j
      rw [size_alloc] at this
      rw [Nat.zero_add, this, List.getElem?_toArray]
      exact hj⟩
    have h := ocmp_any x y _ _ _ 32 32 _ h1 h2
    rw [hx, hy] at h
    exact h.mono fun e w' ⟨he, hw⟩ => ⟨he, ⟨n, os⟩, hw⟩
  go_enter Tryz.func81, Tryz.ntmps81
  go_wp2
  generalize hw2 : (W.alloc (.cells (x.map B8).toArray 24)).alloc (.cells (y.map B8).toArray 24) = W2 at hcon ⊢
  go_quiet_grown (first | (go_at_call 110; exact hcon _ _))
  go_wp2
  go_ret
  refine ⟨rfl, nq, #[.cells (x.map B8).toArray 24, .cells (y.map B8).toArray 24] ++ osq, ?_⟩
  rw [← hw2, Sort.alloc_eq_grow, Sort.alloc_eq_grow, Sort.grow_grow]
  show Sort.grow (Sort.grow (W.drewN nq) _) osq = _
  rw [Sort.grow_grow]; rfl
theorem op_ld {P : Program} {o : Oper} {a : Act} {w : World} {K : Act → World → Prop} {Q : Exit → Act → World → Prop} {t : TypeId} {p : Operand} {b : Nat} {v : Value} (hl : (loadVar t ⟨b, 0, none⟩).run P w = .ok v w) (ho : o.op = .load t p) (hp : a.eval p = .pointer (some ⟨b, 0, none⟩)) (k : K (a.put o.dst v) w) : Oper.wp P o a w K Q := by
  unfold Oper.wp
  have he : (execOp a.eval o).run P w = .ok (.value v) w := by
    obtain ⟨dst, op, ty, pos, after, gd⟩ := o
    dsimp only at ho
    subst ho
    simp [execOp, Instr.loadAt, Instr.sureAddr, hp, hl]
  rw [he, Oper.upon_value]
  exact k
abbrev Cel := {p : List UInt8 × Value // p.1.length = 32 ∧ p.2.oneCell' = true}
instance : Inhabited Cel := ⟨⟨(List.replicate 32 0, .int .i64 0), by decide, rfl⟩⟩
abbrev Pr := List UInt8 × List UInt8
abbrev prT : Ty := .cn (.ba 32) (.cn .sc .nl)
def prA (p : Pr) : AV := .st [.ba p.1, .bs p.2 none]
def K32 (l : List Pr) : Prop := ∀ x ∈ l, x.1.length = 32
def Dis (l : List Pr) : Prop := l.Pairwise fun x y => x.1 ≠ y.1
def Ris (l : List Pr) : Prop := l.Pairwise fun x y => ltB x.1 y.1
def ins (p : Pr) : List Pr → List Pr
  | [] => [p]
  | q :: l => if Lib.compareBytes p.1 q.1 < 0 then p :: q :: l else q :: ins p l
theorem ins_perm (p : Pr) : ∀ l, (ins p l).Perm (p :: l)
  | [] => .refl _
  | q :: l => by
    unfold ins
    split
    · exact .refl _
    exact ((ins_perm p l).cons q).trans (.swap p q l)
def srt (l : List Pr) : List Pr := l.foldr ins []
theorem srt_perm : ∀ l, (srt l).Perm l
  | [] => .refl _
  | p :: l => (ins_perm p (srt l)).trans ((srt_perm l).cons p)
theorem ris_uniq : ∀ l m : List Pr, Ris l → Ris m → l.Perm m → l = m
  | [], m, _, _, h => (List.nil_perm.1 h).symm
  | a :: l, [], _, _, h => absurd h.length_eq (by simp)
  | a :: l, b :: m, h1, h2, h => by
    obtain ⟨a1, a2⟩ := List.pairwise_cons.1 h1
    obtain ⟨b1, b2⟩ := List.pairwise_cons.1 h2
    have e : a = b := by
      rcases List.mem_cons.1 (h.mem_iff.1 List.mem_cons_self) with e | e
      · exact e
      rcases List.mem_cons.1 (h.symm.mem_iff.1 List.mem_cons_self) with e2 | e2
      · exact e2.symm
      exact ((a1 b e2).trans (b1 a e)).irr.elim
    subst e
    rw [ris_uniq l m a2 b2 (List.Perm.cons_inv h)]
section
variable {P : Program} {τ : Tab} {w0 w : World} {N : Gh} {g : Gh} {st : St} {nt : Nat} {a : Act}
end
def chkP : List (List UInt8) → List Pr → Nat
  | _, [] => 0
  | ks, p :: l => if 1024 < p.2.length then 4 else if p.1 ∈ ks then 6 else chkP (ks ++ [p.1]) l
def errP (l : List Pr) : Nat := if 4096 < l.length then 4 else chkP [] l
def keysP (l : List Pr) : List (List UInt8) := l.map (·.1)
theorem chkP_dis : ∀ (ks : List (List UInt8)) (l : List Pr), chkP ks l = 0 → Dis l ∧ ∀ x ∈ l, x.1 ∉ ks
  | _, [], _ => ⟨List.Pairwise.nil, fun x hx => by cases hx⟩
  | ks, p :: l, h => by
    unfold chkP at h
    split at h
    · cases h
    split at h
    · cases h
    rename_i hn
    obtain ⟨h1, h2⟩ := chkP_dis _ l h
    refine ⟨List.pairwise_cons.2 ⟨fun y hy e => h2 y hy (by simp [e]), h1⟩, fun x hx => ?_⟩
    rcases List.mem_cons.1 hx with rfl | hx
    · exact hn
    exact fun hm => h2 x hx (List.mem_append_left _ hm)
theorem chkP_cons (ks : List (List UInt8)) (l : List Pr) (k : Nat) (h : k < l.length) : chkP ks (l.drop k) = if 1024 < l[k].2.length then 4 else if l[k].1 ∈ ks then 6 else chkP (ks ++ [l[k].1]) (l.drop (k + 1)) := by
  rw [List.drop_eq_getElem_cons h]; rfl
theorem prA_get (l : List Pr) (k : Nat) (h : k < l.length) : (l.map prA).getD k .any = .st [.ba l[k].1, .bs l[k].2 none] := by simp [prA, List.getD_eq_getElem?_getD, h]
abbrev En := List UInt8 × List UInt8
def base (l : List En) : List UInt8 := match l with
  | [] => sum [0]
  | x :: _ => leafH x.1 x.2
def half (b : Bool) (d : Nat) (l : List En) : List En := l.filter fun x => bitN x.1 d == b
def rootA : Nat → Nat → List En → List UInt8
  | 0, _, l => base l
  | f + 1, d, l => if l.length < 2 then base l else innerH (rootA f (d + 1) (half false d l)) (rootA f (d + 1) (half true d l))
theorem rootA_len : ∀ f d l, (rootA f d l).length = 32
  | 0, _, [] => sum_length _
  | 0, _, _ :: _ => leafH_len _ _
  | f + 1, d, l => by
    unfold rootA
    split
    · exact rootA_len 0 d l
    exact innerH_len _ _
theorem rootA_small (f d : Nat) (l : List En) (h : l.length < 2) : rootA f d l = base l := by
  cases f with
  | zero => rfl
  | succ f => rw [rootA, if_pos h]
def Sep (d : Nat) (l : List En) : Prop := l.Pairwise fun x y => agree d x.1 y.1 ∧ ¬ agree 256 x.1 y.1
theorem Sep.side {d : Nat} {l : List En} (h : Sep d l) (b : Bool) : Sep (d + 1) (half b d l) := by
  unfold Sep half
  have h2 : (l.filter fun x => bitN x.1 d == b).Pairwise fun x y => agree d x.1 y.1 ∧ ¬ agree 256 x.1 y.1 := h.filter _
  refine List.Pairwise.imp_of_mem (fun {x y} hx hy hp => ⟨fun t ht => ?_, hp.2⟩) h2
  by_cases h1 : t < d
  · exact hp.1 t h1
  rw [show t = d by omega]
  have e1 : bitN x.1 d = b := by simpa using (List.mem_filter.1 hx).2
  have e2 : bitN y.1 d = b := by simpa using (List.mem_filter.1 hy).2
  rw [e1, e2]
theorem Sep.deep {d : Nat} {l : List En} (h : Sep d l) (hd : 256 ≤ d) : l.length < 2 := by
  match l, h with
  | [], _ => simp
  | [_], _ => simp
  | x :: y :: l, h =>
    exfalso
    have := (List.pairwise_cons.1 h).1 y List.mem_cons_self
    exact this.2 fun t ht => this.1 t (by omega)
def Rise (d : Nat) (l : List En) : Prop := l.Pairwise fun x y => agree d x.1 y.1 ∧ ltB x.1 y.1
theorem Rise.sep {d : Nat} {l : List En} (h : Rise d l) : Sep d l := List.Pairwise.imp (fun {x y} hp => ⟨hp.1, fun ha => by
  obtain ⟨c, hc, _, h2, h3⟩ := hp.2
  rw [ha c hc, h3] at h2; cases h2⟩) h
theorem Rise.side {d : Nat} {l : List En} (h : Rise d l) (b : Bool) : Rise (d + 1) (half b d l) := by
  have h1 := h.sep.side b
  have h2 : (half b d l).Pairwise fun x y => agree d x.1 y.1 ∧ ltB x.1 y.1 := h.filter _
  exact List.Pairwise.imp₂ (fun x y p q => ⟨q.1, p.2⟩) h2 h1
def partN (d : Nat) (l : List En) : Nat := (l.takeWhile fun x => !bitN x.1 d).length
theorem Rise.part {d : Nat} (hd : d < 256) : ∀ {l : List En}, Rise d l → half false d l = l.take (partN d l) ∧ half true d l = l.drop (partN d l)
  | [], _ => ⟨rfl, rfl⟩
  | x :: l, h => by
    obtain ⟨h1, h2⟩ := List.pairwise_cons.1 h
    obtain ⟨e1, e2⟩ := Rise.part hd h2
    cases hb : bitN x.1 d
    · have e : partN d (x :: l) = partN d l + 1 := by simp [partN, List.takeWhile_cons, hb]
      rw [e]
      refine ⟨?_, ?_⟩
      · rw [List.take_succ_cons, ← e1]; simp [half, List.filter_cons, hb]
      rw [List.drop_succ_cons, ← e2]; simp [half, List.filter_cons, hb]
    have e : partN d (x :: l) = 0 := by simp [partN, List.takeWhile_cons, hb]
    have hall : ∀ y ∈ l, bitN y.1 d = true := fun y hy => by
      obtain ⟨ha, c, hc, g1, g2, g3⟩ := h1 y hy
      rcases Nat.lt_trichotomy c d with hl | rfl | hg
      · have := ha c hl; rw [g2, g3] at this; cases this
      · rw [hb] at g2; cases g2
      rw [← g1 d hg]; exact hb
    rw [e]
    refine ⟨?_, ?_⟩
    · rw [List.take_zero]
      simp only [half, List.filter_cons, hb]
      simp only [Bool.true_beq, Bool.false_eq_true, if_false]
      refine List.filter_eq_nil_iff.2 fun y hy => ?_
      simp [hall y hy]
    rw [List.drop_zero]
    refine List.filter_eq_self.2 fun y hy => ?_
    rcases List.mem_cons.1 hy with rfl | hy
    · simp [hb]
    simp [hall y hy]
theorem half_mem {b : Bool} {d : Nat} {l : List En} {x : En} (h : x ∈ half b d l) : x ∈ l := (List.mem_filter.1 h).1
def Wd (l : List En) : Prop := ∀ x ∈ l, x.1.length = 32 ∧ x.2.length = 32
theorem Wd.half {l : List En} (h : Wd l) (b : Bool) (d : Nat) : Wd (half b d l) := fun x hx => h x (half_mem hx)
def dgs (l : List Pr) : List En := l.map fun p => (p.1, valH p.2)
def V0 (l : List Pr) : Prop := ∀ x ∈ l, x.2.length ≤ 34359730000
theorem dgs_len (l : List Pr) : (dgs l).length = l.length := by simp [dgs]
theorem V0.take {l : List Pr} (h : V0 l) (n : Nat) : V0 (l.take n) := fun x hx => h x (List.mem_of_mem_take hx)
theorem V0.drop {l : List Pr} (h : V0 l) (n : Nat) : V0 (l.drop n) := fun x hx => h x (List.mem_of_mem_drop hx)
theorem K32.take {l : List Pr} (h : K32 l) (n : Nat) : K32 (l.take n) := fun x hx => h x (List.mem_of_mem_take hx)
theorem K32.drop {l : List Pr} (h : K32 l) (n : Nat) : K32 (l.drop n) := fun x hx => h x (List.mem_of_mem_drop hx)
def endsP (l : List Pr) : Nat := com (l.getD 0 ([], [])).1 (l.getD (l.length - 1) ([], [])).1
def rootE (l : List Pr) (d : Int) : List UInt8 × Nat :=
  if d < 0 ∨ 256 < d then (z32, 2) else if errP l ≠ 0 then (z32, errP l) else if 1 < l.length ∧ (endsP (srt l) : Int) < d then (z32, 2) else (rootA (256 - d.toNat) d.toNat (dgs (srt l)), 0)
theorem chkP_vals : ∀ (ks : List (List UInt8)) (l : List Pr), chkP ks l = 0 → ∀ x ∈ l, x.2.length ≤ 1024
  | _, [], _, x, hx => by cases hx
  | ks, p :: l, h, x, hx => by
    unfold chkP at h
    split at h
    · cases h
    split at h
    · cases h
    rcases List.mem_cons.1 hx with rfl | hx
    · omega
    exact chkP_vals _ l h x hx
theorem errP_ok {l : List Pr} (h : errP l = 0) : l.length ≤ 4096 ∧ Dis l ∧ ∀ x ∈ l, x.2.length ≤ 1024 := by
  unfold errP at h
  split at h
  · cases h
  exact ⟨by omega, (chkP_dis _ _ h).1, chkP_vals _ _ h⟩
def wayA (key : List UInt8) : Nat → Nat → List En → List (List UInt8)
  | 0, _, _ => []
  | f + 1, d, l => if l.length < 2 then [] else rootA f (d + 1) (half (!bitN key d) d l) :: wayA key f (d + 1) (half (bitN key d) d l)
def endB (l : List En) : Nd := match l with
  | [] => Nd.zero
  | x :: _ => Nd.one x.1 x.2
def endA (key : List UInt8) : Nat → Nat → List En → Nd
  | 0, _, l => endB l
  | f + 1, d, l => if l.length < 2 then endB l else endA key f (d + 1) (half (bitN key d) d l)
theorem wayA_small (key : List UInt8) (f d : Nat) (l : List En) (h : l.length < 2) : wayA key f d l = [] := by cases f with
  | zero => rfl
  | succ f => rw [wayA, if_pos h]
theorem endA_small (key : List UInt8) (f d : Nat) (l : List En) (h : l.length < 2) : endA key f d l = endB l := by cases f with
  | zero => rfl
  | succ f => rw [endA, if_pos h]
def halfP (b : Bool) (d : Nat) (l : List Pr) : List Pr := l.filter fun x => bitN x.1 d == b
theorem halfP_dgs (b : Bool) (d : Nat) (l : List Pr) : dgs (halfP b d l) = half b d (dgs l) := by
  unfold dgs halfP half
  rw [List.filter_map]; rfl
theorem halfP_le (b : Bool) (d : Nat) (l : List Pr) : (halfP b d l).length ≤ l.length := List.length_filter_le _ _
theorem halfP_yes (b : Bool) (d : Nat) (l : List Pr) (k : Nat) (hk : k < l.length) (h : bitN l[k].1 d = b) : halfP b d (l.take (k + 1)) = halfP b d (l.take k) ++ [l[k]] := by
  unfold halfP; rw [List.take_succ_eq_append_getElem hk, List.filter_append]; congr 1; simp [List.filter_cons, h]
theorem halfP_no (b : Bool) (d : Nat) (l : List Pr) (k : Nat) (hk : k < l.length) (h : bitN l[k].1 d = !b) : halfP b d (l.take (k + 1)) = halfP b d (l.take k) := by
  unfold halfP; rw [List.take_succ_eq_append_getElem hk, List.filter_append]; simp [List.filter_cons, h]
theorem rootA_perm : ∀ (f d : Nat) (l m : List En), f + d = 256 → Sep d l → l.Perm m → rootA f d l = rootA f d m := by
  have small : ∀ (l m : List En), l.length < 2 → l.Perm m → l = m := fun l m hl hp => by
    match l, hl with
    | [], _ => exact (List.nil_perm.1 hp).symm
    | [x], _ => exact (List.singleton_perm.1 hp)
  intro f
  induction f with
  | zero => intro d l m hd hs hp; rw [small l m (hs.deep (by omega)) hp]
  | succ f ih =>
    intro d l m hd hs hp
    by_cases h : l.length < 2
    · rw [small l m h hp]
    rw [rootA, rootA, if_neg h, if_neg (by rw [← hp.length_eq]; exact h), ih (d + 1) _ _ (by omega) (hs.side false) (hp.filter _), ih (d + 1) _ _ (by omega) (hs.side true) (hp.filter _)]
    rfl
theorem prs_app (l : List Pr) (x : Pr) : (l ++ [x]).map prA = l.map prA ++ [.st [.ba x.1, .bs x.2 none]] := by simp [prA]
set_option maxRecDepth 20000 in
set_option maxHeartbeats 1000000 in
theorem sideR_v (l : List Pr) (hw : K32 l) (b : Bool) (c : Int) (hc : c = if b then 1 else 0) (d : Nat) (hd : d < 256) (hl : l.length ≤ 34359730000) : VC Tryz.prog 102 [.sl prT (l.map prA) none, .v (.int .i64 (d : Int)), .v (.int .i64 c)] [] (.sl prT ((halfP b d l).map prA) none) := by
  have hxl : (l.map prA).length = l.length := List.length_map ..
  refine mE Tryz.func102 ?_; intro N w0 a w hN hR H
  refine mW ?_; clear H; intro a w H
  have H := v_nilE tab_ok H 7 53 (j := ti53) prT rfl (by decide) (by rfl)
  refine v_loop (fun k : Nat => ⟨[(8, none, .v (.int .i64 (k : Int))), (7, none, .sl prT ((halfP b d (l.take k)).map prA) (some 0)), (0, none, .sl prT (l.map prA) none), (1, none, .v (.int .i64 (d : Int))), (2, none, .v (.int .i64 c))], [], [], [(53, (halfP b d (l.take k)).length)]⟩) (fun k => k ≤ l.length) (fun k => l.length - k) 0 (Nat.zero_le _) (H.to 0 1 ⟨Nat.le_trans hN (by decide), Nat.le_trans hR (by decide)⟩ ⟨rfl, rfl, rfl, rfl, rfl, trivial⟩ rfl rfl rfl rfl rfl) ?_
  clear H
  intro k a w hk H
  have hh1 : (halfP b d (l.take k)).length ≤ l.length := Nat.le_trans (halfP_le _ _ _) (List.length_take_le' _ _)
  have hx1 : ((halfP b d (l.take k)).map prA).length = (halfP b d (l.take k)).length := List.length_map ..
  have hX := @hxl
  refine mW ?_; clear H; intro a w H
  refine mC H (fun hb => ?_) (fun hb => ?_)
  · have hlt : k < l.length := by rw [decide_eq_true_eq] at hb; omega
    clear hb
    have g1 := prA_get l k hlt
    have w1 := hw _ (List.getElem_mem hlt)
    have hbit := bitR_v l[k].1 w1 (d : Int)
    have hpb : pbit l[k].1 (d : Int) = if bitN l[k].1 d then 1 else 0 := by unfold pbit; rw [if_pos (by omega), Int.toNat_natCast]
    have q1 := halfP_yes b d l k hlt
    have q2 := halfP_no b d l k hlt
    have q3 := prs_app (halfP b d (l.take k)) l[k]
    generalize l[k] = p at *
    obtain ⟨kb, vb⟩ := p
    dsimp only at g1 w1 hbit hpb q1 q2 q3
    refine mS ?_
    clear hX; have hX := And.intro @hxl (And.intro @hx1 (@g1))
    have hY := @w1
    (try refine wp_region_lit ?_); refine mN 3 hN H ?_; clear H; intro a w H
    refine mW ?_; clear H; intro a w H
    refine mCall [] [] (hbit) H ?_; clear H; intro a w H; try refine wpList_nil ?_
    refine mW ?_; clear H; intro a w H
    cases hbb : bitN kb d == b with
    | true =>
      have hbe : bitN kb d = b := by simpa using hbb
      have q1 := q1 hbe
      have he : decide (pbit kb (d : Int) = c) = true := by rw [hpb, hc, hbe]; simp
      simp only [he] at H
      refine mC H (fun hb => ?_) (fun hb => ?_)
      · refine mS ?_
        (try refine wp_region_lit ?_); refine mN 4 hN H ?_; clear H; intro a w H
        refine mW ?_; clear H; intro a w H
        exact ⟨k + 1, hlt, by omega, H.to 0 1 ⟨Nat.le_trans hN (by decide), Nat.le_trans hR (by decide)⟩ ⟨rfl, by rw [q1, q3]; rfl, rfl, rfl, rfl, trivial⟩ rfl (by rw [q1, List.length_append]; rfl) rfl rfl rfl⟩
      cases hb
    | false =>
      have hbe : bitN kb d = !b := by
        cases h1 : bitN kb d <;> cases h2 : b <;> rw [h1, h2] at hbb <;> first | rfl | cases hbb
      have q2 := q2 hbe
      have he : decide (pbit kb (d : Int) = c) = false := by rw [hpb, hc, hbe]; cases b <;> simp
      simp only [he] at H
      refine mC H (fun hb => ?_) (fun hb => ?_)
      · cases hb
      refine mW ?_; clear H; intro a w H
      exact ⟨k + 1, hlt, by omega, H.to 0 1 ⟨Nat.le_trans hN (by decide), Nat.le_trans hR (by decide)⟩ ⟨rfl, by rw [q2]; rfl, rfl, rfl, rfl, trivial⟩ rfl (by rw [q2]; rfl) rfl rfl rfl⟩
  have hge : k = l.length := by rw [decide_eq_false_iff_not] at hb; omega
  subst hge
  rw [List.take_length] at H
  clear hX
  refine mW ?_; clear H; intro a w H
  refine wp_ret ?_; exact mEnd [] [] [.tmp 6] [_] hN hR H
theorem K32.half {l : List Pr} (h : K32 l) (b : Bool) (d : Nat) : K32 (halfP b d l) := fun x hx => h x (List.mem_filter.1 hx).1
theorem V0.half {l : List Pr} (h : V0 l) (b : Bool) (d : Nat) : V0 (halfP b d l) := fun x hx => h x (List.mem_filter.1 hx).1
set_option maxRecDepth 20000 in
theorem atP_small (f d : Nat) (l : List Pr) (hs : l.length < 2) (hw : K32 l) (hv : V0 l) : VC Tryz.prog 65 [.sl prT (l.map prA) none, .v (.int .i64 (d : Int))] [] (.ba (rootA f d (dgs l))) := by
  rw [rootA_small f d _ (by rw [dgs_len]; exact hs)]
  match l, hs with
  | [], _ =>
    have hsl := sum_length [0]
    refine mE Tryz.func65 ?_; intro N w0 a w hN hR H
    simp only [List.map_nil] at H
    refine mW ?_; clear H; intro a w H
    refine mC H (fun hb => ?_) (fun hb => ?_)
    · refine mW ?_; clear H; intro a w H
      refine mCall [] [] (emptyR_v) H ?_; clear H; intro a w H; try refine wpList_nil ?_
      refine mW ?_; clear H; intro a w H
      refine wp_ret ?_; exact mEnd [] [] [.cell 4 23] [_] hN hR H
    simp at hb
  | [x], _ =>
    have h1 := hw x List.mem_cons_self
    have h2 := valueR_v x.2 (hv x List.mem_cons_self)
    have h3 := valH_len x.2
    have hlf := leafHR_v x.1 (valH x.2) h1 h3
    have hsl := leafH_len x.1 (valH x.2)
    obtain ⟨kb, vb⟩ := x
    dsimp only at h1 h2 h3 hlf hsl
    refine mE Tryz.func65 ?_; intro N w0 a w hN hR H
    simp only [List.map_cons, List.map_nil, prA] at H
    refine mW ?_; clear H; intro a w H
    refine mC H (fun hb => ?_) (fun hb => ?_)
    · simp at hb
    refine mW ?_; clear H; intro a w H
    refine mC H (fun hb => ?_) (fun hb => ?_)
    · refine mW ?_; clear H; intro a w H
      refine mS ?_; refine mD 0 [8, 9, 10] [0, 1, 2, 3] H ?_; clear H; intro gS H; refine mT ?_; clear H; intro a w H
      refine mCallT [] [] (h2) H ?_; clear H; intro a w H
      refine mT ?_; clear H; intro a w H
      refine mCallT [] [] (hlf) H ?_; clear H; intro a w H
      refine mT ?_; clear H; intro a w H
      refine v_drawNil H ?_; clear H; intro H
      refine wp_ret ?_; exact mEnd [] [] [.cell 4 23] [_] hN hR H
    simp at hb
set_option maxRecDepth 20000 in
set_option maxHeartbeats 1000000 in
theorem atP_v : ∀ (f d : Nat) (l : List Pr), f + d = 256 → Sep d (dgs l) → K32 l → V0 l → l.length ≤ 34359730000 →
    VC Tryz.prog 65 [.sl prT (l.map prA) none, .v (.int .i64 (d : Int))] [] (.ba (rootA f d (dgs l))) := by
  intro f
  induction f with
  | zero =>
    intro d l hd hr hw hv hl
    exact atP_small 0 d l (by have := hr.deep (by omega); rwa [dgs_len] at this) hw hv
  | succ f ih =>
    intro d l hd hr hw hv hl
    by_cases hs : l.length < 2
    · exact atP_small _ d l hs hw hv
    rw [rootA, if_neg (by rw [dgs_len]; exact hs)]
    have hxl : (l.map prA).length = l.length := List.length_map ..
    have s0 := sideR_v l hw false 0 rfl d (by omega) hl
    have s1 := sideR_v l hw true 1 rfl d (by omega) hl
    have r0 := hr.side false
    have r1 := hr.side true
    rw [← halfP_dgs] at r0 r1
    rw [← halfP_dgs, ← halfP_dgs]
    have c1 := ih (d + 1) (halfP false d l) (by omega) r0 (hw.half _ _) (hv.half _ _) (Nat.le_trans (halfP_le _ _ _) hl)
    have c2 := ih (d + 1) (halfP true d l) (by omega) r1 (hw.half _ _) (hv.half _ _) (Nat.le_trans (halfP_le _ _ _) hl)
    have e1 := rootA_len f (d + 1) (dgs (halfP false d l))
    have e2 := rootA_len f (d + 1) (dgs (halfP true d l))
    generalize rootA f (d + 1) (dgs (halfP false d l)) = a1 at *
    generalize rootA f (d + 1) (dgs (halfP true d l)) = a2 at *
    have hin := innerHR_v a1 a2 e1 e2
    have hsl := innerH_len a1 a2
    clear ih r0 r1
    generalize halfP false d l = l0 at *
    generalize halfP true d l = l1 at *
    refine mE Tryz.func65 ?_; intro N w0 a w hN hR H
    have hX := @hxl
    refine mW ?_; clear H; intro a w H
    refine mC H (fun hb => ?_) (fun hb => ?_)
    · exfalso; rw [decide_eq_true_eq] at hb; omega
    refine mW ?_; clear H; intro a w H
    refine mC H (fun hb => ?_) (fun hb => ?_)
    · exfalso; rw [decide_eq_true_eq] at hb; omega
    refine mW ?_; clear H; intro a w H
    refine mCall [] [] (s0) H ?_; clear H; intro a w H; try refine wpList_nil ?_
    refine mW ?_; clear H; intro a w H
    refine mCall [] [] (c1) H ?_; clear H; intro a w H; try refine wpList_nil ?_
    refine mW ?_; clear H; intro a w H
    refine mCall [] [] (s1) H ?_; clear H; intro a w H; try refine wpList_nil ?_
    refine mW ?_; clear H; intro a w H
    refine mCall [] [] (c2) H ?_; clear H; intro a w H; try refine wpList_nil ?_
    refine mW ?_; clear H; intro a w H
    refine mCall [] [] (hin) H ?_; clear H; intro a w H; try refine wpList_nil ?_
    refine mW ?_; clear H; intro a w H
    refine wp_ret ?_; exact mEnd [] [] [.cell 4 23] [_] hN hR H
set_option maxRecDepth 20000 in
set_option maxHeartbeats 1000000 in
theorem listR_v (l : List Pr) (hk : K32 l) (hl : l.length ≤ 34359730000) : VC Tryz.prog 64 [.sl prT (l.map prA) none] [] (.v (.int .i64 (errP l : Int))) := by
  have hlm : (l.map prA).length = l.length := List.length_map ..
  refine mE Tryz.func64 ?_; intro N w0 a w hN hR H
  have hX := @hlm
  refine mW ?_; clear H; intro a w H
  refine mC H (fun hb => ?_) (fun hb => ?_)
  · have he : errP l = 4 := by unfold errP; rw [if_pos (by simp at hb; omega)]
    rw [he]
    refine mW ?_; clear H; intro a w H
    refine wp_ret ?_; exact mEnd [] [] [.tmp 2] [_] hN hR H
  have hle : l.length ≤ 4096 := by simp at hb; omega
  have he : errP l = chkP [] l := by unfold errP; rw [if_neg (by omega)]
  clear hb
  replace H := mK [0, 2] 0 0 hN hR H
  refine mW ?_; clear H; intro a w H
  refine v_loop (fun k : Nat => ⟨[(3, none, .v (.int .i64 (k : Int))), (2, none, .v (.int .i64 0)), (0, none, .sl prT (l.map prA) none)], [], [], []⟩) (fun k => k ≤ l.length ∧ chkP (keysP (l.take k)) (l.drop k) = chkP [] l) (fun k => l.length - k) 0 ⟨Nat.zero_le _, rfl⟩ (H.to 0 0 ⟨hN, hR⟩ ⟨rfl, rfl, rfl, trivial⟩ rfl rfl rfl rfl rfl) ?_
  clear H
  rintro k a w ⟨hk1, hk2⟩ H
  refine mW ?_; clear H; intro a w H
  refine mC H (fun hb => ?_) (fun hb => ?_)
  · have hlt : k < l.length := by simpa using hb
    clear hb
    have hg := prA_get l k hlt
    have hp32 := hk _ (List.getElem_mem hlt)
    have hstep := chkP_cons (keysP (l.take k)) l k hlt
    rw [hk2] at hstep
    have htk : keysP (l.take (k + 1)) = keysP (l.take k) ++ [l[k].1] := by unfold keysP; rw [List.take_succ_eq_append_getElem hlt, List.map_append]; rfl
    obtain ⟨p, hpp⟩ : ∃ p, p = l[k] := ⟨_, rfl⟩
    rw [← hpp] at hg hp32 hstep htk
    obtain ⟨kb, vb⟩ := p
    dsimp only at hg hp32 hstep htk
    refine mS ?_
    clear hX; have hX := And.intro @hlm (@hg)
    (try refine wp_region_lit ?_); refine mN 3 hN H ?_; clear H; intro a w H
    refine mW ?_; clear H; intro a w H
    refine mC H (fun hb => ?_) (fun hb => ?_)
    · have hv : 1024 < vb.length := by simp at hb; omega
      have he4 : errP l = 4 := by rw [he, hstep, if_pos hv]
      rw [he4]
      refine mW ?_; clear H; intro a w H
      refine wp_ret ?_; exact mEnd [] [] [.tmp 2] [_] hN hR H
    have hv : ¬ 1024 < vb.length := by simp at hb; omega
    clear hb
    rw [if_neg hv] at hstep
    replace H := mK [0, 2, 3] 0 0 hN hR H
    refine mW ?_; clear H; intro a w H
    refine v_loop (fun j : Nat => ⟨[(4, none, .v (.int .i64 (j : Int))), (3, none, .v (.int .i64 (k : Int))), (2, none, .v (.int .i64 0)), (0, none, .sl prT (l.map prA) none)], [], [], []⟩) (fun j => j ≤ k ∧ kb ∉ keysP (l.take j)) (fun j => k - j) 0 ⟨Nat.zero_le _, by simp [keysP]⟩ (H.to 0 0 ⟨hN, hR⟩ ⟨rfl, rfl, rfl, rfl, trivial⟩ rfl rfl rfl rfl rfl) ?_
    clear H
    rintro j a w ⟨hj1, hj2⟩ H
    refine mW ?_; clear H; intro a w H
    refine mC H (fun hb => ?_) (fun hb => ?_)
    · have hjt : j < k := by simpa using hb
      clear hb
      have hjl : j < l.length := by omega
      have hgj := prA_get l j hjl
      have htj : keysP (l.take (j + 1)) = keysP (l.take j) ++ [l[j].1] := by unfold keysP; rw [List.take_succ_eq_append_getElem hjl, List.map_append]; rfl
      have hmj : l[j].1 ∈ keysP (l.take k) := by
        unfold keysP
        exact List.mem_map.2 ⟨l[j], List.mem_take_iff_getElem.2 ⟨j, by omega, rfl⟩, rfl⟩
      have hj32 := hk _ (List.getElem_mem hjl)
      generalize l[j] = q at *
      obtain ⟨kj, vj⟩ := q
      dsimp only at hgj htj hmj hj32
      have hee : (kj = kb) = (kj = kb) := rfl
      clear hX; have hX := And.intro @hlm (And.intro @hg (@hgj))
      have hY := And.intro @hp32 (@hj32)
      refine mS ?_; refine mD 0 [] [] H ?_; clear H; intro gS H
      refine mTN 3 hN H ?_; clear H; intro a w H; simp only [drL]
      refine mTN 5 hN H ?_; clear H; intro a w H; simp only [drL]
      refine mT ?_; clear H; intro a w H
      refine v_drawNil H ?_; clear H; intro H
      refine mC H (fun hb => ?_) (fun hb => ?_)
      · have hkk : kj = kb := by simpa using hb
        have he6 : errP l = 6 := by rw [he, hstep, if_pos (hkk ▸ hmj)]
        rw [he6]
        refine mW ?_; clear H; intro a w H
        refine wp_ret ?_; exact mEnd [] [] [.tmp 2] [_] hN hR H
      have hkk : kj ≠ kb := by simpa using hb
      clear hb
      clear hX; have hX := And.intro @hlm (@hg)
      clear hY
      refine mW ?_; clear H; intro a w H
      exact ⟨j + 1, ⟨hjt, by rw [htj]; intro hm; rcases List.mem_append.1 hm with hm | hm; exact hj2 hm; exact hkk (List.mem_singleton.1 hm).symm⟩, by omega, H.to 0 0 ⟨hN, hR⟩ ⟨rfl, rfl, rfl, rfl, trivial⟩ rfl rfl rfl rfl rfl⟩
    have hje : j = k := by simp at hb; omega
    clear hb
    subst hje
    rw [if_neg hj2] at hstep
    refine mW ?_; clear H; intro a w H
    exact ⟨j + 1, ⟨hlt, by rw [htk, ← hstep]⟩, by omega, H.to 0 0 ⟨hN, hR⟩ ⟨rfl, rfl, rfl, trivial⟩ rfl rfl rfl rfl rfl⟩
  have hge : k = l.length := by simp at hb; omega
  clear hb
  subst hge
  rw [List.drop_length] at hk2
  have he0 : errP l = 0 := by rw [he, ← hk2]; rfl
  rw [he0]
  refine mW ?_; clear H; intro a w H
  refine wp_ret ?_; exact mEnd [] [] [.tmp 2] [_] hN hR H
theorem sep_of (l : List Pr) (hk : K32 l) (hd : Dis l) (d : Nat) (h : ∀ x ∈ l, ∀ y ∈ l, agree d x.1 y.1) : Sep d (dgs l) := by
  unfold Sep dgs
  rw [List.pairwise_map]
  exact List.Pairwise.imp_of_mem (fun {x y} hx hy hp => ⟨h x hx y hy, fun ha => hp (agree_eq (hk x hx) (hk y hy) ha)⟩) hd
theorem root_srt (l : List Pr) (hk : K32 l) (hd : Dis l) (f d : Nat) (hf : f + d = 256) (h : ∀ x ∈ l, ∀ y ∈ l, agree d x.1 y.1) : rootA f d (dgs (srt l)) = rootA f d (dgs l) :=
  (rootA_perm f d (dgs l) (dgs (srt l)) hf (sep_of l hk hd d h) ((srt_perm l).symm.map _)).symm
theorem rootR_v (l : List Pr) (hk : K32 l) (hl : l.length ≤ 34359730000) : VC Tryz.prog 26 [.sl prT (l.map prA) none] [] (.tup [.ba (rootE l 0).1, .v (.int .i64 ((rootE l 0).2 : Int))]) := by
  have hs := listR_v l hk hl
  have hlm : (l.map prA).length = l.length := List.length_map ..
  refine mE Tryz.func26 ?_; intro N w0 a w hN hR H
  refine mW ?_; clear H; intro a w H
  refine mCall [] [] (hs) H ?_; clear H; intro a w H; try refine wpList_nil ?_
  refine mW ?_; clear H; intro a w H
  by_cases he : errP l = 0
  · obtain ⟨hle, hdis, hvals⟩ := errP_ok he
    have hv0 : V0 l := fun x hx => Nat.le_trans (hvals x hx) (by decide)
    have hall : ∀ x ∈ l, ∀ y ∈ l, agree 0 x.1 y.1 := fun x _ y _ t ht => absurd ht (Nat.not_lt_zero t)
    have hro : rootE l 0 = (rootA 256 0 (dgs l), 0) := by
      unfold rootE
      rw [if_neg (by omega), if_neg (show ¬ errP l ≠ 0 by omega), if_neg (fun h => by omega)]
      show (rootA 256 0 (dgs (srt l)), 0) = _
      rw [root_srt l hk hdis 256 0 (by omega) hall]
    have hat := atP_v 256 0 l (by omega) (sep_of l hk hdis 0 hall) hk hv0 hl
    have hrl := rootA_len 256 0 (dgs l)
    rw [hro]
    rw [he] at H
    generalize rootA 256 0 (dgs l) = r at *
    refine mC H (fun hb => ?_) (fun hb => ?_)
    · simp at hb
    clear hb
    have hX := @hrl
    refine mW ?_; clear H; intro a w H
    refine mCall [] [] (hat) H ?_; clear H; intro a w H; try refine wpList_nil ?_
    refine mW ?_; clear H; intro a w H
    refine wp_ret ?_; exact mEnd [] [] [.cell 2 33, .tmp 3] [_, _] hN hR H
  have hro : rootE l 0 = (z32, errP l) := by unfold rootE; rw [if_neg (by omega), if_pos he]
  rw [hro]
  generalize errP l = er at *
  refine mC H (fun hb => ?_) (fun hb => ?_)
  · have hX := @hlm
    refine mW ?_; clear H; intro a w H
    refine wp_ret ?_; exact mEnd [] [] [.cell 2 33, .tmp 3] [_, _] hN hR H
  simp at hb; omega
theorem Slb.at_push (s : Slb) (n : SN) (h : Int) : (s.push n).at_ h = if h = (s.sl.length : Int) + 1 then some (n, 1) else s.at_ h := by
  unfold Slb.at_ Slb.push
  dsimp only
  by_cases h1 : 1 ≤ h
  · rw [if_pos h1]
    by_cases h2 : h = (s.sl.length : Int) + 1
    · subst h2
      rw [if_pos rfl, show ((s.sl.length : Int) + 1 - 1).toNat = s.sl.length by omega, List.getElem?_append_right (Nat.le_refl _), Nat.sub_self]; rfl
    rw [if_neg h2, if_pos h1]
    by_cases h3 : (h - 1).toNat < s.sl.length
    · rw [List.getElem?_append_left h3]
    rw [List.getElem?_append_right (by omega), List.getElem?_eq_none (by simp; omega), List.getElem?_eq_none (by omega)]
  rw [if_neg h1, if_neg h1, if_neg (by omega)]
theorem Slb.at_set (s : Slb) (h : Int) (n x : SN) (c : Nat) (hat : s.at_ h = some (x, c)) (k : Int) : (s.set_ h n).at_ k = if k = h then some (n, c) else s.at_ k := by
  obtain ⟨i, hi, hlt, hx⟩ := Slb.at_some hat
  rw [Slb.set_some hat hi n]
  subst hi
  unfold Slb.at_
  dsimp only
  by_cases h1 : 1 ≤ k
  · rw [if_pos h1, if_pos h1, List.getElem?_set]
    by_cases h2 : k = (i : Int) + 1
    · subst h2
      rw [if_pos (by omega), if_pos rfl, if_pos hlt]; rfl
    rw [if_neg (by omega), if_neg h2]
  rw [if_neg h1, if_neg h1, if_neg (by omega)]
theorem Slb.at_call (s : Slb) (h b : Int) (k : Int) : (s.call_ h b).at_ k = if k = h then (s.at_ k).map fun p => ({ p.1 with hd := p.1.hd + b }, p.2) else s.at_ k := by
  unfold Slb.call_
  cases hat : s.at_ h with
  | none =>
    rw [if_neg (by unfold Slb.ok_; rw [hat]; decide)]
    split
    · rename_i e; rw [e, hat]; rfl
    rfl
  | some p =>
    obtain ⟨x, c⟩ := p
    rw [if_pos (by unfold Slb.ok_; rw [hat]; rfl), Slb.at_set s h _ x c hat k]
    split
    · rename_i e; rw [e, hat]
      have : s.get_ h = x := by unfold Slb.get_; rw [hat]
      rw [this]; rfl
    rfl
theorem Slb.call_dim (s : Slb) (h b : Int) : (s.call_ h b).sl.length = s.sl.length ∧ (s.call_ h b).m = s.m ∧ (s.call_ h b).used = s.used ∧ (s.call_ h b).room = s.room := by
  unfold Slb.call_ Slb.set_
  split
  · split
    · exact ⟨List.length_set, rfl, rfl, rfl⟩
    exact ⟨rfl, rfl, rfl, rfl⟩
  exact ⟨rfl, rfl, rfl, rfl⟩
theorem Slb.wf_at {s : Slb} (hr : 0 < s.room ∧ s.room ≤ 65536) (hl : s.sl.length ≤ 65536) (h : ∀ k x c, s.at_ k = some (x, c) → 0 < c ∧ c ≤ 1073741824 ∧ x.wf) : s.wf := by
  refine ⟨hr, hl, fun x c hx => ?_⟩
  obtain ⟨i, hi⟩ := List.getElem?_of_mem hx
  refine h ((i : Int) + 1) x c ?_
  unfold Slb.at_
  rw [if_pos (by omega), show ((i : Int) + 1 - 1).toNat = i by omega, hi]; rfl
theorem Slb.push_wf {s : Slb} (hs : s.wf) {n : SN} (hn : n.wf) (hl : s.sl.length < 65536) : (s.push n).wf := by
  refine Slb.wf_at hs.room (by unfold Slb.push; simp; omega) fun k x c hk => ?_
  rw [Slb.at_push] at hk
  split at hk
  · injection hk with hk; injection hk with h1 h2; subst h1 h2; exact ⟨by decide, by decide, hn⟩
  exact Slb.at_pos hs hk
theorem Slb.call_wf {s : Slb} (hs : s.wf) (h b : Int) : (s.call_ h b).wf := by
  obtain ⟨d1, d2, d3, d4⟩ := Slb.call_dim s h b
  refine Slb.wf_at (by rw [d4]; exact hs.room) (by rw [d1]; exact hs.len) fun k x c hk => ?_
  rw [Slb.at_call] at hk
  split at hk
  · cases ha : s.at_ k with
    | none => rw [ha] at hk; cases hk
    | some p =>
      obtain ⟨y, c'⟩ := p
      rw [ha] at hk
      simp only [Option.map_some, Option.some.injEq, Prod.mk.injEq] at hk
      obtain ⟨rfl, rfl⟩ := hk
      obtain ⟨p1, p2, p3, p4, p5⟩ := Slb.at_pos hs ha
      exact ⟨p1, p2, p3, p4, p5⟩
  exact Slb.at_pos hs hk
def IsB (s : Slb) (l : List Pr) (h : Int) : Prop := match l with
  | [] => h = 0
  | x :: _ => ∃ hd c, s.at_ h = some (leafN x.1 x.2 hd, c)
def hdK (l : List Pr) : List UInt8 := match l with
  | [] => []
  | x :: _ => x.1
def Is (s : Slb) : Nat → Nat → List Pr → Int → Prop
  | 0, _, l, h => IsB s l h
  | f + 1, d, l, h => if l.length < 2 then IsB s l h else
      ∃ lh rh hd c, s.at_ h = some (inN (rootA (f + 1) d (dgs l)) d (fillL (hdK l) d false) lh rh (l.length : Int) hd, c) ∧ Is s f (d + 1) (halfP false d l) lh ∧ Is s f (d + 1) (halfP true d l) rh
def Slb.Sub (s t : Slb) : Prop := ∀ h x c, s.at_ h = some (x, c) → ∃ hd c', t.at_ h = some ({ x with hd := hd }, c')
theorem Slb.Sub.trans {s t u : Slb} (h : s.Sub t) (k : t.Sub u) : s.Sub u := fun a x c ha => by
  obtain ⟨hd, c', h1⟩ := h a x c ha
  obtain ⟨hd2, c2, h2⟩ := k a _ _ h1
  exact ⟨hd2, c2, h2⟩
theorem Slb.Sub.push (s : Slb) (n : SN) : s.Sub (s.push n) := fun h x c hx => by
  refine ⟨x.hd, c, ?_⟩
  obtain ⟨i, hi, hlt, _⟩ := Slb.at_some hx
  rw [Slb.at_push, if_neg (by omega), hx]
theorem Slb.Sub.call (s : Slb) (k b : Int) : s.Sub (s.call_ k b) := fun h x c hx => by
  rw [Slb.at_call]
  split
  · rw [hx]; exact ⟨x.hd + b, c, rfl⟩
  exact ⟨x.hd, c, hx⟩
theorem IsB.mono {s t : Slb} (hst : s.Sub t) {l : List Pr} {h : Int} (hi : IsB s l h) : IsB t l h := by
  cases l with
  | nil => exact hi
  | cons x l =>
    obtain ⟨hd, c, hi⟩ := hi
    obtain ⟨hd2, c2, h2⟩ := hst h _ _ hi
    exact ⟨hd2, c2, h2⟩
theorem Is.mono {s t : Slb} (hst : s.Sub t) : ∀ {f d : Nat} {l : List Pr} {h : Int}, Is s f d l h → Is t f d l h
  | 0, d, l, h, hi => IsB.mono hst hi
  | f + 1, d, l, h, hi => by
    unfold Is at *
    split at hi
    · rename_i hl; rw [if_pos hl]; exact hi.mono hst
    rename_i hl
    rw [if_neg hl]
    obtain ⟨lh, rh, hd, c, h1, h2, h3⟩ := hi
    obtain ⟨hd2, c2, h4⟩ := hst h _ _ h1
    exact ⟨lh, rh, hd2, c2, h4, h2.mono hst, h3.mono hst⟩
theorem Is.small {s : Slb} {f d : Nat} {l : List Pr} {h : Int} (hl : l.length < 2) : Is s f d l h ↔ IsB s l h := by
  cases f with
  | zero => exact Iff.rfl
  | succ f => unfold Is; rw [if_pos hl]
theorem hdK_agree {d : Nat} {l : List Pr} (hs : Sep d (dgs l)) : ∀ y ∈ l, agree d (hdK l) y.1 := by
  cases l with
  | nil => intro y hy; cases hy
  | cons x l =>
    intro y hy
    rcases List.mem_cons.1 hy with rfl | hy
    · exact fun _ _ => rfl
    have := (List.pairwise_cons.1 hs).1 (y.1, valH y.2) (List.mem_map.2 ⟨y, hy, rfl⟩)
    exact this.1
structure Info (s : Slb) (f d : Nat) (l : List Pr) (x : SN) : Prop where
  dg : x.dg = rootA f d (dgs l)
  sz : x.sz = (l.length : Int)
  key : ∀ y ∈ l, agree d x.key y.1
  big : 2 ≤ l.length → x.k = 2 ∧ x.d = (d : Int)
  one : l.length < 2 → x.k = 1
theorem Is.info {s : Slb} {f d : Nat} {l : List Pr} {h : Int} (hi : Is s f d l h) (hs : Sep d (dgs l)) (hfd : f + d = 256) (hne : l ≠ []) : ∃ x c, s.at_ h = some (x, c) ∧ Info s f d l x := by
  by_cases hl : l.length < 2
  · rw [Is.small hl] at hi
    obtain ⟨y, rfl⟩ : ∃ y, l = [y] := by
      match l, hl with
      | [], _ => exact absurd rfl hne
      | [y], _ => exact ⟨y, rfl⟩
    obtain ⟨hd, c, hi⟩ := hi
    refine ⟨_, c, hi, ?_, rfl, fun z hz => by rw [List.mem_singleton.1 hz]; exact fun _ _ => rfl, fun h => by simp at h, fun _ => rfl⟩
    rw [rootA_small _ _ _ (by simp [dgs])]; rfl
  cases f with
  | zero => exact absurd (hs.deep (by omega)) (by rw [dgs_len]; exact hl)
  | succ f =>
    unfold Is at hi
    rw [if_neg hl] at hi
    obtain ⟨lh, rh, hd, c, h1, _, _⟩ := hi
    refine ⟨_, c, h1, rfl, rfl, fun y hy t ht => ?_, fun _ => ⟨rfl, rfl⟩, fun h => absurd h hl⟩
    rw [show (inN (rootA (f + 1) d (dgs l)) d (fillL (hdK l) d false) lh rh (l.length : Int) hd).key = fillL (hdK l) d false from rfl]
    exact (fill_agree false (by omega) t ht).trans (hdK_agree hs y hy t ht)
theorem halfP_sum (d : Nat) (l : List Pr) : (halfP false d l).length + (halfP true d l).length = l.length := by
  unfold halfP
  induction l with
  | nil => rfl
  | cons x l ih =>
    cases h : bitN x.1 d <;> simp [h] <;> simp at ih <;> omega
theorem halfP_bit {b : Bool} {d : Nat} {l : List Pr} : ∀ y ∈ halfP b d l, bitN y.1 d = b ∧ y ∈ l := fun y hy => by
  unfold halfP at hy
  obtain ⟨h1, h2⟩ := List.mem_filter.1 hy
  exact ⟨by simpa using h2, h1⟩
structure Built (s t : Slb) (f d : Nat) (l : List Pr) (h : Int) : Prop where
  wf : t.wf
  m : t.m = 0
  used : t.used = t.sl.length
  room : t.room = s.room
  old : ∀ k, k ≤ (s.sl.length : Int) → t.at_ k = s.at_ k
  le : s.sl.length ≤ t.sl.length
  len : t.sl.length ≤ s.sl.length + l.length * (257 - d)
  is : Is t f d l h
  nz : l ≠ [] → (s.sl.length : Int) < h ∧ h ≤ (t.sl.length : Int) ∧ (t.get_ h).hd = 1
  z : l = [] → h = 0
theorem Slb.at_lt {s : Slb} {k : Int} {p : SN × Nat} (h : s.at_ k = some p) : 0 < k ∧ k ≤ (s.sl.length : Int) := by
  obtain ⟨x, c⟩ := p
  obtain ⟨i, hi, hlt, _⟩ := Slb.at_some h
  omega
theorem Built.sub {s t : Slb} {f d : Nat} {l : List Pr} {h : Int} (hb : Built s t f d l h) : s.Sub t := fun k x c hk => ⟨x.hd, c, by rw [hb.old k (Slb.at_lt hk).2]; exact hk⟩
theorem fit_side {n : SN} {f d : Nat} {l : List Pr} {s : Slb} (b : Bool) (hi : Info s f (d + 1) l n) (hd : d < 256) (hne : l ≠ []) (hbit : ∀ y ∈ l, bitN y.1 d = b) : fitB n (d : Int) (if b then 1 else 0) = true := by
  obtain ⟨y, hy⟩ := List.exists_mem_of_ne_nil l hne
  have hk : bitN n.key d = b := (hi.key y hy d (by omega)).trans (hbit y hy)
  have hp : pbit n.key (d : Int) = if b then 1 else 0 := by rw [pbit, if_pos (by omega), Int.toNat_natCast, hk]
  unfold fitB
  rw [hp]
  by_cases h2 : 2 ≤ l.length
  · obtain ⟨k1, k2⟩ := hi.big h2
    rw [k2, decide_eq_false (show ¬ (((d + 1 : Nat) : Int) ≠ (d : Int) + 1) by omega)]; simp
  have := hi.one (by omega)
  rw [decide_eq_false (show ¬ n.k = 2 by rw [this]; decide)]; simp
section
variable {P : Program} {τ : Tab} {w0 w : World} {N : Gh} {g : Gh} {st : St} {nt : Nat} {a : Act}
theorem v_bsV {ops : Array Oper} {Q : Exit → Act → World → Prop} {rest : List Oper} {o : Oper} {t e n : Nat} {i j : TI} {ps : List (Nat × Operand)} {l : List AV} {cd : Prop} (hτ : τ.ok P) (hi : Tab.get t τ = some i) (hid : i.d = .slc e) (hj : Tab.get e τ = some j) (hs : 0 < j.ty.size) (hbig : n * j.ty.size ≤ 16777216) (H : Rel P w0 N nt st a w)
    (hset : setE n j.ty (st.ev none) ps (List.replicate n j.zero) = some (l, cd)) (hc : cd) (hne : 0 < n)
    (kk : ∀ a w, Rel P w0 N nt ((⟨st.t, st.bx ++ [(.vc e j.ty, .vc 0 l)], st.fz, st.rw⟩ : St).put o.dst none (.vw st.bx.length 0 n)) a w → wpList P ops Q rest a w)
    (hgd : o.guard = none := by rfl) (ho : o.op = .buildSlice t n ps.toArray := by rfl) (hd : okDst nt none o.dst = true := by rfl) : wpList P ops Q (o :: rest) a w := by
  obtain ⟨g, HI, hF⟩ := H
  have hd0 := (Tab.get_ok hτ hi).d
  rw [hid] at hd0
  have hjok := Tab.get_ok hτ hj
  obtain ⟨inf, z0, e1, e2, e3, e4, e5⟩ := hjok.info
  have hz : ∀ w, (zeroValue e).run P w = .ok z0 w := fun w => by simp [zeroValue, typeInfo, e1, e4]
  have hzl : z0.cells.size = j.ty.size := by have := (e5 g).size; simpa using this
  obtain ⟨cs', h1, h2⟩ := setE_sound (g := g) (fun x => ev_sound hF (c := none) trivial x) ps (List.replicate n j.zero) l cd ((List.replicate n z0.cells.toList).flatten.toArray) hset hc (by simpa using (e5 g.base).chain_replicate n)
  have hrun : (Instr.buildSlice t n ((ps.map fun x => (x.1, a.eval x.2)).toArray)).run P w = .ok (.slice (some ⟨w.heap.size, 0, none⟩) n n) (w.alloc (.cells cs' e)) := by
    have hs' := hjok.sizeOf w
    have hnot : ¬ (16777216 < n * j.ty.size) := by omega
    have hn0 : ¬ (n * j.ty.size = 0) := fun h => by rcases Nat.mul_eq_zero.1 h with h | h <;> omega
    have hcs : (Array.range (n * j.ty.size)).map (fun i => z0.cells[i % z0.cells.size]!) = (List.replicate n z0.cells.toList).flatten.toArray := by
      apply Array.toList_inj.1; rw [initCells z0.cells n j.ty.size hzl]
    unfold Instr.buildSlice
    simp only [Sem.run_bind, run_underlying (show P.underlying t = _ from hd0), Result.andThen_ok, hs']
    simp [hnot, hn0, hz, hcs, h1, newRow]
  have hll := h2.st_len
  have hsz : cs'.toList.length = n * j.ty.size := by rw [h2.size, chain_size]
  have hn63 : n ≤ maxLen := by
    have : n * 1 ≤ n * j.ty.size := Nat.mul_le_mul_left n hs
    simp only [maxLen]; omega
  have hel : ∀ (g' : Gh), g.le g' → ∀ k (hk : k < l.length), RC g'.base j.ty l[k] ((cs'.toList.drop (k * j.ty.size)).take j.ty.size) := fun g' hg k hk => by
    obtain ⟨a', ha', pre, mid, post, hcs, hpre, hmid, _⟩ := (h2.mono hg.base).lens (chain_loc j.ty (e5 g.base).grows n k (by omega))
    have : l[k]? = some a' := by simpa [AV.loc, List.getElem?_eq_getElem hk] using ha'
    rw [List.getElem?_eq_getElem hk] at this; injection this with this; subst this
    rw [hcs, ← hpre, ← hmid.size]; simpa using hmid
  have hcs2 : cs'.toList = (List.range l.length).flatMap (fun k => (cs'.toList.drop (k * j.ty.size)).take j.ty.size) ++ [] := by
    rw [List.append_nil, hll]; exact chunks_all j.ty.size n cs'.toList hsz
  obtain ⟨g', l1, I1, hx1⟩ := HI.boxG (x := ⟨w.heap.size, e, .vc e j.ty, cs'.toList, false, 0, n, false, none⟩) (a := .vc 0 l) (w' := w.alloc (.cells cs' e)) rfl (grown_alloc w _) (fun _ => ⟨rfl, .of rfl (by have := Blk.new w e cs'; rwa [show cs' = (cs'.toList).toArray by simp] at this)⟩) (fun e => by cases e) (fun e => by cases e)
    (.inr (.inl ⟨j.ty, 0, l, _, [], ⟨_, rfl, rfl⟩, rfl, rfl, rfl, hs, ⟨hn63, fun e => (by cases e)⟩, hcs2, hsz, fun u hu => (by cases hu), fun k hk => hel g (Gh.le.refl g) k hk⟩))
  refine wpList_plain hgd fun K hK => ?_
  unfold Oper.wp
  have he : (execOp a.eval o).run P w = .ok (.value (.slice (some ⟨w.heap.size, 0, none⟩) n n)) (w.alloc (.cells cs' e)) := by
    obtain ⟨dst, op, ty, pos, after, gd⟩ := o
    dsimp only at ho
    subst ho
    simp only [execOp, Sem.run_bind, List.map_toArray]
    rw [hrun]; rfl
  rw [he, Oper.upon_value]
  have hvw : RC g' .sc (.vw st.bx.length 0 n) [.slice (some ⟨w.heap.size, 0, none⟩) n n] := RC.vw (c := n) hx1 rfl (Nat.le_refl _) (Nat.le_refl _) hn63 fun _ => ⟨rfl, .inr ⟨rfl, rfl⟩⟩
  refine hK _ _ (kk _ _ ⟨g', ?_, (hF.mono l1.1).put hd (fun _ => hvw.rv1) rfl (fun h => absurd trivial h)⟩)
  cases o.dst <;> exact I1
end
def Slb.live (s : Slb) : Nat := s.sl.countP Option.isSome
structure DInv (s : Slb) : Prop where
  wf : s.wf
  used : s.used = s.live
  free : s.used + s.m = s.sl.length
  fs : s.m ≤ s.fs.length
  room : s.used ≤ s.room
theorem Slb.cnt_live {s : Slb} {i : Nat} {x y : SN} {c d : Nat} (hi : s.sl[i]? = some (some (x, c))) : (s.cnt i y d).live = s.live := by
  obtain ⟨h1, h2⟩ := List.getElem?_eq_some_iff.1 hi
  have h3 : 0 < s.sl.countP Option.isSome := List.countP_pos_iff.2 ⟨_, List.getElem_mem h1, by rw [h2]; rfl⟩
  unfold Slb.live Slb.cnt
  dsimp only
  rw [List.countP_set h1, h2]
  simp only [Option.isSome_some, if_true]; omega
theorem Slb.free_live {s : Slb} {i : Nat} {x : SN} {c : Nat} (hi : s.sl[i]? = some (some (x, c))) : (s.free i).live + 1 = s.live := by
  obtain ⟨h1, h2⟩ := List.getElem?_eq_some_iff.1 hi
  have h3 : 0 < s.sl.countP Option.isSome := List.countP_pos_iff.2 ⟨_, List.getElem_mem h1, by rw [h2]; rfl⟩
  unfold Slb.live Slb.free
  dsimp only
  rw [List.countP_set h1, h2]
  simp only [Option.isSome_some, Option.isSome_none, if_true, Bool.false_eq_true, if_false]; omega
theorem Slb.at_idx {s : Slb} {i : Nat} {p : SN × Nat} (h : s.at_ ((i : Int) + 1) = some p) : s.sl[i]? = some (some p) ∧ i < s.sl.length := by
  obtain ⟨x, c⟩ := p
  obtain ⟨j, h1, h2, h3⟩ := Slb.at_some h
  obtain rfl : j = i := by omega
  exact ⟨h3, h2⟩
theorem Slb.at_cnt {s : Slb} {i : Nat} {p : SN × Nat} (h : s.at_ ((i : Int) + 1) = some p) (y : SN) (d : Nat) (k : Int) : (s.cnt i y d).at_ k = if k = (i : Int) + 1 then some (y, d) else s.at_ k := by
  obtain ⟨_, hlt⟩ := Slb.at_idx h
  unfold Slb.at_ Slb.cnt
  dsimp only
  by_cases h1 : 1 ≤ k
  · rw [if_pos h1, if_pos h1, List.getElem?_set]
    by_cases h2 : k = (i : Int) + 1
    · subst h2
      rw [if_pos (by omega), if_pos rfl, if_pos hlt]; rfl
    rw [if_neg (by omega), if_neg h2]
  rw [if_neg h1, if_neg h1, if_neg (by omega)]
theorem Slb.at_free {s : Slb} {i : Nat} {p : SN × Nat} (h : s.at_ ((i : Int) + 1) = some p) (k : Int) : (s.free i).at_ k = if k = (i : Int) + 1 then none else s.at_ k := by
  obtain ⟨_, hlt⟩ := Slb.at_idx h
  unfold Slb.at_ Slb.free
  dsimp only
  by_cases h1 : 1 ≤ k
  · rw [if_pos h1, if_pos h1, List.getElem?_set]
    by_cases h2 : k = (i : Int) + 1
    · subst h2
      rw [if_pos (by omega), if_pos rfl, if_pos hlt]; rfl
    rw [if_neg (by omega), if_neg h2]
  rw [if_neg h1, if_neg h1, if_neg (by omega)]
theorem Slb.cnt_wf {s : Slb} (hs : s.wf) {i : Nat} {p : SN × Nat} (h : s.at_ ((i : Int) + 1) = some p) {y : SN} {d : Nat} (hy : y.wf) (hd : 0 < d ∧ d ≤ 1073741824) : (s.cnt i y d).wf := by
  refine Slb.wf_at hs.room (by show (s.sl.set _ _).length ≤ _; rw [List.length_set]; exact hs.len) fun k x c hk => ?_
  rw [Slb.at_cnt h] at hk
  split at hk
  · injection hk with hk; injection hk with h1 h2; subst h1 h2; exact ⟨hd.1, hd.2, hy⟩
  exact Slb.at_pos hs hk
theorem Slb.free_wf {s : Slb} (hs : s.wf) {i : Nat} {p : SN × Nat} (h : s.at_ ((i : Int) + 1) = some p) : (s.free i).wf := by
  refine Slb.wf_at hs.room (by show (s.sl.set _ _).length ≤ _; rw [List.length_set]; exact hs.len) fun k x c hk => ?_
  rw [Slb.at_free h] at hk
  split at hk
  · cases hk
  exact Slb.at_pos hs hk
theorem DInv.cnt {s : Slb} (hs : DInv s) {i : Nat} {x : SN} {c : Nat} (h : s.at_ ((i : Int) + 1) = some (x, c)) {y : SN} {d : Nat} (hy : y.wf) (hd : 0 < d ∧ d ≤ 1073741824) : DInv (s.cnt i y d) :=
  ⟨Slb.cnt_wf hs.wf h hy hd, by rw [Slb.cnt_live (Slb.at_idx h).1]; exact hs.used, by show s.used + s.m = (s.sl.set _ _).length; rw [List.length_set]; exact hs.free, hs.fs, hs.room⟩
theorem DInv.pos {s : Slb} (hs : DInv s) {i : Nat} {x : SN} {c : Nat} (h : s.at_ ((i : Int) + 1) = some (x, c)) : 0 < s.used := by
  have := Slb.free_live (Slb.at_idx h).1
  rw [hs.used]; omega
theorem DInv.freed {s : Slb} (hs : DInv s) {i : Nat} {x : SN} {c : Nat} (h : s.at_ ((i : Int) + 1) = some (x, c)) : DInv (s.free i) := by
  have h1 := hs.pos h
  have h2 := Slb.free_live (Slb.at_idx h).1
  have h3 := hs.used
  refine ⟨Slb.free_wf hs.wf h, ?_, ?_, ?_, ?_⟩
  · show s.used - 1 = _; omega
  · show s.used - 1 + (s.m + 1) = (s.sl.set _ _).length
    rw [List.length_set]; have := hs.free; omega
  · show s.m + 1 ≤ (s.fs.take s.m ++ [_]).length
    rw [List.length_append, List.length_take, List.length_singleton]; have := hs.fs; omega
  show s.used - 1 ≤ s.room; have := hs.room; omega
def sidesD (x : SN) : List Int := (if x.r = 0 then [] else [x.r]) ++ (if x.l = 0 then [] else [x.l])
inductive Drp : Slb → List Int → Nat → Slb → Nat → Prop
  | nil (s : Slb) (n : Nat) : Drp s [] n s n
  | dec {s t : Slb} {i c n m : Nat} {x : SN} {td : List Int} (h : s.at_ ((i : Int) + 1) = some (x, c + 1)) (hc : 0 < c) (k : Drp (s.cnt i x c) td n t m) : Drp s (td ++ [(i : Int) + 1]) n t m
  | free {s t : Slb} {i n m : Nat} {x : SN} {td : List Int} (h : s.at_ ((i : Int) + 1) = some (x, 1)) (k : Drp (s.free i) (td ++ sidesD x) (n + 1) t m) : Drp s (td ++ [(i : Int) + 1]) n t m
theorem Drp.inv {s t : Slb} {todo : List Int} {n m : Nat} (h : Drp s todo n t m) : (todo = [] ∧ s = t ∧ n = m) ∨
    (∃ td i c x, todo = td ++ [((i : Nat) : Int) + 1] ∧ s.at_ ((i : Int) + 1) = some (x, c + 1) ∧ 0 < c ∧ Drp (s.cnt i x c) td n t m) ∨
    (∃ td i x, todo = td ++ [((i : Nat) : Int) + 1] ∧ s.at_ ((i : Int) + 1) = some (x, 1) ∧ Drp (s.free i) (td ++ sidesD x) (n + 1) t m) := by
  cases h with
  | nil => exact .inl ⟨rfl, rfl, rfl⟩
  | dec h hc k => exact .inr (.inl ⟨_, _, _, _, rfl, h, hc, k⟩)
  | free h k => exact .inr (.inr ⟨_, _, _, rfl, h, k⟩)
set_option maxRecDepth 20000 in
theorem stoSize_v (s : Slb) (hs : s.wf) (h : Int) : VX Tryz.prog 27 s.sx [] [] [.ptr 0 [], .v (.int .i64 h)] s.sx [] [] (.v (.int .i64 (s.get_ h).sz)) := by
  have hg := stoGet_v s hs h
  obtain ⟨x1, x2, x3⟩ := Slb.get_wf hs h
  generalize s.get_ h = n at *
  simp only [Slb.sx, SN.av] at hg
  simp only [Slb.sx]
  refine mE Tryz.func27 ?_; intro N w0 a w hN hR H
  have hX := And.intro @x1 (And.intro @x2 (@x3))
  refine mW ?_; clear H; intro a w H
  refine mCall [0, 1, 2, 3] [] (hg) H ?_; clear H; intro a w H; try refine wpList_nil ?_
  refine mW ?_; clear H; intro a w H
  refine wp_ret ?_; exact mEnd [0, 1, 2, 3] [] [.tmp 4] [_] hN hR H
set_option maxRecDepth 20000 in
theorem stoHeld_v (s : Slb) (hs : s.wf) (h : Int) : VX Tryz.prog 31 s.sx [] [] [.ptr 0 [], .v (.int .i64 h)] s.sx [] [] (.v (.int .i64 (s.get_ h).hd)) := by
  have hg := stoGet_v s hs h
  obtain ⟨x1, x2, x3⟩ := Slb.get_wf hs h
  generalize s.get_ h = n at *
  simp only [Slb.sx, SN.av] at hg
  simp only [Slb.sx]
  refine mE Tryz.func31 ?_; intro N w0 a w hN hR H
  have hX := And.intro @x1 (And.intro @x2 (@x3))
  refine mW ?_; clear H; intro a w H
  refine mCall [0, 1, 2, 3] [] (hg) H ?_; clear H; intro a w H; try refine wpList_nil ?_
  refine mW ?_; clear H; intro a w H
  refine wp_ret ?_; exact mEnd [0, 1, 2, 3] [] [.tmp 4] [_] hN hR H
theorem Slb.cnt_call {s : Slb} {i : Nat} {x : SN} {c : Nat} (h : s.at_ ((i : Int) + 1) = some (x, c)) (y : SN) (d : Nat) (b : Int) : (s.cnt i y d).call_ ((i : Int) + 1) b = s.cnt i { y with hd := y.hd + b } d := by
  have h1 : (s.cnt i y d).at_ ((i : Int) + 1) = some (y, d) := by rw [Slb.at_cnt h, if_pos rfl]
  unfold Slb.call_
  have h2 : (s.cnt i y d).get_ ((i : Int) + 1) = y := by unfold Slb.get_; rw [h1]
  rw [if_pos (by unfold Slb.ok_; rw [h1]; rfl), h2, Slb.set_some h1 rfl]
  unfold Slb.cnt
  dsimp only
  rw [List.set_set]
theorem Slb.call_cnt {s : Slb} {i : Nat} {x : SN} {c : Nat} (h : s.at_ ((i : Int) + 1) = some (x, c)) (b : Int) : s.call_ ((i : Int) + 1) b = s.cnt i { x with hd := x.hd + b } c := by
  unfold Slb.call_
  have h2 : s.get_ ((i : Int) + 1) = x := by unfold Slb.get_; rw [h]
  rw [if_pos (by unfold Slb.ok_; rw [h]; rfl), h2, Slb.set_some h rfl]
  rfl
set_option maxRecDepth 20000 in
set_option maxHeartbeats 4000000 in
theorem stoHold_v (s : Slb) (hs : s.wf) (i : Nat) (x : SN) (c : Nat) (hat0 : s.at_ ((i : Int) + 1) = some (x, c)) (hc : c < 1073741824) (hh : 0 ≤ x.hd ∧ x.hd ≤ 1000000000) :
    VX Tryz.prog 20 s.sx [] [] [.ptr 0 [], .v (.int .i64 ((i : Int) + 1))] (s.cnt i { x with hd := x.hd + 1 } (c + 1)).sx [] [] (errv 0) := by
  have hn := stoNone_v s.γ s.δ s.sl.length s.m s.room s.used (s.sl.map slA) (s.fs.map inA)
  have hH := slbHold_v s hs i x c hat0 hc
  have hwf := (Slb.at_pos hs hat0).2.2
  have hs2 := Slb.cnt_wf hs hat0 hwf (d := c + 1) ⟨by omega, by omega⟩
  have hg2 : (s.cnt i x (c + 1)).get_ ((i : Int) + 1) = x := by unfold Slb.get_; rw [Slb.at_cnt hat0, if_pos rfl]
  have hC := stoCallers_v (s.cnt i x (c + 1)) hs2 ((i : Int) + 1) 1 (by rw [hg2]; omega)
  rw [Slb.cnt_call hat0] at hC
  generalize s.cnt i { x with hd := x.hd + 1 } (c + 1) = s3 at *
  generalize s.cnt i x (c + 1) = s2 at *
  simp only [Slb.bx] at hH
  simp only [Slb.sx] at hC ⊢
  refine mE Tryz.func20 ?_; intro N w0 a w hN hR H
  refine mW ?_; clear H; intro a w H
  refine mCall [0, 1, 2, 3] [] (hn) H ?_; clear H; intro a w H; try refine wpList_nil ?_
  refine mW ?_; clear H; intro a w H
  refine mC H (fun hb => ?_) (fun hb => ?_)
  · exact absurd hb (by decide)
  clear hb
  refine mW ?_; clear H; intro a w H
  refine mCall [1, 2, 3] [] (hH) H ?_; clear H; intro a w H; try refine wpList_nil ?_
  refine mW ?_; clear H; intro a w H
  refine mC H (fun hb => ?_) (fun hb => ?_)
  · exact absurd hb (by decide)
  clear hb
  refine mW ?_; clear H; intro a w H
  refine mCall [0, 1, 2, 3] [] (hC) H ?_; clear H; intro a w H; try refine wpList_nil ?_
  refine mW ?_; clear H; intro a w H
  refine wp_ret ?_; exact mEnd [0, 1, 2, 3] [] [.tmp 4] [_] hN hR H
theorem Slb.get_at {s : Slb} {h : Int} {x : SN} {c : Nat} (hh : s.at_ h = some (x, c)) : s.get_ h = x ∧ s.ok_ h = true := by
  unfold Slb.get_ Slb.ok_; rw [hh]; exact ⟨rfl, rfl⟩
theorem Slb.at_zero (s : Slb) : s.at_ 0 = none := by unfold Slb.at_; rw [if_neg (by decide)]
theorem fill_eq {p q : List UInt8} {d : Nat} (h : agree d p q) : fillL p d false = fillL q d false := by
  refine agree_eq (fillL_len _ _ _) (fillL_len _ _ _) fun t ht => ?_
  rw [fillL_bit _ _ _ _ ht, fillL_bit _ _ _ _ ht]
  split
  · exact h t (by assumption)
  rfl
structure Sd (s : Slb) (f d : Nat) (b : Bool) (l : List Pr) (h : Int) : Prop where
  z : l = [] → h = 0 ∧ s.side h = SN.zero
  nz : l ≠ [] → h ≠ 0 ∧ s.ok_ h = true ∧ s.side h = s.get_ h ∧ (s.get_ h).hd = 1 ∧ Info s f (d + 1) l (s.get_ h)
  dig : s.dig h = rootA f (d + 1) (dgs l)
  sz : (s.side h).sz = (l.length : Int)
theorem Sd.of {s t u : Slb} {f d : Nat} {b : Bool} {l : List Pr} {h : Int} (B : Built s t f (d + 1) l h) (hs : Sep (d + 1) (dgs l)) (hfd : f + (d + 1) = 256) (hu : ∀ k, k ≤ (t.sl.length : Int) → u.at_ k = t.at_ k) : Sd u f d b l h := by
  by_cases hne : l = []
  · have h0 := B.z hne
    subst h0
    have hsd : u.side 0 = SN.zero := by unfold Slb.side; rw [if_pos rfl]
    refine ⟨fun _ => ⟨rfl, hsd⟩, fun h => absurd hne h, ?_, by rw [hsd, hne]; rfl⟩
    unfold Slb.dig; rw [if_pos rfl, hne, rootA_small _ _ _ (by simp [dgs])]; rfl
  obtain ⟨n1, n2, n3⟩ := B.nz hne
  obtain ⟨x, c, h1, h2⟩ := B.is.info hs hfd hne
  have h3 : u.at_ h = some (x, c) := by rw [hu h n2]; exact h1
  obtain ⟨g1, g2⟩ := Slb.get_at h3
  have h0 : h ≠ 0 := by omega
  have hsd : u.side h = u.get_ h := by unfold Slb.side; rw [if_neg h0]
  rw [(Slb.get_at h1).1] at n3
  have hI : Info u f (d + 1) l x := ⟨h2.dg, h2.sz, h2.key, h2.big, h2.one⟩
  refine ⟨fun h => absurd h hne, fun _ => ⟨h0, g2, hsd, by rw [g1]; exact n3, by rw [g1]; exact hI⟩, ?_, by rw [hsd, g1]; exact h2.sz⟩
  unfold Slb.dig; rw [if_neg h0, g1]; exact h2.dg
structure Joined (s s2 : Slb) (f d : Nat) (l : List Pr) (a b : Int) : Prop where
  la : a ≠ 0 → s2.ok_ a = true ∧ (s2.get_ a).hd ≠ 0
  lb : b ≠ 0 → s2.ok_ b = true ∧ (s2.get_ b).hd ≠ 0
  fits : fitsB d a b (s2.side a) (s2.side b) = true
  used : s2.used < s2.room
  len : s2.sl.length < 65536
  sz : 0 ≤ (s2.side a).sz ∧ (s2.side a).sz ≤ 1000000 ∧ 0 ≤ (s2.side b).sz ∧ (s2.side b).sz ≤ 1000000
  w1 : (s2.push (s2.newIn d a b)).wf
  c1 : -1000000000000 ≤ ((s2.push (s2.newIn d a b)).get_ a).hd + -1 ∧ ((s2.push (s2.newIn d a b)).get_ a).hd + -1 ≤ 1000000000000
  c2 : -1000000000000 ≤ (((s2.push (s2.newIn d a b)).call_ a (-1)).get_ b).hd + -1 ∧ (((s2.push (s2.newIn d a b)).call_ a (-1)).get_ b).hd + -1 ≤ 1000000000000
  is : Built s (((s2.push (s2.newIn d a b)).call_ a (-1)).call_ b (-1)) (f + 1) d l ((s2.sl.length : Int) + 1)
theorem joined {s s1 s2 : Slb} {f d : Nat} {l : List Pr} {a b : Int} (hs : Sep d (dgs l)) (hfd : f + 1 + d = 256) (h2 : 2 ≤ l.length) (hll : l.length ≤ 100000) (hw : s.wf) (hroom : s.sl.length + l.length * (257 - d) ≤ s.room)
    (B1 : Built s s1 f (d + 1) (halfP false d l) a) (B2 : Built s1 s2 f (d + 1) (halfP true d l) b) : Joined s s2 f d l a b := by
  have hsum := halfP_sum d l
  have hsA : Sep (d + 1) (dgs (halfP false d l)) := by rw [halfP_dgs]; exact hs.side false
  have hsB : Sep (d + 1) (dgs (halfP true d l)) := by rw [halfP_dgs]; exact hs.side true
  have SA : Sd s2 f d false (halfP false d l) a := Sd.of B1 hsA (by omega) B2.old
  have SB : Sd s2 f d true (halfP true d l) b := Sd.of B2 hsB (by omega) (fun _ _ => rfl)
  have hbA := fun y hy => (halfP_bit (b := false) (d := d) (l := l) y hy)
  have hbB := fun y hy => (halfP_bit (b := true) (d := d) (l := l) y hy)
  have hlen : s2.sl.length < s.sl.length + l.length * (257 - d) := by
    have e1 := B1.len
    have e2 := B2.len
    have e3 : 257 - d = (257 - (d + 1)) + 1 := by omega
    rw [e3, Nat.mul_add, Nat.mul_one, ← hsum, Nat.add_mul]
    omega
  have hrm : s2.room = s.room := B2.room.trans B1.room
  have hle : s.sl.length ≤ s2.sl.length := Nat.le_trans B1.le B2.le
  generalize hA : halfP false d l = A at *
  generalize hBB : halfP true d l = B at *
  have hkey : ∀ y ∈ l, ∃ k, k = (if a = 0 then (s2.side b).key else (s2.side a).key) ∧ agree d k y.1 := by
    intro y hy
    refine ⟨_, rfl, ?_⟩
    have hky := hdK_agree hs
    by_cases ha : A = []
    · have hB0 : B ≠ [] := by intro e; rw [ha, e] at hsum; simp at hsum; omega
      obtain ⟨b1, b2, b3, b4, b5⟩ := SB.nz hB0
      rw [if_pos (SA.z ha).1, b3]
      obtain ⟨z, hz⟩ := List.exists_mem_of_ne_nil B hB0
      intro t ht
      exact ((b5.key z hz t (by omega)).trans (hky z (hbB z hz).2 t ht).symm).trans (hky y hy t ht)
    obtain ⟨b1, b2, b3, b4, b5⟩ := SA.nz ha
    rw [if_neg b1, b3]
    obtain ⟨z, hz⟩ := List.exists_mem_of_ne_nil A ha
    intro t ht
    exact ((b5.key z hz t (by omega)).trans (hky z (hbA z hz).2 t ht).symm).trans (hky y hy t ht)
  have hnk : fillL (if a = 0 then (s2.side b).key else (s2.side a).key) d false = fillL (hdK l) d false := by
    obtain ⟨x, tl, rfl⟩ : ∃ x tl, l = x :: tl := by cases l with | nil => simp at h2 | cons x tl => exact ⟨x, tl, rfl⟩
    obtain ⟨k, hk, hk2⟩ := hkey x List.mem_cons_self
    rw [← hk]; exact fill_eq hk2
  have hnew : s2.newIn d a b = inN (rootA (f + 1) d (dgs l)) d (fillL (hdK l) d false) a b (l.length : Int) 1 := by
    unfold Slb.newIn
    rw [hnk, SA.dig, SB.dig, SA.sz, SB.sz]
    have er : rootA (f + 1) d (dgs l) = innerH (rootA f (d + 1) (dgs A)) (rootA f (d + 1) (dgs B)) := by
      rw [rootA, if_neg (by rw [dgs_len]; omega), ← hA, ← hBB, halfP_dgs, halfP_dgs]
    rw [er, show ((A.length : Int) + (B.length : Int)) = (l.length : Int) by omega]
  have hnwf : (s2.newIn d a b).wf := by rw [hnew]; exact ⟨rootA_len _ _ _, fillL_len _ _ _, List.length_replicate⟩
  have hl5 : s2.sl.length < 65536 := by have := hw.room.2; omega
  have hat : ∀ (h : Int) (x : SN) (c : Nat), s2.at_ h = some (x, c) → (s2.push (s2.newIn d a b)).at_ h = some (x, c) := fun h x c hh => by
    have := (Slb.at_lt hh).2
    rw [Slb.at_push, if_neg (by omega)]; exact hh
  have g1 : ((s2.push (s2.newIn d a b)).get_ a).hd = if A = [] then 0 else 1 := by
    by_cases ha : A = []
    · rw [if_pos ha, (SA.z ha).1]; unfold Slb.get_; rw [Slb.at_zero]; rfl
    rw [if_neg ha]
    obtain ⟨b1, b2, b3, b4, b5⟩ := SA.nz ha
    obtain ⟨⟨x, c⟩, hx⟩ := Option.isSome_iff_exists.1 b2
    rw [(Slb.get_at (hat a x c hx)).1, ← (Slb.get_at hx).1]; exact b4
  have hab : B ≠ [] → b ≠ a := fun hb e => by
    obtain ⟨q1, q2, _⟩ := B2.nz hb
    by_cases ha : A = []
    · have := (SA.z ha).1; omega
    obtain ⟨p1, p2, _⟩ := B1.nz ha; omega
  have g2 : (((s2.push (s2.newIn d a b)).call_ a (-1)).get_ b).hd = if B = [] then 0 else 1 := by
    by_cases hb : B = []
    · rw [if_pos hb, (SB.z hb).1]; unfold Slb.get_; rw [Slb.at_zero]; rfl
    rw [if_neg hb]
    obtain ⟨b1, b2, b3, b4, b5⟩ := SB.nz hb
    obtain ⟨⟨x, c⟩, hx⟩ := Option.isSome_iff_exists.1 b2
    have h3 : ((s2.push (s2.newIn d a b)).call_ a (-1)).at_ b = some (x, c) := by rw [Slb.at_call, if_neg (hab hb)]; exact hat b x c hx
    rw [(Slb.get_at h3).1, ← (Slb.get_at hx).1]; exact b4
  have hale : a ≤ (s2.sl.length : Int) := by
    by_cases ha : A = []
    · rw [(SA.z ha).1]; omega
    have := (B1.nz ha).2.1; have := B2.le; omega
  have hble : b ≤ (s2.sl.length : Int) := by
    by_cases hb : B = []
    · rw [(SB.z hb).1]; omega
    exact (B2.nz hb).2.1
  have hpl : (s2.push (s2.newIn d a b)).sl.length = s2.sl.length + 1 := by unfold Slb.push; simp
  obtain ⟨p1, p2, p3, p4⟩ := Slb.call_dim (s2.push (s2.newIn d a b)) a (-1)
  obtain ⟨q1, q2, q3, q4⟩ := Slb.call_dim ((s2.push (s2.newIn d a b)).call_ a (-1)) b (-1)
  have hS : ∀ k, (((s2.push (s2.newIn d a b)).call_ a (-1)).call_ b (-1)).at_ k = if k = b then (((s2.push (s2.newIn d a b)).call_ a (-1)).at_ k).map fun p => ({ p.1 with hd := p.1.hd + -1 }, p.2) else if k = a then ((s2.push (s2.newIn d a b)).at_ k).map fun p => ({ p.1 with hd := p.1.hd + -1 }, p.2) else (s2.push (s2.newIn d a b)).at_ k := fun k => by
    rw [Slb.at_call, Slb.at_call]
  have hnew1 : (((s2.push (s2.newIn d a b)).call_ a (-1)).call_ b (-1)).at_ ((s2.sl.length : Int) + 1) = some (s2.newIn d a b, 1) := by
    rw [hS, if_neg (by omega), if_neg (by omega), Slb.at_push, if_pos rfl]
  have hsub2 : s2.Sub (((s2.push (s2.newIn d a b)).call_ a (-1)).call_ b (-1)) := ((Slb.Sub.push _ _).trans (Slb.Sub.call _ _ _)).trans (Slb.Sub.call _ _ _)
  have w1 := Slb.push_wf B2.wf hnwf hl5
  refine ⟨fun h => ?_, fun h => ?_, ?_, ?_, hl5, ?_, w1, by rw [g1]; split <;> omega, by rw [g2]; split <;> omega, ?_⟩
  · have ha : A ≠ [] := fun e => h (SA.z e).1
    obtain ⟨b1, b2, b3, b4, b5⟩ := SA.nz ha
    exact ⟨b2, by rw [b4]; decide⟩
  · have hb : B ≠ [] := fun e => h (SB.z e).1
    obtain ⟨b1, b2, b3, b4, b5⟩ := SB.nz hb
    exact ⟨b2, by rw [b4]; decide⟩
  · unfold fitsB
    by_cases ha : A = []
    · have hB0 : B ≠ [] := by intro e; rw [ha, e] at hsum; simp at hsum; omega
      obtain ⟨b1, b2, b3, b4, b5⟩ := SB.nz hB0
      have hB2 : 2 ≤ B.length := by rw [ha] at hsum; simp at hsum; omega
      rw [if_neg (fun h => b1 h.2), if_pos (SA.z ha).1, b3, decide_eq_true (b5.big hB2).1]
      exact fit_side true b5 (by omega) hB0 (fun y hy => (hbB y hy).1)
    obtain ⟨a1, a2, a3, a4, a5⟩ := SA.nz ha
    by_cases hb : B = []
    · have hA2 : 2 ≤ A.length := by rw [hb] at hsum; simp at hsum; omega
      rw [if_neg (fun h => a1 h.1), if_neg a1, if_pos (SB.z hb).1, a3, decide_eq_true (a5.big hA2).1]
      exact fit_side false a5 (by omega) ha (fun y hy => (hbA y hy).1)
    obtain ⟨b1, b2, b3, b4, b5⟩ := SB.nz hb
    have f1 := fit_side false a5 (by omega) ha (fun y hy => (hbA y hy).1)
    have f2 := fit_side true b5 (by omega) hb (fun y hy => (hbB y hy).1)
    rw [if_neg (fun h => a1 h.1), if_neg a1, if_neg b1, a3, b3]
    obtain ⟨y, hy⟩ := List.exists_mem_of_ne_nil A ha
    obtain ⟨z, hz⟩ := List.exists_mem_of_ne_nil B hb
    have hc : d ≤ com (s2.get_ a).key (s2.get_ b).key := by
      refine (com_ge (by omega)).2 fun t ht => ?_
      have e1 := a5.key y hy t (by omega)
      have e2 := b5.key z hz t (by omega)
      have e3 := hdK_agree hs y (hbA y hy).2 t ht
      have e4 := hdK_agree hs z (hbB z hz).2 t ht
      exact (e1.trans e3.symm).trans (e2.trans e4.symm).symm
    simp only [Bool.false_eq_true, if_false, if_true] at f1 f2
    rw [f1, f2, decide_eq_true (show (d : Int) ≤ (com (s2.get_ a).key (s2.get_ b).key : Int) by omega)]; rfl
  · rw [B2.used, hrm]; omega
  · rw [SA.sz, SB.sz]; omega
  refine ⟨Slb.call_wf (Slb.call_wf w1 _ _) _ _, ?_, ?_, ?_, fun k hk => ?_, ?_, ?_, ?_, fun _ => ⟨by omega, ?_, ?_⟩, fun h => by rw [h] at h2; simp at h2⟩
  · rw [q2, p2]; exact B2.m
  · rw [q3, p3, q1, p1, hpl]; show s2.used + 1 = _; rw [B2.used]
  · rw [q4, p4]; exact hrm
  · have hk2 : s2.at_ k = s.at_ k := by rw [B2.old k (by have := B1.le; omega)]; exact B1.old k hk
    have hkp : (s2.push (s2.newIn d a b)).at_ k = s.at_ k := by rw [Slb.at_push, if_neg (by omega), hk2]
    have hz0 : k = 0 → s.at_ k = none := fun e => by rw [e]; exact Slb.at_zero s
    have hka : k = a → k = 0 := fun e => by
      by_cases ha : A = []
      · rw [e]; exact (SA.z ha).1
      have := (B1.nz ha).1; omega
    have hkb : k = b → k = 0 := fun e => by
      by_cases hb : B = []
      · rw [e]; exact (SB.z hb).1
      have := (B2.nz hb).1; have := B1.le; omega
    rw [hS]
    split
    · rename_i e
      rw [hz0 (hkb e), Slb.at_call, hkp, hz0 (hkb e)]; split <;> rfl
    split
    · rename_i e; rw [hkp, hz0 (hka e)]; rfl
    exact hkp
  · rw [q1, p1, hpl]; omega
  · rw [q1, p1, hpl]; omega
  · unfold Is
    rw [if_neg (by omega)]
    refine ⟨a, b, 1, 1, by rw [hnew1, hnew], ?_, ?_⟩
    · rw [hA]; exact B1.is.mono (B2.sub.trans hsub2)
    rw [hBB]; exact B2.is.mono hsub2
  · rw [q1, p1, hpl]; omega
  rw [(Slb.get_at hnew1).1, hnew]; rfl
def srwR : Go.Shelf.Ren := ⟨fun | 6 => 95 | 15 => 109 | 14 => 117 | 28 => 134 | 29 => 135 | 20 => 140 | 21 => 141 | 22 => 142 | 23 => 143 | 24 => 144 | 25 => 145 | 26 => 146 | 27 => 147 | 46 => 160 | 47 => 154 | 48 => 155 | 49 => 161 | 50 => 162 | 57 => 169 | n => n, fun | 22 => 56 | 24 => 60 | 25 => 158 | 3 => 3 | 39 => 173 | 0 => 0 | 53 => 183 | 55 => 190 | 4 => 4 | 46 => 194 | 45 => 193 | 50 => 30 | 5 => 5 | 9 => 9 | 66 => 214 | 70 => 218 | 76 => 224 | 77 => 95 | n => n, fun x => x⟩
theorem srwL : SlLaysF0.n6 Tryz.prog srwR :=
  { mixed := by kernel_rfl,
    f6 := ⟨Tryz.f95.name, by decide, by kernel_rfl⟩,
    f15 := by kernel_rfl,
    f14 := ⟨Tryz.f117.name, by decide, by kernel_rfl⟩,
    f28 := by kernel_rfl,
    f29 := by kernel_rfl,
    f20 := ⟨Tryz.f140.name, by decide, by kernel_rfl⟩,
    f21 := ⟨Tryz.f141.name, by decide, by kernel_rfl⟩,
    f22 := ⟨Tryz.f142.name, by decide, by kernel_rfl⟩,
    f23 := ⟨Tryz.f143.name, by decide, by kernel_rfl⟩,
    f24 := ⟨Tryz.f144.name, by decide, by kernel_rfl⟩,
    f25 := ⟨Tryz.f145.name, by decide, by kernel_rfl⟩,
    f26 := ⟨Tryz.f146.name, by decide, by kernel_rfl⟩,
    f27 := ⟨Tryz.f147.name, by decide, by kernel_rfl⟩,
    f46 := ⟨Tryz.f160.name, by decide, by kernel_rfl⟩,
    f47 := by kernel_rfl,
    f48 := by kernel_rfl,
    f49 := ⟨Tryz.f161.name, by decide, by kernel_rfl⟩,
    f50 := ⟨Tryz.f162.name, by decide, by kernel_rfl⟩,
    f57 := ⟨Tryz.f169.name, by decide, by kernel_rfl⟩,
    t22 := Tryz.underlying56, a22 := Tryz.isAgg56, z22 := Tryz.sizeOf56, v22 := Tryz.zeroValue56,
    t25 := Tryz.underlying158, a25 := Tryz.isAgg158, z25 := Tryz.sizeOf158, v25 := Tryz.zeroValue158,
    t3 := Tryz.underlying3, a3 := Tryz.isAgg3, z3 := Tryz.sizeOf3, v3 := Tryz.zeroValue3,
    t39 := Tryz.underlying173, a39 := Tryz.isAgg173, z39 := Tryz.sizeOf173, v39 := Tryz.zeroValue173,
    t0 := Tryz.underlying0, a0 := Tryz.isAgg0, z0 := Tryz.sizeOf0, v0 := Tryz.zeroValue0,
    t53 := Tryz.underlying183, a53 := Tryz.isAgg183, z53 := Tryz.sizeOf183, v53 := Tryz.zeroValue183,
    t55 := Tryz.underlying190, a55 := Tryz.isAgg190, z55 := Tryz.sizeOf190, v55 := Tryz.zeroValue190,
    t4 := Tryz.underlying4, a4 := Tryz.isAgg4, z4 := Tryz.sizeOf4, v4 := Tryz.zeroValue4,
    t46 := Tryz.underlying194, a46 := Tryz.isAgg194, z46 := Tryz.sizeOf194, v46 := Tryz.zeroValue194,
    t45 := Tryz.underlying193, a45 := Tryz.isAgg193, z45 := Tryz.sizeOf193, v45 := Tryz.zeroValue193,
    t50 := Tryz.underlying30, a50 := Tryz.isAgg30, z50 := Tryz.sizeOf30, v50 := Tryz.zeroValue30,
    t5 := Tryz.underlying5, a5 := Tryz.isAgg5, z5 := Tryz.sizeOf5, v5 := Tryz.zeroValue5,
    t9 := Tryz.underlying9, a9 := Tryz.isAgg9, z9 := Tryz.sizeOf9, v9 := Tryz.zeroValue9,
    t66 := Tryz.underlying214, a66 := Tryz.isAgg214, z66 := Tryz.sizeOf214, v66 := Tryz.zeroValue214,
    t70 := Tryz.underlying218, a70 := Tryz.isAgg218, z70 := Tryz.sizeOf218, v70 := Tryz.zeroValue218,
    t76 := Tryz.underlying224, a76 := Tryz.isAgg224, z76 := Tryz.sizeOf224, v76 := Tryz.zeroValue224,
    t77 := Tryz.underlying95, a77 := Tryz.isAgg95, z77 := Tryz.sizeOf95, v77 := Tryz.zeroValue95 }
abbrev CelW := {p : List UInt8 × List Value // p.1.length = 32 ∧ p.2.length = 2 ∧ ∀ v ∈ p.2, v.oneCell' = true}
instance : Inhabited CelW := ⟨⟨(List.replicate 32 0, [.int .i64 0, .int .i64 0]), by decide, rfl, fun v hv => by simp at hv; subst hv; rfl⟩⟩
def encW (x : CelW) : List Value := x.1.1.map B8 ++ x.1.2
theorem encW_len (x : CelW) : (encW x).length = 34 := by simp [encW, x.2.1, x.2.2.1]
theorem encW_one (x : CelW) : ∀ v ∈ encW x, v.oneCell' = true := fun v hv => by
  unfold encW at hv
  rcases List.mem_append.1 hv with h | h
  · obtain ⟨u, _, rfl⟩ := List.mem_map.1 h; rfl
  exact x.2.2.2 v h
def cfW (x y : CelW) : Int := Lib.compareBytes x.1.1 y.1.1
set_option maxHeartbeats 1000000 in
set_option maxRecDepth 100000 in
theorem srw_cmp (x y : CelW) (W : World) : Calls Tryz.prog 96 #[.agg (encW x).toArray, .agg (encW y).toArray] W fun e w' => e = .returned (.int .i64 (cfW x y)) ∧ ∃ q os', w' = Sort.grow (W.drewN q) os' := by
  have hc := fun W' => pcmp_any x.1.1 y.1.1 x.2.1 y.2.1 W'
  have ld : ∀ (z : CelW) (b : Nat) (W' : World), W'.heap[b]? = some (.cells (encW z).toArray 60) → (loadVar 24 ⟨b, 0, none⟩).run Tryz.prog W' = .ok (.agg (z.1.1.map B8).toArray) W' := fun z b W' hb => by
    refine run_loadV (g := ⟨fun _ _ => none, [], []⟩) (Tab.get_ok tab_ok (t := 24) (i := ti24) rfl) (a := .ba z.1.1) (.ba z.2.1) fun j u hu => ?_
    unfold World.cell?
    rw [show W'.heap[(⟨b, 0 + j, none⟩ : Addr).block]? = _ from hb]
    show (encW z).toArray[0 + j]? = some u
    rw [Nat.zero_add, List.getElem?_toArray, encW, List.getElem?_append_left (by have := (List.getElem?_eq_some_iff.1 hu).1; exact this)]
    exact hu
  have b1 : ((W.alloc (.cells (encW x).toArray 60)).alloc (.cells (encW y).toArray 60)).heap[W.heap.size]? = some (.cells (encW x).toArray 60) := by
    have h := new_at W (.cells (encW x).toArray 60)
    have hs := size_alloc W (.cells (encW x).toArray 60)
    show ((W.alloc _).heap.push _)[W.heap.size]? = _
    rw [Array.getElem?_push_lt (by omega)]
    rw [Array.getElem?_eq_getElem (by omega)] at h
    exact h
  have b2 : ((W.alloc (.cells (encW x).toArray 60)).alloc (.cells (encW y).toArray 60)).heap[W.heap.size + 1]? = some (.cells (encW y).toArray 60) := by
    have h := new_at (W.alloc (.cells (encW x).toArray 60)) (.cells (encW y).toArray 60)
    rw [size_alloc] at h
    exact h
  go_enter Tryz.func96, Tryz.ntmps96
  iterate 21 go_step
  refine op_ld (ld x _ _ b1) rfl rfl ?_
  iterate 5 go_step
  refine op_ld (ld y _ _ b2) rfl rfl ?_
  go_wp2_with (first | (go_at_call 81; refine (hc _).mono ?_; rintro e w' ⟨rfl, q, os, rfl⟩))
  go_ret
  exact ⟨rfl, q, _, by rw [Sort.alloc_eq_grow, Sort.alloc_eq_grow, Sort.grow_grow]; show Sort.grow (Sort.grow (W.drewN q) _) os = _; rw [Sort.grow_grow]⟩
theorem flat_celW (cs : List CelW) : cs.flatMap encW = (List.range cs.length).flatMap fun k => encW cs[k]! := by
  have h : ∀ (l : List CelW), l = (List.range l.length).map fun k => l[k]! := fun l => by
    apply List.ext_getElem?
    intro i
    rw [List.getElem?_map]
    by_cases hi : i < l.length
    · rw [List.getElem?_range hi, List.getElem?_eq_getElem hi]; simp [hi]
    rw [List.getElem?_eq_none (by omega), List.getElem?_eq_none (by simpa using hi)]; rfl
  conv => lhs; rw [h cs]
  rw [List.flatMap_map]
theorem flatK_celW (cs : List CelW) : Go.Sort.flatK encW 34 cs.toArray = (cs.flatMap encW).toArray := by
  have hl : (cs.flatMap encW).length = cs.length * 34 := by rw [flat_celW]; exact flat_len _ fun k _ => encW_len _
  apply Array.ext_getElem?
  intro j
  by_cases hj : j < cs.length * 34
  · have h1 : j / 34 < cs.length := by omega
    have hx : (encW cs[j / 34]!)[j % 34]? = some ((encW cs[j / 34]!)[j % 34]'(by rw [encW_len]; omega)) := List.getElem?_eq_getElem _
    have := flat_get (F := fun k => encW cs[k]!) (s := 34) cs.length (fun k _ => encW_len _) (j / 34) (j % 34) _ h1 hx
    rw [show j / 34 * 34 + j % 34 = j by omega, ← flat_celW] at this
    have eR : (cs.flatMap encW).toArray[j]? = some ((encW cs[j / 34]!)[j % 34]'(by rw [encW_len]; omega)) := by rw [List.getElem?_toArray]; exact this
    have e := Go.Sort.get_flatK encW 34 cs.toArray j (by simpa using hj)
    rw [eR, Array.getElem?_eq_getElem (by simpa using hj)]
    congr 1
    rw [getElem!_pos (Go.Sort.flatK encW 34 cs.toArray) j (by simpa using hj)] at e
    rw [e]
    have e2 : (cs.toArray)[j / 34]! = cs[j / 34]! := by simp [h1]
    rw [e2, getElem!_pos (encW cs[j / 34]!) (j % 34) (by rw [encW_len]; omega)]
  rw [Array.getElem?_eq_none (by simpa using hj), Array.getElem?_eq_none (by simp [hl]; omega)]
theorem swo_W : Go.Sort.SWO (ltOf cfW) := by
  have tot : ∀ p q : List UInt8, p.length = 32 → q.length = 32 → p = q ∨ ltB p q ∨ ltB q p := fun p q hp hq => by
    by_cases h : com p q < 256
    · have h1 := com_agree p q; have h2 := com_ne p q h
      cases hb : bitN p (com p q) with
      | false => exact .inr (.inl ⟨_, h, h1, hb, by rw [hb] at h2; simpa using h2.symm⟩)
      | true => exact .inr (.inr ⟨_, h, h1.symm, by rw [hb] at h2; simpa using h2.symm, hb⟩)
    exact .inl (agree_eq hp hq fun t ht => com_agree p q t (by omega))
  have e : ∀ x y : CelW, ltOf cfW x y = true ↔ ltB x.1.1 y.1.1 := fun x y => by
    unfold ltOf cfW; rw [decide_eq_true_eq]; exact cmp_ltB x.2.1 y.2.1
  have en : ∀ x y : CelW, ltOf cfW x y = false ↔ ¬ ltB x.1.1 y.1.1 := fun x y => by rw [← e, Bool.not_eq_true]
  refine ⟨fun x => (en x x).2 fun h => h.irr, fun x y z h1 h2 => (e x z).2 (((e x y).1 h1).trans ((e y z).1 h2)), fun x y z h1 h2 => (en x z).2 fun h => ?_⟩
  have h1 := (en x y).1 h1; have h2 := (en y z).1 h2
  rcases tot x.1.1 y.1.1 x.2.1 y.2.1 with q | q | q
  · rw [q] at h; exact h2 h
  · exact h1 q
  exact h2 (q.trans h)
theorem srw_blk (cs : List CelW) (sp : List Value) (b cap : Nat) {t : TypeId} (w : World) (hb : Blk w b t (cs.flatMap encW ++ sp).toArray) (hsz : cs.length < 4611686018427387904) :
    Calls Tryz.prog 95 #[.slice (some ⟨b, 0, none⟩) cs.length cap, .func (.func 96) #[] #[]] w fun e w' => e = .returned (.tuple #[]) ∧
      ∃ ds : List CelW, ds.Perm cs ∧ (∀ i j, i < j → j < ds.length → ltOf cfW ds[j]! ds[i]! = false) ∧ Blk w' b t (ds.flatMap encW ++ sp).toArray ∧ (∀ j, j < w.heap.size → j ≠ b → w'.heap[j]? = w.heap[j]?) ∧ w.heap.size ≤ w'.heap.size ∧ w'.os = w.os ∧ w'.tape = w.tape ∧ w'.output = w.output := by
  have hl : (cs.flatMap encW).length = cs.length * 34 := by rw [flat_celW]; exact flat_len _ fun k _ => encW_len _
  have hH : Go.Sort.HoldsK encW 34 w b 0 cs.toArray := fun j hj => by
    have hj' : j < cs.length * 34 := by simpa using hj
    refine ⟨?_, frozen_of_row w b (0 + j) _ t hb⟩
    rw [hb.cell, Nat.zero_add, List.getElem?_toArray, List.getElem?_append_left (by omega), flatK_celW]
    rw [List.getElem?_eq_getElem (by omega)]
    simp [hl, hj', getElem!_pos]
  have h := AnyQ.slices_SortFunc srwL 34 Tryz.isAgg60 Tryz.sizeOf60 encW encW_len encW_one cfW swo_W 96 #[] b 0 cap cs.toArray w (enters_of Tryz.func96 (by kernel_rfl) rfl) (fun _ _ _ _ x y => srw_cmp x y _) hH hb.lt (by simpa using hsz)
  refine h.mono ?_
  rintro e w' ⟨rfl, d', n, os, ⟨p1, _, p3⟩, hs, rfl⟩
  have hsz' : d'.size = cs.length := by simpa using p1
  refine ⟨rfl, d'.toList, ?_, fun i j hij hj => ?_, ?_, fun j hj hne => ?_, ?_, rfl, rfl, rfl⟩
  · have e1 : (d'.extract 0 cs.toArray.size) = d' := by rw [← p1, Array.extract_size]
    have e2 : (cs.toArray.extract 0 cs.toArray.size) = cs.toArray := by rw [Array.extract_size]
    rw [e1, e2] at p3
    exact p3
  · have := hs i j (Nat.zero_le _) hij (by simp at hj ⊢; omega)
    rw [getElem!_pos d'.toList j hj, getElem!_pos d'.toList i (by omega)]
    rw [getElem!_pos d' j (by simpa using hj), getElem!_pos d' i (by simp at hj; omega)] at this
    simpa using this
  · have hsz2 : (d'.toList.flatMap encW).length = cs.length * 34 := by rw [flat_celW, flat_len _ fun k _ => encW_len _]; simp [hsz']
    have hblt := hb.lt
    unfold Blk at hb ⊢
    simp only [sortWorldK, Go.Sort.putRowK, Go.Sort.grow, Go.Sort.putRow, Go.Sort.mapBlock, Go.Sort.ahead]
    rw [Array.getElem?_append_left (by simpa using hblt), Array.getElem?_modify, if_pos rfl, hb]
    simp only [Option.map_some, Go.Sort.onCells]
    congr 2
    have ef := flatK_celW d'.toList
    rw [Array.toArray_toList] at ef
    apply Array.ext_getElem?
    intro j
    simp only [Go.Sort.putCells, Array.getElem?_mapIdx, List.getElem?_toArray, Nat.zero_le, true_and, Nat.zero_add, Nat.sub_zero, List.size_toArray]
    rw [ef]
    by_cases hj : j < cs.length * 34
    · rw [List.getElem?_append_left (by omega), List.getElem?_append_left (by omega)]
      simp [hj, getElem!_pos, hl, hsz2]
    rw [List.getElem?_append_right (by omega), List.getElem?_append_right (by omega), hl, hsz2]
    simp only [List.size_toArray, hsz2]
    cases sp[j - cs.length * 34]? with
    | none => rfl
    | some x => simp [hj]
  · simp only [sortWorldK, Go.Sort.putRowK, Go.Sort.grow, Go.Sort.putRow, Go.Sort.mapBlock, Go.Sort.ahead]
    rw [Array.getElem?_append_left (by simpa using hj), Array.getElem?_modify, if_neg (fun e => hne e.symm)]
  simp [sortWorldK, Go.Sort.putRowK, Go.Sort.grow, Go.Sort.putRow, Go.Sort.mapBlock, Go.Sort.ahead]
abbrev Wr := List UInt8 × Bool × List UInt8
abbrev wrT : Ty := .cn (.ba 32) (.cn .sc (.cn .sc .nl))
def wrA (p : Wr) : AV := .st [.ba p.1, .v (.bool p.2.1), .bs p.2.2 none]
def K32W (l : List Wr) : Prop := ∀ x ∈ l, x.1.length = 32
def DisW (l : List Wr) : Prop := l.Pairwise fun x y => x.1 ≠ y.1
def RisW (l : List Wr) : Prop := l.Pairwise fun x y => ltB x.1 y.1
theorem ltB_totW {p q : List UInt8} (hp : p.length = 32) (hq : q.length = 32) : p = q ∨ ltB p q ∨ ltB q p := by
  by_cases h : com p q < 256
  · have h1 := com_agree p q; have h2 := com_ne p q h
    cases hb : bitN p (com p q) with
    | false => exact .inr (.inl ⟨_, h, h1, hb, by rw [hb] at h2; simpa using h2.symm⟩)
    | true => exact .inr (.inr ⟨_, h, h1.symm, by rw [hb] at h2; simpa using h2.symm, hb⟩)
  exact .inl (agree_eq hp hq fun t ht => com_agree p q t (by omega))
def insW (p : Wr) : List Wr → List Wr
  | [] => [p]
  | q :: l => if Lib.compareBytes p.1 q.1 < 0 then p :: q :: l else q :: insW p l
theorem insW_perm (p : Wr) : ∀ l, (insW p l).Perm (p :: l)
  | [] => .refl _
  | q :: l => by
    unfold insW
    split
    · exact .refl _
    exact ((insW_perm p l).cons q).trans (.swap p q l)
def srtW (l : List Wr) : List Wr := l.foldr insW []
theorem srtW_perm : ∀ l, (srtW l).Perm l
  | [] => .refl _
  | p :: l => (insW_perm p (srtW l)).trans ((srtW_perm l).cons p)
theorem insW_ris (p : Wr) (hp : p.1.length = 32) : ∀ l, K32W l → RisW l → (∀ x ∈ l, p.1 ≠ x.1) → RisW (insW p l)
  | [], _, _, _ => by unfold insW RisW; simp
  | q :: l, hk, hr, hn => by
    obtain ⟨h1, h2⟩ := List.pairwise_cons.1 hr
    have hq := hk q List.mem_cons_self
    have hc : Lib.compareBytes p.1 q.1 < 0 ↔ ltB p.1 q.1 := cmp_ltB hp hq
    unfold insW
    split
    · rename_i hlt
      refine List.pairwise_cons.2 ⟨fun y hy => ?_, hr⟩
      rcases List.mem_cons.1 hy with rfl | hy
      · exact hc.1 hlt
      exact (hc.1 hlt).trans (h1 y hy)
    rename_i hlt
    refine List.pairwise_cons.2 ⟨fun y hy => ?_, insW_ris p hp l (fun x hx => hk x (List.mem_cons_of_mem _ hx)) h2 fun x hx => hn x (List.mem_cons_of_mem _ hx)⟩
    rcases List.mem_cons.1 ((insW_perm p l).mem_iff.1 hy) with rfl | hy
    · rcases ltB_totW hp hq with e | e | e
      · exact absurd e (hn q List.mem_cons_self)
      · exact absurd (hc.2 e) hlt
      exact e
    exact h1 y hy
theorem K32W.perm {l m : List Wr} (h : K32W l) (hp : m.Perm l) : K32W m := fun x hx => h x (hp.mem_iff.1 hx)
theorem srtW_ris : ∀ l, K32W l → DisW l → RisW (srtW l)
  | [], _, _ => List.Pairwise.nil
  | p :: l, hk, hd => by
    obtain ⟨h1, h2⟩ := List.pairwise_cons.1 hd
    have hk2 : K32W l := fun x hx => hk x (List.mem_cons_of_mem _ hx)
    exact insW_ris p (hk p List.mem_cons_self) (srtW l) (hk2.perm (srtW_perm l)) (srtW_ris l hk2 h2) fun x hx => h1 x ((srtW_perm l).mem_iff.1 hx)
theorem risW_uniq : ∀ l m : List Wr, RisW l → RisW m → l.Perm m → l = m
  | [], m, _, _, h => (List.nil_perm.1 h).symm
  | a :: l, [], _, _, h => absurd h.length_eq (by simp)
  | a :: l, b :: m, h1, h2, h => by
    obtain ⟨a1, a2⟩ := List.pairwise_cons.1 h1
    obtain ⟨b1, b2⟩ := List.pairwise_cons.1 h2
    have e : a = b := by
      rcases List.mem_cons.1 (h.mem_iff.1 List.mem_cons_self) with e | e
      · exact e
      rcases List.mem_cons.1 (h.symm.mem_iff.1 List.mem_cons_self) with e2 | e2
      · exact e2.symm
      exact ((a1 b e2).trans (b1 a e)).irr.elim
    subst e
    rw [risW_uniq l m a2 b2 (List.Perm.cons_inv h)]
theorem permW_lift {α β : Type} {f : α → β} {cs ds : List β} (h : cs.Perm ds) : ∀ z : List α, z.map f = cs → ∃ z', z.Perm z' ∧ z'.map f = ds := by
  induction h with
  | nil => intro z hz; exact ⟨z, .refl _, hz⟩
  | cons x h ih =>
    intro z hz
    cases z with
    | nil => cases hz
    | cons y z =>
      simp only [List.map_cons, List.cons.injEq] at hz
      obtain ⟨z', h1, h2⟩ := ih z hz.2
      exact ⟨y :: z', h1.cons y, by simp [hz.1, h2]⟩
  | swap x y l =>
    intro z hz
    match z, hz with
    | a :: b :: z, hz =>
      simp only [List.map_cons, List.cons.injEq] at hz
      exact ⟨b :: a :: z, .swap b a z, by simp [hz.1, hz.2.1, hz.2.2]⟩
  | trans h1 h2 ih1 ih2 =>
    intro z hz
    obtain ⟨z', k1, k2⟩ := ih1 z hz
    obtain ⟨z'', k3, k4⟩ := ih2 z' k2
    exact ⟨z'', k1.trans k3, k4⟩
theorem srtW_of (zs : List (Wr × CelW)) (hz : ∀ z ∈ zs, z.2.1.1 = z.1.1) (hd : DisW (zs.map (·.1))) {ds : List CelW} (hp : ds.Perm (zs.map (·.2))) (hs : ∀ i j, i < j → j < ds.length → ltOf cfW ds[j]! ds[i]! = false) :
    ∃ z' : List (Wr × CelW), z'.Perm zs ∧ z'.map (·.2) = ds ∧ z'.map (·.1) = srtW (zs.map (·.1)) := by
  obtain ⟨z', h1, h2⟩ := permW_lift hp.symm zs rfl
  refine ⟨z', h1.symm, h2, ?_⟩
  have hk : K32W (zs.map (·.1)) := fun x hx => by
    obtain ⟨z, hz1, rfl⟩ := List.mem_map.1 hx
    rw [← hz z hz1]; exact z.2.2.1
  have hpm : (z'.map (·.1)).Perm (zs.map (·.1)) := (h1.map _).symm
  refine risW_uniq _ _ ?_ (srtW_ris _ hk hd) (hpm.trans (srtW_perm _).symm)
  have hd' : DisW (z'.map (·.1)) := (hpm.pairwise_iff (fun h => h.symm)).2 hd
  unfold RisW
  rw [List.pairwise_iff_getElem]
  intro i j hi hj hij
  have hj' : j < z'.length := by simpa using hj
  have hi' : i < z'.length := by omega
  have hne := (List.pairwise_iff_getElem.1 hd') i j hi hj hij
  rw [List.getElem_map, List.getElem_map] at hne ⊢
  have hzi : z'[i].2.1.1 = z'[i].1.1 := hz _ (h1.symm.mem_iff.1 (List.getElem_mem hi'))
  have hzj : z'[j].2.1.1 = z'[j].1.1 := hz _ (h1.symm.mem_iff.1 (List.getElem_mem hj'))
  have hs' := hs i j hij (by rw [← h2]; simpa using hj')
  have ei : ds[i]! = z'[i].2 := by rw [← h2]; simp [hi']
  have ej : ds[j]! = z'[j].2 := by rw [← h2]; simp [hj']
  rw [ei, ej] at hs'
  unfold ltOf cfW at hs'
  rw [decide_eq_false_iff_not, cmp_ltB z'[j].2.2.1 z'[i].2.2.1, hzi, hzj] at hs'
  have l1 : z'[i].1.1.length = 32 := by rw [← hzi]; exact z'[i].2.2.1
  have l2 : z'[j].1.1.length = 32 := by rw [← hzj]; exact z'[j].2.2.1
  rcases ltB_totW l1 l2 with e | e | e
  · exact absurd e hne
  · exact e
  exact absurd e hs'
theorem wr_cel {g : Gh} {p : Wr} {cs : List Value} (h : RC g wrT (wrA p) cs) : ∃ c : CelW, c.1.1 = p.1 ∧ cs = encW c := by
  unfold wrA at h
  obtain ⟨c, d, rfl, h1, h2⟩ := h.st_inv
  obtain ⟨c2, d2, rfl, h3, h4⟩ := h2.st_inv
  obtain ⟨c3, d3, rfl, h5, h6⟩ := h4.st_inv
  obtain ⟨e1, rfl⟩ := h1.ba_inv
  injection e1 with e1
  obtain ⟨_, rfl⟩ := h3.v_inv
  obtain ⟨_, A, c, rfl, _⟩ := h5.bs_inv
  cases h6
  exact ⟨⟨(p.1, [.bool p.2.1, .slice A p.2.2.length c]), e1.symm, rfl, fun v hv => by
    rcases List.mem_cons.1 hv with rfl | hv
    · rfl
    rw [List.mem_singleton.1 hv]; rfl⟩, rfl, by simp [encW]⟩
theorem zipW_of {g : Gh} {F : Nat → List Value} : ∀ (l : List Wr) (s : Nat), (∀ k (h : k < l.length), RC g wrT (wrA l[k]) (F (s + k))) → ∃ zs : List (Wr × CelW), zs.map (·.1) = l ∧ (∀ z ∈ zs, z.2.1.1 = z.1.1 ∧ RC g wrT (wrA z.1) (encW z.2)) ∧ (List.range l.length).flatMap (fun k => F (s + k)) = (zs.map (·.2)).flatMap encW
  | [], _, _ => ⟨[], rfl, (fun z hz => (by cases hz)), rfl⟩
  | p :: l, s, h => by
    obtain ⟨zs, h1, h2, h3⟩ := zipW_of l (s + 1) fun k hk => by
      have := h (k + 1) (by simpa using hk)
      rw [show s + 1 + k = s + (k + 1) by omega]
      simpa using this
    have h0 := h 0 (by simp)
    simp only [List.getElem_cons_zero, Nat.add_zero] at h0
    obtain ⟨c, hc1, hc2⟩ := wr_cel h0
    refine ⟨(p, c) :: zs, by simp [h1], fun z hz => ?_, ?_⟩
    · rcases List.mem_cons.1 hz with rfl | hz
      · exact ⟨hc1, by rw [← hc2]; exact h0⟩
      exact h2 z hz
    rw [List.length_cons, List.range_succ_eq_map, List.flatMap_cons, List.flatMap_map, Nat.add_zero, hc2]
    simp only [List.map_cons, List.flatMap_cons]
    congr 1
    rw [← h3]
    congr 1
    funext k
    show F (s + (k + 1)) = F (s + 1 + k)
    congr 1; omega
theorem sortW_v (l : List Wr) (γ : Nat) (hd : DisW l) (hn : l.length ≤ 4294967296) : VX Tryz.prog 95 [(.vc 60 wrT, .vc γ (l.map wrA))] [] [] [.vw 0 γ l.length, .v (.func (.func 96) #[] #[])]
    [(.vc 60 wrT, .vc γ ((srtW l).map wrA))] [] [] (.tup []) := by
  refine ⟨⟨Tryz.f95, Tryz.func95, by kernel_rfl, by kernel_rfl⟩, fun w N vs HI hlen hv => ?_⟩
  obtain ⟨v, u, rfl⟩ : ∃ v u, vs = [v, u] := by
    match vs, hlen with
    | [v, u], _ => exact ⟨v, u, rfl⟩
  have h0 := hv 0 _ v rfl rfl
  have hu := (hv 1 _ u rfl rfl).v_inv
  subst hu
  obtain ⟨_, y, e9, T9, A, c, e1, hy, hty, hle, hnc, hm, hxx⟩ := h0.vw_inv.vw_inv
  injection e1 with e1; subst e1
  obtain ⟨y', hy', hyT, hbc⟩ := HI.br.at_ 0 _ _ (by rfl)
  rw [hy] at hy'; injection hy' with hy'; subst hy'
  obtain ⟨T2, F, sp, ⟨e4, he4, htid⟩, hmp, hgen, hT0, hcm, hcs, hcl, hsp, hFk⟩ := hbc.vc_inv
  injection he4 with he40 he41; subst he40 he41
  obtain ⟨hcc, hA⟩ := hxx hgen
  have hlm : (l.map wrA).length = l.length := List.length_map ..
  obtain ⟨zs, z1, z2, z3⟩ := zipW_of (g := N.base) (F := F) l 0 fun k hk => by
    have := hFk k (by rw [hlm]; exact hk)
    rw [List.getElem_map] at this
    rw [Nat.zero_add]; exact this
  simp only [Nat.zero_add] at z3
  have hzl : zs.length = l.length := by rw [← z1, List.length_map]
  have hfz : y.fz = false := by
    cases e : y.fz with
    | false => rfl
    | true => exact absurd (HI.fz 0 y hy e) (by simp)
  rw [hlm] at hcs
  rcases hA with ⟨ho, rfl⟩ | ⟨ho, rfl⟩
  · have hc0 := hcm.2 ho
    have hl0 : l = [] := List.length_eq_zero_iff.1 (by omega)
    subst hl0
    refine (AnyF.slices_SortFunc_none srwL none c _ w).mono ?_
    rintro e w' ⟨rfl, rfl⟩
    exact ⟨N, _, rfl, HI, ⟨[], rfl, rfl, fun i a u ha _ => by simp at ha⟩⟩
  have hblk := (HI.mem.bx 0 y hy ho).c hmp
  rw [htid, hcs, z3] at hblk
  have hsb := srw_blk (zs.map (·.2)) sp y.blk c w hblk (by rw [List.length_map]; omega)
  rw [List.length_map, hzl] at hsb
  refine hsb.mono ?_
  rintro e w' ⟨rfl, ds, hp, hs, hb2, hold, hsz, ho2, ht2, hu2⟩
  obtain ⟨z', p1, p2, p3⟩ := srtW_of zs (fun z hz => (z2 z hz).1) (by rw [z1]; exact hd) hp hs
  rw [z1] at p3
  have hz'l : z'.length = l.length := by rw [← hzl]; exact p1.length_eq
  have hsl : (srtW l).length = l.length := (srtW_perm l).length_eq
  have hds : ds.flatMap encW = (List.range l.length).flatMap fun k => encW ds[k]! := by
    rw [flat_celW, show ds.length = l.length by rw [← p2, List.length_map, hz'l]]
  have hF2 : ∀ k, k < l.length → RC N.base wrT (wrA ((srtW l)[k]!)) (encW ds[k]!) := fun k hk => by
    have hk' : k < z'.length := by omega
    have e1 : ds[k]! = z'[k].2 := by rw [← p2]; simp [hk']
    have e2 : (srtW l)[k]! = z'[k].1 := by rw [← p3]; simp [hk']
    rw [e1, e2]
    exact (z2 _ (p1.mem_iff.1 (List.getElem_mem hk'))).2
  have hlen2 : (ds.flatMap encW).length = (zs.map (·.2)).length * 34 := by rw [hds, flat_len _ fun k _ => encW_len _, List.length_map, hzl]
  have hlen1 : ((zs.map (·.2)).flatMap encW).length = (zs.map (·.2)).length * 34 := by rw [flat_celW, flat_len _ fun k _ => encW_len _]
  obtain ⟨g', h1, h2, h3⟩ := HI.upd (x' := { y with cells := ds.flatMap encW ++ sp }) (w' := w') (a := .vc γ ((srtW l).map wrA)) hy (by simp)
    (by unfold Bx.own; rw [ho]; exact ⟨ho2, ht2, hu2, hsz, fun k hk hne => hold k hk (fun e => hne (by rw [e]; rfl))⟩) rfl hfz (Nat.le_refl _) (fun _ => ⟨rfl, rfl, rfl⟩)
    (fun _ => ⟨.of hmp (by show Blk w' y.blk y.tid _; rw [htid]; exact hb2), .inr ⟨ho, rfl⟩⟩) (fun e => by rw [show ({ y with cells := ds.flatMap encW ++ sp } : Bx).off = y.off from rfl, ho] at e; cases e) (fun e => by rw [show ({ y with cells := ds.flatMap encW ++ sp } : Bx).mp = y.mp from rfl, hmp] at e; cases e)
    (by
      rw [hyT]
      refine .inr (.inl ⟨wrT, γ, (srtW l).map wrA, fun k => encW ds[k]!, sp, ⟨_, rfl, htid⟩, rfl, hmp, hgen, hT0, hcm, ?_, ?_, hsp, fun k hk => ?_⟩)
      · show ds.flatMap encW ++ sp = _
        rw [hds, List.length_map, hsl]
      · show (ds.flatMap encW ++ sp).length = _
        rw [← hcl, hcs, z3, List.length_append, List.length_append, hlen2, hlen1]
      rw [List.length_map] at hk
      rw [List.getElem_map]
      have := hF2 k (by omega)
      rw [getElem!_pos (srtW l) k hk] at this
      exact this)
  rw [hyT] at h2
  exact ⟨g', _, rfl, h2, ⟨[], rfl, rfl, fun i a u ha _ => by simp at ha⟩⟩
theorem tup2_rv {g : Gh} {x : AV} {u : Value} (h : RV1 g x u) (b : Bool) : RV g (.tup [x, .v (.bool b)]) (.tuple #[u, .bool b]) := by
  refine ⟨[u, .bool b], rfl, rfl, fun i a v ha hv => ?_⟩
  match i, ha, hv with
  | 0, ha, hv => injection ha with ha; injection hv with hv; subst ha hv; exact h
  | 1, ha, hv => injection ha with ha; injection hv with hv; subst ha hv; exact .inr (.v rfl)
  | i + 2, ha, hv => simp at ha
section
variable {P : Program} {τ : Tab} {w0 w : World} {N : Gh} {g : Gh} {st : St} {nt : Nat} {a : Act}
theorem v_look2 {ops : Array Oper} {Q : Exit → Act → World → Prop} {rest : List Oper} {o : Oper} {t kt et i n : Nat} {m kx : Operand} {V : Ty} {ks : List (List UInt8)} {vs : List AV} {kl : List UInt8} {z : AV} {zv : Value} (hKT : KT P kt n) (H : Rel P w0 N nt st a w)
    (ht : P.underlying t = some (.map kt et)) (hz : ∀ w, (zeroValue et).run P w = .ok zv w) (hzr : ∀ g, RV1 g z zv) (hl : kl.length = n)
    (k1 : kl ∉ ks → ∀ a w, Rel P w0 N nt (st.put o.dst none (.tup [z, .v (.bool false)])) a w → wpList P ops Q rest a w) (k2 : ∀ (j : Nat) (v : AV), ks[j]? = some kl → vs[j]? = some v → ∀ a w, Rel P w0 N nt (st.put o.dst none (.tup [v, .v (.bool true)])) a w → wpList P ops Q rest a w)
    (hgd : o.guard = none := by rfl) (ho : o.op = .lookup t m kx true := by rfl) (hd : okDst nt none o.dst = true := by rfl) (hm : st.ev none m = .mr i := by rfl) (hk : st.ev none kx = .ba kl := by rfl) (hb : st.bx[i]? = some (.mp (.ba n) V, .mp (ks.map .ba) vs) := by rfl) : wpList P ops Q (o :: rest) a w := by
  obtain ⟨g, HI, hF⟩ := H
  obtain ⟨x, es, clk, hx, hty, hoff, hmp, hc, hheap, hkl, hvl, hall⟩ := map_at HI hb
  have em := ev_sound hF (c := none) trivial m
  have ek := ev_sound hF (c := none) trivial kx
  rw [hm] at em; rw [hk] at ek
  have ek := ek.ba_inv
  have em2 : a.eval m = .map (some x.blk) := by
    have h3 := em.mr_inv
    generalize a.eval m = u at h3
    cases h3 with
    | mr h hT => rw [hx] at h; injection h with h; subst h; rfl
  have hget : (getObj x.blk).run P w = .ok (.map es clk) w := MapKept.run_getObj_map hheap
  have hchk : (Instr.checkKey es.isEmpty 10000 kt (a.eval kx)).run P w = .ok () w := by
    obtain ⟨q, hq⟩ := hKT.key kl hl
    rw [ek]; exact hKT.law.check w _ hq
  refine wpList_plain hgd fun K hK => ?_
  unfold Oper.wp
  have he : (execOp a.eval o).run P w = ((Instr.lookup t (a.eval m) (a.eval kx) true).run P w).andThen fun v w => .ok (.value v) w := by
    obtain ⟨dst, op, ty, pos, after, gd⟩ := o
    dsimp only at ho
    subst ho
    simp only [execOp, Sem.run_bind, Sem.run_pure]
  have hu : (underlying t).run P w = .ok (.map kt et) w := run_underlying ht w
  rw [he]
  rcases find_at hKT hkl (fun k h h1 => ⟨(hall k h h1 (by omega)).1, (hall k h h1 (by omega)).2.1⟩) hl w with ⟨h1, h2⟩ | ⟨j, hj, h1, h2⟩
  · have hr : (Instr.lookup t (a.eval m) (a.eval kx) true).run P w = .ok (.tuple #[zv, .bool false]) w := by
      rw [em2]
      unfold Instr.lookup
      simp only [Sem.run_bind, hu, Result.andThen_ok, hget, Sem.run_pure, hchk]
      rw [ek, h1]
      simp [hz]
    rw [hr]
    simp only [Result.andThen_ok, Oper.upon_value]
    refine hK _ _ (k1 h2 _ _ ⟨g, ?_, hF.put hd (fun _ => tup2_rv (hzr g) false) rfl (fun h => absurd trivial h)⟩)
    cases o.dst <;> exact HI
  have hr : (Instr.lookup t (a.eval m) (a.eval kx) true).run P w = .ok (.tuple #[es[j].val, .bool true]) w := by
    rw [em2]
    unfold Instr.lookup
    simp only [Sem.run_bind, hu, Result.andThen_ok, hget, Sem.run_pure, hchk]
    rw [ek, h2]
    simp
  rw [hr]
  simp only [Result.andThen_ok, Oper.upon_value]
  obtain ⟨_, _, ds, q1, q2⟩ := hall j hj (by omega) (by omega)
  refine hK _ _ (k2 j vs[j] h1 (List.getElem?_eq_getElem _) _ _ ⟨g, ?_, hF.put hd (fun _ => by rw [q2]; exact tup2_rv (q1.mono g.base_le).rv true) rfl (fun h => absurd trivial h)⟩)
  cases o.dst <;> exact HI
end
theorem ktW : KT Tryz.prog 24 32 := KT.of Tryz.underlying24 Tryz.underlying5 (by kernel_rfl) (by kernel_rfl) (by kernel_rfl) (by kernel_rfl) (by kernel_rfl) (by decide +kernel)
def putW : List Wr → Wr → List Wr
  | [], w => [w]
  | x :: l, w => if x.1 = w.1 then w :: l else x :: putW l w
def keyW (l : List Wr) : List (List UInt8) := l.map (·.1)
theorem putW_new : ∀ (l : List Wr) (w : Wr), w.1 ∉ keyW l → putW l w = l ++ [w]
  | [], w, _ => rfl
  | x :: l, w, h => by
    have h1 : ¬ x.1 = w.1 := fun e => h (by simp [keyW, e])
    have h2 : w.1 ∉ keyW l := fun e => h (by unfold keyW; exact List.mem_cons_of_mem _ e)
    unfold putW
    rw [if_neg h1, putW_new l w h2]; rfl
theorem putW_set : ∀ (l : List Wr) (w : Wr) (j : Nat), DisW l → (keyW l)[j]? = some w.1 → putW l w = l.set j w
  | [], w, j, _, h => by simp [keyW] at h
  | x :: l, w, 0, _, h => by
    have h1 : x.1 = w.1 := by simpa [keyW] using h
    unfold putW
    rw [if_pos h1]; rfl
  | x :: l, w, j + 1, hd, h => by
    obtain ⟨d1, d2⟩ := List.pairwise_cons.1 hd
    have h0 : (keyW l)[j]? = some w.1 := by simpa [keyW] using h
    have h1 : ¬ x.1 = w.1 := fun e => by
      obtain ⟨y, hy, e2⟩ := List.mem_map.1 (List.mem_of_getElem? h0)
      exact d1 y hy (e.trans e2.symm)
    unfold putW
    rw [if_neg h1, putW_set l w j d2 h0]; rfl
theorem putW_key : ∀ (l : List Wr) (w : Wr), keyW (putW l w) = if w.1 ∈ keyW l then keyW l else keyW l ++ [w.1]
  | [], w => by simp [putW, keyW]
  | x :: l, w => by
    have ih := putW_key l w
    unfold putW
    split
    · rename_i h
      simp [keyW, h]
    rename_i h
    have e : keyW (x :: putW l w) = x.1 :: keyW (putW l w) := rfl
    have e2 : keyW (x :: l) = x.1 :: keyW l := rfl
    rw [e, ih, e2]
    by_cases hm : w.1 ∈ keyW l
    · rw [if_pos hm, if_pos (List.mem_cons_of_mem _ hm)]
    rw [if_neg hm, if_neg (fun hc => by
      rcases List.mem_cons.1 hc with e | e
      · exact h e.symm
      exact hm e)]; rfl
theorem disW_key (l : List Wr) : DisW l ↔ (keyW l).Nodup := by
  unfold DisW keyW List.Nodup
  rw [List.pairwise_map]
theorem putW_dis {l : List Wr} {w : Wr} (h : DisW l) : DisW (putW l w) := by
  rw [disW_key] at h ⊢
  rw [putW_key]
  split
  · exact h
  rename_i hn
  exact List.nodup_append.2 ⟨h, by simp, fun a ha b hb => by rw [List.mem_singleton.1 hb]; exact fun e => hn (e ▸ ha)⟩
theorem putW_mem : ∀ {l : List Wr} {w x : Wr}, x ∈ putW l w → x = w ∨ x ∈ l
  | [], w, x, h => .inl (by simpa [putW] using h)
  | y :: l, w, x, h => by
    unfold putW at h
    split at h
    · rcases List.mem_cons.1 h with e | e
      · exact .inl e
      exact .inr (List.mem_cons_of_mem _ e)
    rcases List.mem_cons.1 h with e | e
    · exact .inr (by rw [e]; exact List.mem_cons_self)
    rcases putW_mem e with e | e
    · exact .inl e
    exact .inr (List.mem_cons_of_mem _ e)
theorem putW_len (l : List Wr) (w : Wr) : (putW l w).length ≤ l.length + 1 := by
  have h := congrArg List.length (putW_key l w)
  unfold keyW at h
  split at h <;> simp at h <;> omega
def nzW (w : Wr) : Wr := (w.1, w.2.1, if w.2.1 then [] else w.2.2)
def lstW (ws : List Wr) : List Wr := ws.foldl (fun l w => putW l (nzW w)) []
theorem lstW_snoc (ws : List Wr) (w : Wr) : lstW (ws ++ [w]) = putW (lstW ws) (nzW w) := by unfold lstW; rw [List.foldl_append]; rfl
theorem rev_indW {p : List Wr → Prop} (h0 : p []) (h1 : ∀ l w, p l → p (l ++ [w])) (l : List Wr) : p l := by
  have h : ∀ l : List Wr, p l.reverse := by
    intro l
    induction l with
    | nil => exact h0
    | cons w l ih => rw [List.reverse_cons]; exact h1 _ _ ih
  have := h l.reverse
  rwa [List.reverse_reverse] at this
theorem lstW_dis (ws : List Wr) : DisW (lstW ws) := by
  refine rev_indW (p := fun ws => DisW (lstW ws)) List.Pairwise.nil (fun ws w ih => ?_) ws
  rw [lstW_snoc]; exact putW_dis ih
theorem lstW_k32 (ws : List Wr) : K32W ws → K32W (lstW ws) := by
  refine rev_indW (p := fun ws => K32W ws → K32W (lstW ws)) (fun _ x hx => by cases hx) (fun ws w ih h => ?_) ws
  rw [lstW_snoc]
  intro x hx
  rcases putW_mem hx with e | e
  · rw [e]; exact h w (by simp)
  exact ih (fun y hy => h y (by simp [hy])) x e
theorem lstW_len (ws : List Wr) : (lstW ws).length ≤ ws.length := by
  refine rev_indW (p := fun ws => (lstW ws).length ≤ ws.length) (Nat.le_refl _) (fun ws w ih => ?_) ws
  rw [lstW_snoc, List.length_append]
  have := putW_len (lstW ws) (nzW w)
  show _ ≤ ws.length + 1
  omega
end Go.Proofs.YtgffimanhmpohaaGreat
