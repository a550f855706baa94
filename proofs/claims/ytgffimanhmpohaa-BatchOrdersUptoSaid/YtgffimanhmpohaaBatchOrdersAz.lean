/- The statement BatchOrders, in values. -/
import Derived.Test.YtgffimanhmpohaaApN
import Derived.Test.YtgffimanhmpohaaOrdWP
import Derived.Test.YtgffimanhmpohaaRef5
set_option linter.unusedSimpArgs false
set_option linter.unusedVariables false
namespace Go.Proofs.Ytgffimanhmpohaa
open Go Go.RowKit
attribute [local irreducible] wpT
set_option maxRecDepth 20000 in
set_option maxHeartbeats 16000000 in
theorem batchOrders_v (m : List Pr) (l : List Wr) (hK : K32 m) (hKW : K32W l) (hv : ∀ p ∈ m, p.2.length ≤ 34359730000) (hv2 : ∀ w ∈ l, w.2.2.length ≤ 34359730000) :
    VC Try.prog 3 [.sl prT (m.map prA) none, .sl wrT (l.map wrA) none] [] (.v (.bool true)) := by
  have hml : (m.map prA).length = m.length := List.length_map ..
  have hwl : (l.map wrA).length = l.length := List.length_map ..
  refine mE Try.func3 ?_; intro N w0 a w hN hR H
  have hX := And.intro @hml (@hwl)
  refine mW ?_; clear H; intro a w H
  refine mC H (fun hb => ?_) (fun hb => ?_)
  · refine mW ?_; clear H; intro a w H
    refine wp_ret ?_; exact mEnd [] [] [.tmp 4] [_] hN hR H
  · have hlen : m.length ≤ 80 ∧ l.length ≤ 80 := by
      cases hd : decide ((80 : Int) < (m.length : Int))
      · rw [hd] at hb
        have : decide ((80 : Int) < (l.length : Int)) = false := hb
        rw [decide_eq_false_iff_not] at this hd; omega
      · rw [hd] at hb; cases hb
    clear hb
    obtain ⟨g1, g2⟩ := hlen
    have hM : N.bx.length ≤ 0 ∧ N.rw.length ≤ 0 := ⟨hN, hR⟩
    have cP := lentP_E m hK hv (by omega)
    have cW := lentW_E l hKW hv2 (by omega)
    have hov : ∀ w ∈ srtW (lstW l), w.2.2.length ≤ 34359730000 := fun w hw => lstW_val l hv2 w ((srtW_perm _).mem_iff.1 hw)
    have cO := worder_E l hKW hov (by omega)
    have cR := rorder_v l hKW hv2 (by omega)
    rw [refF_eq l hKW] at cR
    have hvv : ∀ w ∈ m.map pwW ++ l, w.2.2.length ≤ 34359730000 := fun x hx => by
      rcases List.mem_append.1 hx with hx | hx
      · obtain ⟨p, hp1, rfl⟩ := List.mem_map.1 hx
        exact hv p hp1
      · exact hv2 x hx
    have hk2 : K32W (m.map pwW ++ l) := fun x hx => by
      rcases List.mem_append.1 hx with hx | hx
      · obtain ⟨p, hp1, rfl⟩ := List.mem_map.1 hx
        exact hK p hp1
      · exact hKW x hx
    have hzk : K32W (ovZ m l) := (lstW_k32 _ hk2).perm (srtW_perm _)
    have cV := wover_E m l hK hKW (fun w hw => lstW_val _ hvv w ((srtW_perm _).mem_iff.1 hw)) (by omega) (by omega)
    have cU := rover_v m l hK hKW hv hv2 (by omega) (by omega)
    have hZl : (ovZ m l).length ≤ m.length + l.length := by
      have h1 := lstW_len (m.map pwW ++ l)
      have h2 : (ovZ m l).length = (lstW (m.map pwW ++ l)).length := (srtW_perm _).length_eq
      rw [List.length_append, List.length_map] at h1; omega
    have hMl := liveW_len (ovZ m l)
    have hMk : ∀ z ∈ liveW (ovZ m l), z.1.length = 32 := fun z hz => by
      obtain ⟨w, h1, h2, _⟩ := liveW_mem _ z hz
      rw [← h2]; exact hzk w h1
    have hOk : K32W (srtW (lstW l)) := (lstW_k32 _ hKW).perm (srtW_perm _)
    have hOl : (srtW (lstW l)).length = (lstW l).length := (srtW_perm _).length_eq
    have hOl2 := lstW_len l
    have cK := wkeys_v l hKW (by omega)
    rw [← hOl] at cK hOl2
    clear hOl hov hvv hk2 hzk
    generalize liveW (ovZ m l) = M at *
    generalize srtW (lstW l) = O at *
    have cSW := sameW_v O hOk (by omega)
    have cSP := samePr_v M hMk (by omega)
    have cKP := keptP_v m hK hv (by omega)
    have cKW := keptW_v l hKW hv2 (by omega)
    have hMm : (M.map prA).length = M.length := List.length_map ..
    have hOm : (O.map wrA).length = O.length := List.length_map ..
    generalize ovZ m l = Zo at *
    refine mS ?_
    replace H := mK [0, 1, 4] 0 0 hN hR H
    refine mS ?_
    (try refine wp_region_lit ?_); refine mN 1 hN H ?_; clear H; intro a w H
    refine v_callE cP (FrX.refl _ _ _) (Nat.le_refl _) (Xs.nil _ _ _) H (by rintro Y bx' rw' res ⟨rfl, rfl, rfl, _⟩; exact ⟨by rfl, rfl⟩) ?_
    clear H
    rintro YP bx' rw' res a w1 ⟨rfl, rfl, rfl, hTP⟩ H
    replace H := nfX H
    clear hN hR
    rw [List.nil_append] at H
    obtain ⟨N1, hB, hZ, H, hN1, hR1⟩ := H.open_
    have hN : N1.bx.length ≤ 0 := Nat.le_of_eq hN1
    have hR : N1.rw.length ≤ 0 := Nat.le_of_eq hR1
    clear hN1 hR1
    have lP : YP.length = m.length := by have := hTP.1; rwa [List.length_map] at this
    (try refine wp_region_lit ?_); refine mN 1 hN H ?_; clear H; intro a w H
    refine v_callE cW hB (Nat.le_refl _) hZ H (by rintro Y bx' rw' res ⟨rfl, rfl, rfl, _⟩; exact ⟨by rfl, rfl⟩) ?_
    clear H
    rintro YW bx' rw' res a w2 ⟨rfl, rfl, rfl, hTW⟩ H
    replace H := nfX H
    clear hN hR hB hZ
    obtain ⟨N2, hB, hZ, H, hN1, hR1⟩ := H.open_
    have hN : N2.bx.length ≤ 0 := Nat.le_of_eq hN1
    have hR : N2.rw.length ≤ 0 := Nat.le_of_eq hR1
    clear hN1 hR1
    have lW : YW.length = l.length := by have := hTW.1; rwa [List.length_map] at this
    have hYW := wxs_len l YW lW
    clear hX; have hX := And.intro @hml (And.intro @hwl (@hYW))
    refine mW ?_; clear H; intro a w H
    replace H := v_seeX hZ H 27 _ (wxs_seeT hTW (fun x hx => List.mem_append_right _ hx)) rfl
    simp only [nilT, reduceIte, Nat.reduceEqDiff] at H
    refine v_callE cO hB (Nat.le_refl _) hZ H (by rintro Y bx' rw' res ⟨rfl, rfl, rfl, _⟩; exact ⟨by rfl, rfl⟩) ?_
    clear H
    rintro YA bx' rw' res a w3 ⟨rfl, rfl, rfl, hTA⟩ H
    replace H := nfX H
    clear hN hR hB hZ
    obtain ⟨N3, hB, hZ, H, hN1, hR1⟩ := H.open_
    have hN : N3.bx.length ≤ 0 := Nat.le_of_eq hN1
    have hR : N3.rw.length ≤ 0 := Nat.le_of_eq hR1
    clear hN1 hR1
    have lA : YA.length = O.length := by have := hTA.1; rwa [List.length_map] at this
    have hYA := wxs_len O YA lA
    clear hX; have hX := And.intro @hml (And.intro @hwl (And.intro @hYW (@hYA)))
    refine mW ?_; clear H; intro a w H
    replace H := v_seeX hZ H 29 _ (wxs_seeT hTW (fun x hx => by simp [hx])) rfl
    simp only [nilT, reduceIte, Nat.reduceEqDiff] at H
    refine v_callE cO hB (Nat.le_refl _) hZ H (by rintro Y bx' rw' res ⟨rfl, rfl, rfl, _⟩; exact ⟨by rfl, rfl⟩) ?_
    clear H
    rintro YB bx' rw' res a w4 ⟨rfl, rfl, rfl, hTB⟩ H
    replace H := nfX H
    clear hN hR hB hZ
    obtain ⟨N4, hB, hZ, H, hN1, hR1⟩ := H.open_
    have hN : N4.bx.length ≤ 0 := Nat.le_of_eq hN1
    have hR : N4.rw.length ≤ 0 := Nat.le_of_eq hR1
    clear hN1 hR1
    have lB : YB.length = O.length := by have := hTB.1; rwa [List.length_map] at this
    have hYB := wxs_len O YB lB
    clear hX; have hX := And.intro @hml (And.intro @hwl (And.intro @hYW (And.intro @hYA (@hYB))))
    refine mW ?_; clear H; intro a w H
    refine mCall [] [] (cR) H ?_; clear H; intro a w H; try refine wpList_nil ?_
    refine mW ?_; clear H; intro a w H
    replace H := v_seeX hZ H 33 _ (lpX_lent hTP (fun x hx => by simp [hx])) rfl
    simp only [nilT, reduceIte, Nat.reduceEqDiff] at H
    replace H := v_slcL H 33 (es' := m.map prA) rfl (by rw [lentPs_len]; omega) hml (lentA_sub2 m)
    simp only [nilT, reduceIte, Nat.reduceEqDiff] at H
    replace H := v_seeX hZ H 34 _ (wxs_seeT hTW (fun x hx => by simp [hx])) rfl
    simp only [nilT, reduceIte, Nat.reduceEqDiff] at H
    refine v_callE cV hB (Nat.le_refl _) hZ H (by rintro Y bx' rw' res ⟨rfl, rfl, rfl, _⟩; exact ⟨by rfl, rfl⟩) ?_
    clear H
    rintro YO bx' rw' res a w5 ⟨rfl, rfl, rfl, hTO⟩ H
    replace H := nfX H
    clear hN hR hB hZ
    obtain ⟨N5, hB, hZ, H, hN1, hR1⟩ := H.open_
    have hN : N5.bx.length ≤ 0 := Nat.le_of_eq hN1
    have hR : N5.rw.length ≤ 0 := Nat.le_of_eq hR1
    clear hN1 hR1
    have lO : YO.length = M.length := by have := hTO.1; rwa [List.length_map] at this
    have hYO := pxs_len M YO lO
    clear hX; have hX := And.intro @hml (And.intro @hwl (And.intro @hYW (And.intro @hYA (And.intro @hYB (@hYO)))))
    refine mW ?_; clear H; intro a w H
    refine mCall [] [] (cU) H ?_; clear H; intro a w H; try refine wpList_nil ?_
    have dO : decide ((O.length : Int) = (O.length : Int)) = true := decide_eq_true rfl
    clear hX; have hX := And.intro @hml (And.intro @hwl (And.intro @hYW (And.intro @hYA (And.intro @hYB (And.intro @hYO (And.intro @hMm (And.intro @hOm (@dO))))))))
    refine mW ?_; clear H; intro a w H
    replace H := v_seeX hZ H 39 _ (wxs_see hTA (fun x hx => by simp [hx])) rfl
    simp only [nilT, reduceIte, Nat.reduceEqDiff] at H
    refine mCall [] [] (cSW) H ?_; clear H; intro a w H; try refine wpList_nil ?_
    refine mW ?_; clear H; intro a w H
    replace H := v_known H 43 false rfl
    simp only [unG, gdEq, Nat.reduceBEq, cond_true, cond_false] at H
    replace H := v_seeX hZ H 44 _ (wxs_see hTB (fun x hx => by simp [hx])) rfl
    simp only [nilT, reduceIte, Nat.reduceEqDiff] at H
    refine mG H ?_
    refine mCall [] [] (cSW) H ?_; clear H; intro a w H; try refine wpList_nil ?_
    refine mW ?_; clear H; intro a w H
    replace H := v_known H 49 false rfl
    simp only [unG, gdEq, Nat.reduceBEq, cond_true, cond_false] at H
    replace H := v_seeX hZ H 50 _ (wxs_seeT hTW (fun x hx => by simp [hx])) rfl
    simp only [nilT, reduceIte, Nat.reduceEqDiff] at H
    refine mG H ?_
    refine mCall [] [] (cK) H ?_; clear H; intro a w H; try refine wpList_nil ?_
    refine mW ?_; clear H; intro a w H
    replace H := v_known H 56 false rfl
    simp only [unG, gdEq, Nat.reduceBEq, cond_true, cond_false] at H
    replace H := v_seeX hZ H 57 _ (pxs_see hTO (fun x hx => by simp [hx])) rfl
    simp only [nilT, reduceIte, Nat.reduceEqDiff] at H
    refine mG H ?_
    refine mCall [] [] (cSP) H ?_; clear H; intro a w H; try refine wpList_nil ?_
    refine mW ?_; clear H; intro a w H
    replace H := v_known H 62 false rfl
    simp only [unG, gdEq, Nat.reduceBEq, cond_true, cond_false] at H
    replace H := v_seeX hZ H 63 _ (lpX_lent hTP (fun x hx => by simp [hx])) rfl
    simp only [nilT, reduceIte, Nat.reduceEqDiff] at H
    refine mG H ?_
    refine mCall [] [] (cKP) H ?_; clear H; intro a w H; try refine wpList_nil ?_
    refine mW ?_; clear H; intro a w H
    replace H := v_known H 68 false rfl
    simp only [unG, gdEq, Nat.reduceBEq, cond_true, cond_false] at H
    replace H := v_seeX hZ H 69 _ (wxs_lent hTW (fun x hx => by simp [hx])) rfl
    simp only [nilT, reduceIte, Nat.reduceEqDiff] at H
    refine mG H ?_
    refine mCall [] [] (cKW) H ?_; clear H; intro a w H; try refine wpList_nil ?_
    refine mW ?_; clear H; intro a w H
    refine mC H (fun hb => ?_) (fun hb => ?_)
    · simp at hb
    · clear hb cKW cKP cSP cSW cK cU cV cR cO cW cP
      have hYP := pxs_len m YP lP
      have hq := lpX_len m YP lP
      have hgW := wxs_get l YW lW
      have hgA := wxs_get O YA lA
      have hgB := wxs_get O YB lB
      have cV := valuesM_v [(m, YP), (M, YO)] (by simp [lP, lO]) (by simp) (by simp [xfl, lP, lO]; omega)
      rw [show xfl [(m, YP), (M, YO)] = YP ++ YO by simp [xfl]] at cV
      have hn0 : (YP ++ YO).length = m.length + M.length := by rw [List.length_append, lP, lO]
      obtain ⟨F0, hF0⟩ : ∃ F0, F0 = YP ++ YO := ⟨_, rfl⟩
      rw [← hF0] at cV hn0
      rw [hn0] at cV
      have hv0 : (vas (F0.map XR.v)).length = m.length + M.length := by rw [vas_len, List.length_map, hn0]
      refine mS ?_
      clear hX; have hX := And.intro @hYW (And.intro @hYA (And.intro @hYB (And.intro @hYO (And.intro @hv0 (@hYP)))))
      replace H := mK [4, 5, 6, 7, 8, 10] 0 0 hN hR H
      refine mS ?_
      (try refine wp_region_lit ?_); refine mN 2 hN H ?_; clear H; intro a w H
      replace H := v_slcL H 74 (es' := pxs m YP) rfl (by omega) hYP (fun k h1 => by
        have : (lpX m YP)[k]'(by omega) = (pxs m YP)[k] := by simp [lpX, List.getElem_append, h1]
        rw [this]; exact sub_refl _ _)
      simp only [nilT, reduceIte, Nat.reduceEqDiff] at H
      (try refine wp_region_lit ?_); refine mN 1 hN H ?_; clear H; intro a w H
      replace H := v_sub H 76 (x := .sl .sc [.sl prT (pxs m YP) none, .sl prT (pxs M YO) none] (some 0)) (y := .sl .sc (lpx [(m, YP), (M, YO)]) none) ⟨rfl, rfl⟩ rfl (fun az h => by cases h) rfl
      simp only [nilT, reduceIte, Nat.reduceEqDiff] at H
      refine mCall [] [] (cV) H ?_; clear H; intro a w H; try refine wpList_nil ?_
      refine mW ?_; clear H; intro a w H
      replace H := mK [4, 6, 7, 8, 12, 13] 1 0 hN hR H
      have hml2 : m.length + M.length ≤ 1000 := by omega
      generalize m.length + M.length = n0 at *
      refine v_loop (fun k : Nat => ⟨[(13, none, .v (.int .i64 (k : Int))), (12, none, .vw 0 (n0 + k) (n0 + 2 * k)), (4, none, .v (.bool false)), (6, none, .sl wrT (wxs l YW) none), (7, none, .sl wrT (wxs O YA) none), (8, none, .sl wrT (wxs O YB) none)],
        [(.vc 35 .sc, .vc (n0 + k) (vas ((F0 ++ intr (YA.take k) (YB.take k)).map XR.v)))], [], []⟩) (fun k => k ≤ O.length) (fun k => O.length - k) 0 (Nat.zero_le _)
        (H.to 1 0 ⟨Nat.le_trans hN (Nat.zero_le _), hR⟩ ⟨rfl, rfl, rfl, rfl, rfl, rfl, trivial⟩ (by simp [intr]) rfl rfl rfl rfl) ?_
      clear H
      intro k a w hk H
      have hil : (intr (YA.take k) (YB.take k)).length = 2 * k := by rw [intr_len _ _ (by rw [List.length_take, List.length_take]; omega), List.length_take]; omega
      have hvl : (vas ((F0 ++ intr (YA.take k) (YB.take k)).map XR.v)).length = n0 + 2 * k := by rw [vas_len, List.length_map, List.length_append, hil, hn0]
      clear hX; have hX := And.intro @hYW (And.intro @hYA (And.intro @hYB (@hvl)))
      refine mW ?_; clear H; intro a w H
      refine mC H (fun hb => ?_) (fun hb => ?_)
      · have hlt : k < O.length := by rw [decide_eq_true_eq] at hb; omega
        clear hb
        have hga := hgA k hlt
        have hgb := hgB k hlt
        have e2 : vas ((F0 ++ intr (YA.take (k + 1)) (YB.take (k + 1))).map XR.v) = vas ((F0 ++ intr (YA.take k) (YB.take k)).map XR.v) ++ [.v (YA[k]'(by omega)).v, .v (YB[k]'(by omega)).v] := by
          rw [intr_step YA YB (by omega) k (by omega) (by omega), ← List.append_assoc, List.map_append]
          simp [vas]
        have hk32 := hOk _ (List.getElem_mem hlt)
        generalize YA[k]'(by omega) = xa at *
        generalize YB[k]'(by omega) = xb at *
        generalize O[k] = z at *
        generalize hes : vas ((F0 ++ intr (YA.take k) (YB.take k)).map XR.v) = es at *
        clear hX; have hX := And.intro @hYW (And.intro @hYA (And.intro @hYB (And.intro @hvl (And.intro @hga (And.intro @hgb (@hk32))))))
        refine mS ?_; refine mD 0 [11, 12] [0] H ?_; clear H; intro gS H
        refine mTN 4 hN H ?_; clear H; intro a w H; simp only [List.drop_succ_cons, List.drop_zero, List.drop_nil]
        refine mTN 4 hN H ?_; clear H; intro a w H; simp only [List.drop_succ_cons, List.drop_zero, List.drop_nil]
        refine mTN 1 hN H ?_; clear H; intro a w H; simp only [List.drop_succ_cons, List.drop_zero, List.drop_nil]
        refine mTN 2 hN H ?_; clear H; intro a w H; simp only [List.drop_succ_cons, List.drop_zero, List.drop_nil]
        refine mTN 1 hN H ?_; clear H; intro a w H; simp only [List.drop_succ_cons, List.drop_zero, List.drop_nil]
        refine mTN 1 hN H ?_; clear H; intro a w H; simp only [List.drop_succ_cons, List.drop_zero, List.drop_nil]
        refine mT ?_; clear H; intro a w H
        refine v_drawNil H ?_; clear H; intro H
        refine mW ?_; clear H; intro a w H
        rw [List.take_of_length_le (Nat.le_of_eq hvl), ← e2, show (k : Int) + 1 = ((k + 1 : Nat) : Int) by omega] at H
        exact ⟨k + 1, hlt, by omega, H.to 1 0 ⟨Nat.le_trans hN (Nat.zero_le _), hR⟩ ⟨rfl, rfl, rfl, rfl, rfl, rfl, trivial⟩ rfl rfl rfl rfl rfl⟩
      · have hge : k = O.length := by rw [decide_eq_false_iff_not] at hb; omega
        subst hge
        clear hb
        rw [List.take_of_length_le (Nat.le_of_eq lA), List.take_of_length_le (Nat.le_of_eq lB)] at H hil hvl
        obtain ⟨F1, hF1⟩ : ∃ F1, F1 = F0 ++ intr YA YB := ⟨_, rfl⟩
        rw [← hF1] at H hvl
        have hn1 : F1.length = n0 + 2 * O.length := by rw [hF1, List.length_append, hil, hn0]
        refine mW ?_; clear H; intro a w H
        have hml3 : n0 + O.length ≤ 2000 := by omega
        have hml4 : n0 + 2 * O.length ≤ 2000 := by omega
        generalize n0 + O.length = γ0 at *
        generalize n0 + 2 * O.length = n1 at *
        refine v_loop (fun k : Nat => ⟨[(14, none, .v (.int .i64 (k : Int))), (12, none, .vw 0 (γ0 + k) (n1 + k)), (4, none, .v (.bool false)), (6, none, .sl wrT (wxs l YW) none)],
          [(.vc 35 .sc, .vc (γ0 + k) (vas ((F1 ++ YW.take k).map XR.v)))], [], []⟩) (fun k => k ≤ l.length) (fun k => l.length - k) 0 (Nat.zero_le _)
          (H.to 1 0 ⟨Nat.le_trans hN (Nat.zero_le _), hR⟩ ⟨rfl, rfl, rfl, rfl, trivial⟩ (by simp) rfl rfl rfl rfl) ?_
        clear H
        intro k a w hk H
        have hvl2 : (vas ((F1 ++ YW.take k).map XR.v)).length = n1 + k := by rw [vas_len, List.length_map, List.length_append, List.length_take, hn1]; omega
        clear hX; have hX := And.intro @hYW (@hvl2)
        refine mW ?_; clear H; intro a w H
        refine mC H (fun hb => ?_) (fun hb => ?_)
        · have hlt : k < l.length := by rw [decide_eq_true_eq] at hb; omega
          clear hb
          have hgw := hgW k hlt
          have e2 : vas ((F1 ++ YW.take (k + 1)).map XR.v) = vas ((F1 ++ YW.take k).map XR.v) ++ [.v (YW[k]'(by omega)).v] := by
            rw [List.take_succ_eq_append_getElem (show k < YW.length by omega), ← List.append_assoc, List.map_append]
            simp [vas]
          have hk32 := hKW _ (List.getElem_mem hlt)
          generalize YW[k]'(by omega) = xa at *
          generalize l[k] = z at *
          generalize hes : vas ((F1 ++ YW.take k).map XR.v) = es at *
          refine mS ?_
          clear hX; have hX := And.intro @hYW (And.intro @hvl2 (And.intro @hgw (@hk32)))
          (try refine wp_region_lit ?_); refine mN 4 hN H ?_; clear H; intro a w H
          (try refine wp_region_lit ?_); refine mN 3 hN H ?_; clear H; intro a w H
          refine mW ?_; clear H; intro a w H
          rw [List.take_of_length_le (Nat.le_of_eq hvl2), ← e2, show (k : Int) + 1 = ((k + 1 : Nat) : Int) by omega] at H
          exact ⟨k + 1, hlt, by omega, H.to 1 0 ⟨Nat.le_trans hN (Nat.zero_le _), hR⟩ ⟨rfl, rfl, rfl, rfl, trivial⟩ rfl rfl rfl rfl rfl⟩
        · have hge : k = l.length := by rw [decide_eq_false_iff_not] at hb; omega
          subst hge
          clear hb
          rw [List.take_of_length_le (Nat.le_of_eq lW)] at H hvl2
          have hZp : (YP ++ YW ++ YA ++ YB ++ YO).Perm (F1 ++ YW) := by
            haveI : DecidableEq XR := fun a b => Classical.propDecidable _
            rw [List.perm_iff_count]
            intro x
            rw [hF1, hF0]
            simp only [List.count_append, (intr_perm YA YB (by omega)).count_eq]
            omega
          have hZ2 := hZ.permX hZp
          have hwx : ∀ x ∈ F1 ++ YW, XW x := fun x hx => by
            have hx := hZp.mem_iff.2 hx
            simp only [List.mem_append] at hx
            rcases hx with (((hx | hx) | hx) | hx) | hx
            · obtain ⟨i, i1, rfl⟩ := List.getElem_of_mem hx
              exact lentX_w (hTP.2 i i1 (by have := hTP.1; omega))
            · obtain ⟨i, i1, rfl⟩ := List.getElem_of_mem hx
              exact lentX_w (hTW.2 i i1 (by have := hTW.1; omega))
            · obtain ⟨i, i1, rfl⟩ := List.getElem_of_mem hx
              exact (hTA.2 i i1 (by have := hTA.1; omega)).w
            · obtain ⟨i, i1, rfl⟩ := List.getElem_of_mem hx
              exact (hTB.2 i i1 (by have := hTB.1; omega)).w
            · obtain ⟨i, i1, rfl⟩ := List.getElem_of_mem hx
              exact (hTO.2 i i1 (by have := hTO.1; omega)).w
          have hzl : (F1 ++ YW).length = n1 + l.length := by rw [List.length_append, hn1, lW]
          clear hF1 hF0 hZp
          generalize F1 ++ YW = Z at *
          refine mS ?_
          replace H := mK [4, 12] 1 0 hN hR H
          refine mS ?_
          (try refine wp_region_lit ?_); refine mN 1 hN H ?_; clear H; intro a w H
          by_cases hu0 : n1 + l.length = 0
          · rw [hu0] at H
            replace H := v_frz H 111 0 (Nat.le_trans hN (Nat.zero_le _)) rfl (Nat.zero_le _) rfl
            simp only [nilT, reduceIte, Nat.reduceEqDiff, List.take_zero] at H
            have hAp := apartN_v
            refine mCall [] [] (hAp) H ?_; clear H; intro a w H; try refine wpList_nil ?_
            refine mW ?_; clear H; intro a w H
            have H := (RelX.close hB hZ H).rel
            have hN := hM.1
            have hR := hM.2
            refine wp_ret ?_; exact mEnd [] [] [.tmp 4] [_] hN hR H
          · have hul : n1 + l.length = (Z.map XR.v).length := by rw [List.length_map, hzl]
            rw [hul] at H
            refine v_apartX hZ2 H (x := .tmp 111) 0 (γ0 + l.length) 35 rfl rfl ((List.range Z.length).map some) (by simp) ?_ ?_ (by rw [← hul]; omega) (by rw [← hul]; omega) ?_
            · intro k k1 k2
              right
              have k3 : k < Z.length := by simpa using k2
              exact ⟨k, Z[k], by simp, List.getElem?_eq_getElem k3, by simp, hwx _ (List.getElem_mem k3)⟩
            · rw [List.pairwise_map]
              refine List.Pairwise.imp (fun {a b} hab => ?_) List.pairwise_lt_range
              right; intro e; injection e with e; omega
            clear H
            intro a w H
            refine mW ?_; clear H; intro a w H
            have H := (RelX.close hB hZ H).rel
            have hN := hM.1
            have hR := hM.2
            refine wp_ret ?_; exact mEnd [] [] [.tmp 4] [_] hN hR H
end Go.Proofs.Ytgffimanhmpohaa
/- Nodes among the arguments. -/
namespace Go.Proofs.Ytgffimanhmpohaa
open Go Go.RowKit
end Go.Proofs.Ytgffimanhmpohaa
/- Entries among the arguments. -/
namespace Go.Proofs.Ytgffimanhmpohaa
open Go Go.RowKit
theorem pair_sh {M d : Nat} {a : AV} (h : Sh tab M (d + 2) 65 a) : ∃ p : Pr, a = prA p ∧ p.1.length = 32 ∧ p.2.length ≤ M := by
  obtain ⟨az, rfl, hs⟩ := h.rcd rfl rfl
  clear h; have h := hs; clear hs; dsimp only [List.map] at h
  obtain ⟨a0, r, rfl, h0, h⟩ := shl_cons h
  obtain ⟨a1, r, rfl, h1, h⟩ := shl_cons h
  obtain rfl := shl_nil h
  obtain ⟨k, rfl, hk⟩ := h0.arr rfl rfl
  obtain ⟨v, rfl, hv⟩ := h1.bytes rfl rfl rfl
  exact ⟨(k, v), rfl, hk, hv⟩
theorem pairs_sh {M d : Nat} {a : AV} (h : Sh tab M (d + 3) 22 a) : ∃ l : List Pr, a = .sl prT (l.map prA) none ∧ K32 l ∧ l.length ≤ M ∧ ∀ x ∈ l, x.2.length ≤ M := by
  obtain ⟨es, rfl, hl, he⟩ := h.slc rfl rfl rfl
  obtain ⟨ys, rfl, hy⟩ := sh_list (q := fun p : Pr => p.1.length = 32 ∧ p.2.length ≤ M) (f := prA) (fun x hx => pair_sh hx) he
  exact ⟨ys, rfl, fun x hx => (hy x hx).1, by simpa using hl, fun x hx => (hy x hx).2⟩
end Go.Proofs.Ytgffimanhmpohaa
/- BatchOrders, of all arguments of its types. -/
namespace Go.Proofs.Ytgffimanhmpohaa
open Go Go.RowKit
theorem write_sh {M d : Nat} {a : AV} (h : Sh tab M (d + 2) 37 a) : ∃ p : Wr, a = wrA p ∧ p.1.length = 32 ∧ p.2.2.length ≤ M := by
  obtain ⟨az, rfl, hs⟩ := h.rcd rfl rfl
  clear h; have h := hs; clear hs; dsimp only [List.map] at h
  obtain ⟨a0, r, rfl, h0, h⟩ := shl_cons h
  obtain ⟨a1, r, rfl, h1, h⟩ := shl_cons h
  obtain ⟨a2, r, rfl, h2, h⟩ := shl_cons h
  obtain rfl := shl_nil h
  obtain ⟨k, rfl, hk⟩ := h0.arr rfl rfl
  obtain ⟨g, rfl⟩ := h1.bool rfl rfl
  obtain ⟨v, rfl, hv⟩ := h2.bytes rfl rfl rfl
  exact ⟨(k, g, v), rfl, hk, hv⟩
theorem writes_sh {M d : Nat} {a : AV} (h : Sh tab M (d + 3) 23 a) : ∃ l : List Wr, a = .sl wrT (l.map wrA) none ∧ K32W l ∧ l.length ≤ M ∧ ∀ x ∈ l, x.2.2.length ≤ M := by
  obtain ⟨es, rfl, hl, he⟩ := h.slc rfl rfl rfl
  obtain ⟨ys, rfl, hy⟩ := sh_list (q := fun p : Wr => p.1.length = 32 ∧ p.2.2.length ≤ M) (f := wrA) (fun x hx => write_sh hx) he
  exact ⟨ys, rfl, fun x hx => (hy x hx).1, by simpa using hl, fun x hx => (hy x hx).2⟩
theorem batchOrders_az (az : List AV) (h : ShL (Sh tab 1048576 6) [22, 23] az) : VC Try.prog 3 az [] (.v (.bool true)) := by
  obtain ⟨a0, r, rfl, h0, h⟩ := shl_cons h
  obtain ⟨a1, r, rfl, h1, h⟩ := shl_cons h
  obtain rfl := shl_nil h
  obtain ⟨m, rfl, k1, k2, k3⟩ := pairs_sh h0
  obtain ⟨l, rfl, q1, q2, q3⟩ := writes_sh h1
  exact batchOrders_v m l k1 q1 (fun x hx => Nat.le_trans (k3 x hx) (by decide)) (fun x hx => Nat.le_trans (q3 x hx) (by decide))
end Go.Proofs.Ytgffimanhmpohaa
