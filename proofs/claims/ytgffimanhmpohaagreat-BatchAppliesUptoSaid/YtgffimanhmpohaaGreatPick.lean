/- batch.built: the walks. -/
import Derived.Test.YtgffimanhmpohaaGreatOv
import Derived.Test.YtgffimanhmpohaaGreatZa
import Derived.Test.YtgffimanhmpohaaGreatPu
import Derived.Test.YtgffimanhmpohaaGreatMap2
import Derived.Test.YtgffimanhmpohaaGreatLast
import Derived.Test.YtgffimanhmpohaaGreatBits
import Derived.BigQuiet
import Derived.BigRegion
set_option linter.unusedSimpArgs false
set_option linter.unusedVariables false
namespace Go.Proofs.YtgffimanhmpohaaGreat
open Go Go.RowKit
def builtC (s t : Slb) (old h : Int) (d : Nat) (ws : List Wr) : Prop :=
  VX Tryz.prog 59 s.sx [] [] [.ptr 0 [], .v (.int .i64 old), .v (.int .i64 (d : Int)), .sl wrT (ws.map wrA) none] t.sx [] [] (.v (.int .i64 h))
set_option maxRecDepth 20000 in
theorem built0_v (s t : Slb) (old : Int) (d : Nat) (hK : VX Tryz.prog 90 s.sx [] [] [.ptr 0 [], .v (.int .i64 old)] t.sx [] [] (.v (.int .i64 old))) : builtC s t old old d [] := by
  unfold builtC
  show VX _ _ _ _ _ [.ptr 0 [], .v (.int .i64 old), .v (.int .i64 (d : Int)), .sl wrT [] none] _ _ _ _
  simp only [Slb.sx] at hK ⊢
  refine mE Tryz.func59 ?_; intro N w0 a w hN hR H
  refine mW ?_; clear H; intro a w H
  refine mC H (fun hb => ?_) (fun hb => ?_)
  · clear hb
    refine mW ?_; clear H; intro a w H
    refine mCall [0, 1, 2, 3] [] (hK) H ?_; clear H; intro a w H; try refine wpList_nil ?_
    refine mW ?_; clear H; intro a w H
    refine wp_ret ?_; exact mEnd [0, 1, 2, 3] [] [.tmp 8] [_] hN hR H
  exact absurd hb (by decide)
set_option maxRecDepth 20000 in
set_option maxHeartbeats 8000000 in
theorem builtB_v (s t : Slb) (hs : s.wf) (old h : Int) (d : Nat) (l0 : List Pr) (hl0 : l0.length < 2) (hi0 : IsB s l0 old) (hK : K32 l0) (hv : ∀ x ∈ l0, x.2.length ≤ 1024) (ws : List Wr) (hw : 1 ≤ ws.length) (hkw : K32W ws) (hvw : ∀ w ∈ ws, w.2.2.length ≤ 100000) (hlw : ws.length ≤ 1000)
    (hF : freshC s t old h d (liveW (ovZ l0 ws))) : builtC s t old h d ws := by
  have c1 := stoKind_v s hs old
  have c2 := stoKey_v s hs old
  have hvv : ∀ w ∈ ovZ l0 ws, w.2.2.length ≤ 34359730000 := fun w hw' => lstW_val _ (fun x hx => by
    rcases List.mem_append.1 hx with hx | hx
    · obtain ⟨p, hp1, rfl⟩ := List.mem_map.1 hx
      exact Nat.le_trans (hv p hp1) (by decide)
    exact Nat.le_trans (hvw x hx) (by decide)) w ((srtW_perm _).mem_iff.1 hw')
  have cO := over_c l0 ws hK hkw hvv (by omega) (by omega)
  have hk2 : K32W (l0.map pwW ++ ws) := fun x hx => by
    rcases List.mem_append.1 hx with hx | hx
    · obtain ⟨p, hp1, rfl⟩ := List.mem_map.1 hx
      exact hK p hp1
    exact hkw x hx
  have hzk : K32W (ovZ l0 ws) := (lstW_k32 _ hk2).perm (srtW_perm _)
  have hMk : K32 (liveW (ovZ l0 ws)) := fun z hz => by
    obtain ⟨w, h1, h2, _⟩ := liveW_mem _ z hz
    rw [← h2]; exact hzk w h1
  have hMl : (liveW (ovZ l0 ws)).length ≤ 2000 := by
    have h1 := liveW_len (ovZ l0 ws)
    have h2 := lstW_len (l0.map pwW ++ ws)
    have h3 : (ovZ l0 ws).length = (lstW (l0.map pwW ++ ws)).length := (srtW_perm _).length_eq
    rw [List.length_append, List.length_map] at h2; omega
  unfold builtC
  unfold freshC at hF
  generalize liveW (ovZ l0 ws) = M at *
  have hMm : (M.map prA).length = M.length := List.length_map ..
  have hgM := prs_get2 M
  have hwl : (ws.map wrA).length = ws.length := List.length_map ..
  have z1 : decide ((ws.length : Int) = 0) = false := decide_eq_false (by omega)
  have hap : ∀ k (h : k < M.length), ((M.take (k + 1)).map pwW).map wrA = ((M.take k).map pwW).map wrA ++ [.st [.ba M[k].1, .v (.bool false), .bs M[k].2 none]] := fun k h => by
    rw [List.take_succ_eq_append_getElem h, List.map_append, List.map_append]; rfl
  have hpw : ∀ k, k ≤ M.length → (((M.take k).map pwW).map wrA).length = k := fun k h => by simp; omega
  simp only [Slb.sx] at c1 c2 hF ⊢
  generalize ws.map wrA = ls at *
  generalize hME : M.map prA = ME at *
  refine mE Tryz.func59 ?_; intro N w0 a w hN hR H
  have hX := And.intro @hwl (@z1)
  refine mW ?_; clear H; intro a w H
  refine mC H (fun hb => ?_) (fun hb => ?_)
  · exact absurd hb (by decide)
  clear hb
  refine mW ?_; clear H; intro a w H
  refine mCall [0, 1, 2, 3] [] (c1) H ?_; clear H; intro a w H; try refine wpList_nil ?_
  revert a w
  apply cutG7 (R := fun a w => Rel Tryz.prog w0 N Tryz.f59.ntmps ⟨[(9, none, .sl prT (l0.map prA) none), (8, none, .v (.int .i64 0)), (0, none, .ptr 0 []), (1, none, .v (.int .i64 old)), (2, none, .v (.int .i64 (d : Int))), (3, none, .sl wrT ls none)],
    stoB s.γ s.δ s.sl.length s.m s.room s.used (s.sl.map slA) (s.fs.map inA), [], []⟩ a w)
  · intro key1 a w H
    have hl01 : l0 = [] ∨ ∃ y, l0 = [y] := by
      match l0, hl0 with
      | [], _ => exact .inl rfl
      | [y], _ => exact .inr ⟨y, rfl⟩
    rcases hl01 with e | ⟨y, e⟩
    · have h0 : old = 0 := by rw [e] at hi0; exact hi0
      have hk0 : (s.get_ old).k = 0 := by rw [h0, Slb.get_zero]; rfl
      rw [hk0] at H c1
      refine mW ?_; clear H; intro a w H
      refine mC H (fun hb => ?_) (fun hb => ?_)
      · clear hb
        refine mW ?_; clear H; intro a w H
        refine mCall [0, 1, 2, 3] [] (c1) H ?_; clear H; intro a w H; try refine wpList_nil ?_
        refine mW ?_; clear H; intro a w H
        refine mC H (fun hb => ?_) (fun hb => ?_)
        · exact absurd hb (by decide)
        clear hb
        replace H := v_sub H 9 (x := .v (.slice none 0 0)) (y := .sl prT [] none) rfl rfl (fun az h => by cases h) rfl
        simp only [nilT, reduceIte, Nat.reduceEqDiff] at H
        refine mS ?_
        exact key1 _ _ (H.to 4 0 ⟨Nat.le_trans hN (Nat.le_of_ble_eq_true rfl), hR⟩ ⟨by rw [e]; rfl, rfl, rfl, rfl, rfl, rfl, trivial⟩ rfl rfl rfl rfl rfl)
      exact absurd hb (by decide)
    have hyv := hv y (by rw [e]; exact List.mem_cons_self)
    have hyk := hK y (by rw [e]; exact List.mem_cons_self)
    have hgy : ∃ hd, s.get_ old = leafN y.1 y.2 hd := by
      rw [e] at hi0
      obtain ⟨hd, c, h1⟩ := hi0
      exact ⟨hd, (Slb.get_at h1).1⟩
    obtain ⟨hd9, hgy⟩ := hgy
    have hk1 : (s.get_ old).k = 1 := by rw [hgy]; rfl
    have hk2 : (s.get_ old).key = y.1 := by rw [hgy]; rfl
    have hk3 : (s.get_ old).val = y.2 := by rw [hgy]; rfl
    have c3 := stoValue_v s hs old (by rw [hk3]; omega)
    rw [hk1] at H c1
    rw [hk2] at c2
    rw [hk3] at c3
    obtain ⟨ky, vy⟩ := y
    dsimp only at hyv hyk c2 c3
    simp only [Slb.sx] at c3
    have hX := And.intro hyk hX
    refine mW ?_; clear H; intro a w H
    refine mC H (fun hb => ?_) (fun hb => ?_)
    · clear hb
      refine mS ?_
      (try refine wp_region_lit ?_); refine mN 1 hN H ?_; clear H; intro a w H
      (try refine wpList_nil ?_)
      replace H := v_nilE tab_ok H 9 53 prT (j := ti53) rfl (by decide) rfl
      simp only [nilT, reduceIte, Nat.reduceEqDiff, List.length_nil, List.nil_append] at H
      refine mW ?_; clear H; intro a w H
      refine mCall [0, 1, 2, 3] [] (c1) H ?_; clear H; intro a w H; try refine wpList_nil ?_
      refine mW ?_; clear H; intro a w H
      refine mC H (fun hb => ?_) (fun hb => ?_)
      · clear hb
        refine mW ?_; clear H; intro a w H
        refine mCall [0, 1, 2, 3] [] (c2) H ?_; clear H; intro a w H; try refine wpList_nil ?_
        refine mW ?_; clear H; intro a w H
        refine mCall [0, 1, 2, 3] [] (c3) H ?_; clear H; intro a w H; try refine wpList_nil ?_
        replace H := v_sub H 40 (x := .bs vy (some 1)) (y := .bs vy none) rfl rfl (fun az h => by cases h) rfl
        simp only [nilT, reduceIte, Nat.reduceEqDiff] at H
        (try refine wp_region_lit ?_); refine mN 4 hN H ?_; clear H; intro a w H
        (try refine wpList_nil ?_)
        replace H := v_sub H 9 (x := .sl prT [.st [.ba ky, .bs vy none]] (some 0)) (y := .sl prT [.st [.ba ky, .bs vy none]] none) ⟨rfl, rfl⟩ rfl (fun az h => by cases h) rfl
        simp only [nilT, reduceIte, Nat.reduceEqDiff] at H
        refine mS ?_
        exact key1 _ _ (H.to 4 0 ⟨Nat.le_trans hN (Nat.le_of_ble_eq_true rfl), Nat.le_trans hR (Nat.zero_le _)⟩ ⟨by rw [e]; rfl, rfl, rfl, rfl, rfl, rfl, trivial⟩ rfl rfl rfl rfl rfl)
      exact absurd hb (by decide)
    exact absurd hb (by decide)
  intro a w H
  clear c1 c2
  have hl0m := Eq.refl (l0.map prA)
  generalize l0.map prA = le at *
  refine mW ?_; clear H; intro a w H
  refine mCall [] [] (cO) H ?_; clear H; intro a w H; try refine wpList_nil ?_
  have hX := And.intro hMm hX
  refine mW ?_; clear H; intro a w H
  replace H := v_nilE tab_ok H 10 60 wrT (j := ti60) rfl (by decide) rfl
  simp only [nilT, reduceIte, Nat.reduceEqDiff, List.length_nil, List.nil_append] at H
  refine v_loop (fun k : Nat => ⟨[(48, none, .v (.int .i64 (k : Int))), (47, none, .v (.int .i64 (M.length : Int))), (46, none, .sl prT ME none), (10, none, .sl wrT (((M.take k).map pwW).map wrA) (some 0)), (0, none, .ptr 0 []), (1, none, .v (.int .i64 old)), (2, none, .v (.int .i64 (d : Int))), (8, none, .v (.int .i64 0))],
    stoB s.γ s.δ s.sl.length s.m s.room s.used (s.sl.map slA) (s.fs.map inA), [], [(60, k)]⟩) (fun k => k ≤ M.length) (fun k => M.length - k) 0 (Nat.zero_le _)
    (H.to 4 1 ⟨Nat.le_trans hN (Nat.le_of_ble_eq_true rfl), Nat.le_trans hR (Nat.zero_le _)⟩ ⟨rfl, rfl, rfl, rfl, rfl, rfl, rfl, rfl, trivial⟩ rfl rfl rfl rfl rfl) ?_
  clear H
  intro k a w hk H
  have hpk := hpw k hk
  refine mW ?_; clear H; intro a w H
  refine mC H (fun hb => ?_) (fun hb => ?_)
  · have hlt : k < M.length := by rw [decide_eq_true_eq] at hb; omega
    clear hb
    have hg := hgM k hlt
    have hz := hMk _ (List.getElem_mem hlt)
    have ha := hap k hlt
    generalize M[k] = q at *
    obtain ⟨kq, vq⟩ := q
    dsimp only at hg hz ha
    generalize ((M.take k).map pwW).map wrA = cs at *
    have hX := And.intro hg (And.intro hz (And.intro hpk hX))
    refine mS ?_
    (try refine wp_region_lit ?_); refine mN 1 hN H ?_; clear H; intro a w H
    refine mW ?_; clear H; intro a w H
    rw [← ha, show (k : Int) + 1 = ((k + 1 : Nat) : Int) by omega] at H
    exact ⟨k + 1, hlt, by omega, H.to 4 1 ⟨Nat.le_trans hN (Nat.le_of_ble_eq_true rfl), Nat.le_trans hR (Nat.zero_le _)⟩ ⟨rfl, rfl, rfl, rfl, rfl, rfl, rfl, rfl, trivial⟩ rfl rfl rfl rfl rfl⟩
  have hge : k = M.length := by rw [decide_eq_false_iff_not] at hb; omega
  subst hge
  clear hb
  rw [List.take_length] at H
  generalize (M.map pwW).map wrA = cs at *
  refine mW ?_; clear H; intro a w H
  refine mCall [0, 1, 2, 3] [] (hF) H ?_; clear H; intro a w H; try refine wpList_nil ?_
  refine mW ?_; clear H; intro a w H
  refine wp_ret ?_; exact mEnd [0, 1, 2, 3] [] [.tmp 8] [_] hN hR H
set_option maxRecDepth 20000 in
theorem dropDec_v (s : Slb) (hD : DInv s) (i : Nat) (x : SN) (c : Nat) (hat : s.at_ ((i : Int) + 1) = some (x, c + 1)) (hc : 0 < c) (h1 : 1 ≤ x.hd) (h2 : x.hd ≤ 1000000) :
    VX Tryz.prog 61 s.sx [] [] [.ptr 0 [], .v (.int .i64 ((i : Int) + 1))] (s.cnt i { x with hd := x.hd - 1 } c).sx [] [] (.tup [.v (.int .i64 0), errv 0]) := by
  have e1 : s.call_ ((i : Int) + 1) (-1) = s.cnt i { x with hd := x.hd - 1 } (c + 1) := Slb.call_cnt hat (-1)
  have e2 : (s.cnt i { x with hd := x.hd - 1 } (c + 1)).at_ ((i : Int) + 1) = some ({ x with hd := x.hd - 1 }, c + 1) := by rw [Slb.at_cnt hat, if_pos rfl]
  have e3 : (s.cnt i { x with hd := x.hd - 1 } (c + 1)).cnt i { x with hd := x.hd - 1 } c = s.cnt i { x with hd := x.hd - 1 } c := by unfold Slb.cnt; dsimp only; rw [List.set_set]
  have hd := stoDrop_v s hD i x (c + 1) hat (by omega) ⟨by omega, by omega⟩ (s.cnt i { x with hd := x.hd - 1 } c) 0 (by
    rw [e1, ← e3]
    exact Drp.dec (td := []) e2 hc (.nil _ _))
  exact hd
set_option maxRecDepth 20000 in
set_option maxHeartbeats 8000000 in
theorem builtJ_v (s s1 s2 t : Slb) (hs : s.wf) (old p q l r h : Int) (d : Nat) (hd : d ≤ 256) (hk : (s.get_ old).k = 2) (ha : (s.get_ old).l = p) (hb' : (s.get_ old).r = q) (ws : List Wr) (hw : 1 ≤ ws.length) (hkw : K32W ws) (hlw : ws.length ≤ 1000) (n : Nat) (hn : partW ws (d : Int) = n) (hnl : n ≤ ws.length)
    (h1 : builtC s s1 p l (d + 1) (ws.take n)) (h2 : builtC s1 s2 q r (d + 1) (ws.drop n)) (hne : ¬ (l = p ∧ r = q))
    (h3 : VX Tryz.prog 94 s2.sx [] [] [.ptr 0 [], .v (.int .i64 (d : Int)), .v (.int .i64 l), .v (.int .i64 r)] t.sx [] [] (.v (.int .i64 h))) : builtC s t old h d ws := by
  have c1 := stoKind_v s hs old
  have c2 := stoSides_v s hs old
  have hp := partedW_v ws hkw (by omega) (d : Int)
  rw [hn] at hp
  rw [hk] at c1
  rw [ha, hb'] at c2
  unfold builtC at h1 h2 ⊢
  rw [List.map_take] at h1
  rw [List.map_drop] at h2
  rw [show ((d + 1 : Nat) : Int) = (d : Int) + 1 by omega] at h1 h2
  have hwl : (ws.map wrA).length = ws.length := List.length_map ..
  have z1 : decide ((ws.length : Int) = 0) = false := decide_eq_false (by omega)
  simp only [Slb.sx] at c1 c2 h1 h2 h3 ⊢
  generalize s.sl.map slA = es at *
  generalize s.fs.map inA = fs at *
  generalize ws.map wrA = ls at *
  refine mE Tryz.func59 ?_; intro N w0 a w hN hR H
  have hX := And.intro @hwl (@z1)
  refine mW ?_; clear H; intro a w H
  refine mC H (fun hb => ?_) (fun hb => ?_)
  · exact absurd hb (by decide)
  clear hb
  refine mW ?_; clear H; intro a w H
  refine mCall [0, 1, 2, 3] [] (c1) H ?_; clear H; intro a w H; try refine wpList_nil ?_
  refine mW ?_; clear H; intro a w H
  refine mC H (fun hb => ?_) (fun hb => ?_)
  · exact absurd hb (by decide)
  clear hb
  refine mW ?_; clear H; intro a w H
  refine mCall [] [] (hp) H ?_; clear H; intro a w H; try refine wpList_nil ?_
  refine mW ?_; clear H; intro a w H
  refine mCall [0, 1, 2, 3] [] (c2) H ?_; clear H; intro a w H; try refine wpList_nil ?_
  refine mW ?_; clear H; intro a w H
  refine mCall [0, 1, 2, 3] [] (h1) H ?_; clear H; intro a w H; try refine wpList_nil ?_
  refine mW ?_; clear H; intro a w H
  refine mCall [0, 1, 2, 3] [] (h2) H ?_; clear H; intro a w H; try refine wpList_nil ?_
  refine mW ?_; clear H; intro a w H
  refine mC H (fun hb => ?_) (fun hb => ?_)
  · exfalso
    by_cases e : l = p
    · rw [decide_eq_true e] at hb
      have : decide (r = q) = true := hb
      exact hne ⟨e, of_decide_eq_true this⟩
    rw [decide_eq_false e] at hb; cases hb
  clear hb
  refine mW ?_; clear H; intro a w H
  refine mCall [0, 1, 2, 3] [] (h3) H ?_; clear H; intro a w H; try refine wpList_nil ?_
  refine mW ?_; clear H; intro a w H
  refine wp_ret ?_; exact mEnd [0, 1, 2, 3] [] [.tmp 8] [_] hN hR H
def sI (s2 s3 s4 : Slb) : Nat → Slb
  | 0 => s2
  | 1 => s3
  | _ => s4
set_option maxRecDepth 20000 in
set_option maxHeartbeats 8000000 in
theorem builtK_v (s s1 s2 s3 s4 t : Slb) (hs : s.wf) (old p q : Int) (d : Nat) (hd : d ≤ 256) (hk : (s.get_ old).k = 2) (ha : (s.get_ old).l = p) (hb' : (s.get_ old).r = q) (ws : List Wr) (hw : 1 ≤ ws.length) (hkw : K32W ws) (hlw : ws.length ≤ 1000) (n : Nat) (hn : partW ws (d : Int) = n) (hnl : n ≤ ws.length)
    (h1 : builtC s s1 p p (d + 1) (ws.take n)) (h2 : builtC s1 s2 q q (d + 1) (ws.drop n))
    (q1 : p = 0 → s3 = s2) (d1 : p ≠ 0 → VX Tryz.prog 61 s2.sx [] [] [.ptr 0 [], .v (.int .i64 p)] s3.sx [] [] (.tup [.v (.int .i64 0), errv 0]))
    (q2 : q = 0 → s4 = s3) (d2 : q ≠ 0 → VX Tryz.prog 61 s3.sx [] [] [.ptr 0 [], .v (.int .i64 q)] s4.sx [] [] (.tup [.v (.int .i64 0), errv 0]))
    (h3 : VX Tryz.prog 90 s4.sx [] [] [.ptr 0 [], .v (.int .i64 old)] t.sx [] [] (.v (.int .i64 old))) : builtC s t old old d ws := by
  have c1 := stoKind_v s hs old
  have c2 := stoSides_v s hs old
  have hp := partedW_v ws hkw (by omega) (d : Int)
  rw [hn] at hp
  rw [hk] at c1
  rw [ha, hb'] at c2
  unfold builtC at h1 h2 ⊢
  rw [List.map_take] at h1
  rw [List.map_drop] at h2
  rw [show ((d + 1 : Nat) : Int) = (d : Int) + 1 by omega] at h1 h2
  have hwl : (ws.map wrA).length = ws.length := List.length_map ..
  have z1 : decide ((ws.length : Int) = 0) = false := decide_eq_false (by omega)
  have z2 : decide (p = p) = true := decide_eq_true rfl
  have z3 : decide (q = q) = true := decide_eq_true rfl
  simp only [Slb.sx] at c1 c2 h1 h2 h3 d1 d2 ⊢
  generalize s.sl.map slA = es at *
  generalize s.fs.map inA = fs at *
  generalize ws.map wrA = ls at *
  refine mE Tryz.func59 ?_; intro N w0 a w hN hR H
  have hX := And.intro @hwl (@z1)
  refine mW ?_; clear H; intro a w H
  refine mC H (fun hb => ?_) (fun hb => ?_)
  · exact absurd hb (by decide)
  clear hb
  refine mW ?_; clear H; intro a w H
  refine mCall [0, 1, 2, 3] [] (c1) H ?_; clear H; intro a w H; try refine wpList_nil ?_
  refine mW ?_; clear H; intro a w H
  refine mC H (fun hb => ?_) (fun hb => ?_)
  · exact absurd hb (by decide)
  clear hb
  refine mW ?_; clear H; intro a w H
  refine mCall [] [] (hp) H ?_; clear H; intro a w H; try refine wpList_nil ?_
  refine mW ?_; clear H; intro a w H
  refine mCall [0, 1, 2, 3] [] (c2) H ?_; clear H; intro a w H; try refine wpList_nil ?_
  refine mW ?_; clear H; intro a w H
  refine mCall [0, 1, 2, 3] [] (h1) H ?_; clear H; intro a w H; try refine wpList_nil ?_
  refine mW ?_; clear H; intro a w H
  refine mCall [0, 1, 2, 3] [] (h2) H ?_; clear H; intro a w H; try refine wpList_nil ?_
  refine mW ?_; clear H; intro a w H
  refine mC H (fun hb => ?_) (fun hb => ?_)
  · clear hb
    replace H := mK [0, 1, 8, 14, 15, 16, 17] 4 0 hN hR H
    refine mW ?_; clear H; intro a w H
    replace H := v_sub H 101 (x := .sl .sc [.v (.int .i64 p), .v (.int .i64 q)] (some 0)) (y := .sl .sc [.v (.int .i64 p), .v (.int .i64 q)] none) ⟨rfl, rfl⟩ rfl (fun az h => by cases h) rfl
    simp only [nilT, reduceIte, Nat.reduceEqDiff] at H
    have hg0 : ([.v (.int .i64 p), .v (.int .i64 q)] : List AV).getD 0 .any = .v (.int .i64 p) := rfl
    have hg1 : ([.v (.int .i64 p), .v (.int .i64 q)] : List AV).getD 1 .any = .v (.int .i64 q) := rfl
    have hll : ([.v (.int .i64 p), .v (.int .i64 q)] : List AV).length = 2 := rfl
    generalize hgls : ([.v (.int .i64 p), .v (.int .i64 q)] : List AV) = gs at *
    refine v_loop (fun i : Nat => ⟨[(103, none, .v (.int .i64 (i : Int))), (102, none, .v (.int .i64 2)), (101, none, .sl .sc gs none), (0, none, .ptr 0 []), (1, none, .v (.int .i64 old)), (8, none, .v (.int .i64 0))],
      stoB (sI s2 s3 s4 i).γ (sI s2 s3 s4 i).δ (sI s2 s3 s4 i).sl.length (sI s2 s3 s4 i).m (sI s2 s3 s4 i).room (sI s2 s3 s4 i).used ((sI s2 s3 s4 i).sl.map slA) ((sI s2 s3 s4 i).fs.map inA), [], []⟩) (fun i => i ≤ 2) (fun i => 2 - i) 0 (by omega)
      (H.to 4 0 ⟨Nat.le_trans hN (Nat.le_of_ble_eq_true rfl), hR⟩ ⟨rfl, rfl, rfl, rfl, rfl, rfl, trivial⟩ rfl rfl rfl rfl rfl) ?_
    clear H
    intro i a w hi H
    clear hX; have hX := @hll
    refine mW ?_; clear H; intro a w H
    refine mC H (fun hb => ?_) (fun hb => ?_)
    · have hlt : i < 2 := by
        have : decide ((i : Int) < 2) = true := hb
        rw [decide_eq_true_eq] at this; omega
      clear hb
      rcases (show i = 0 ∨ i = 1 by omega) with rfl | rfl
      · rw [show sI s2 s3 s4 0 = s2 from rfl] at H
        by_cases p0 : p = 0
        · have dp : decide (p = 0) = true := decide_eq_true p0
          have e := q1 p0
          refine mS ?_
          clear hX; have hX := And.intro @hll (And.intro @hg0 (@dp))
          (try refine wp_region_lit ?_); refine mN 1 hN H ?_; clear H; intro a w H
          (try refine wp_region_lit ?_); refine mN 2 hN H ?_; clear H; intro a w H
          refine mW ?_; clear H; intro a w H
          refine mC H (fun hb => ?_) (fun hb => ?_)
          · exact absurd hb (by simp)
          clear hb
          refine mW ?_; clear H; intro a w H
          exact ⟨1, by omega, by omega, H.to 4 0 ⟨Nat.le_trans hN (Nat.le_of_ble_eq_true rfl), hR⟩ ⟨rfl, rfl, rfl, rfl, rfl, rfl, trivial⟩ (by show _ = Slb.sx s3; rw [e]; rfl) rfl rfl rfl rfl⟩
        have dp : decide (p = 0) = false := decide_eq_false p0
        have hd1 := d1 p0
        refine mS ?_
        clear hX; have hX := And.intro @hll (And.intro @hg0 (@dp))
        (try refine wp_region_lit ?_); refine mN 1 hN H ?_; clear H; intro a w H
        (try refine wp_region_lit ?_); refine mN 2 hN H ?_; clear H; intro a w H
        refine mW ?_; clear H; intro a w H
        refine mC H (fun hb => ?_) (fun hb => ?_)
        · clear hb
          refine mW ?_; clear H; intro a w H
          refine mCall [0, 1, 2, 3] [] (hd1) H ?_; clear H; intro a w H; try refine wpList_nil ?_
          refine mW ?_; clear H; intro a w H
          exact ⟨1, by omega, by omega, H.to 4 0 ⟨Nat.le_trans hN (Nat.le_of_ble_eq_true rfl), hR⟩ ⟨rfl, rfl, rfl, rfl, rfl, rfl, trivial⟩ rfl rfl rfl rfl rfl⟩
        exact absurd hb (by simp)
      rw [show sI s2 s3 s4 1 = s3 from rfl] at H
      by_cases q0 : q = 0
      · have dp : decide (q = 0) = true := decide_eq_true q0
        have e := q2 q0
        refine mS ?_
        clear hX; have hX := And.intro @hll (And.intro @hg1 (@dp))
        (try refine wp_region_lit ?_); refine mN 1 hN H ?_; clear H; intro a w H
        (try refine wp_region_lit ?_); refine mN 2 hN H ?_; clear H; intro a w H
        refine mW ?_; clear H; intro a w H
        refine mC H (fun hb => ?_) (fun hb => ?_)
        · exact absurd hb (by simp)
        clear hb
        refine mW ?_; clear H; intro a w H
        exact ⟨2, by omega, by omega, H.to 4 0 ⟨Nat.le_trans hN (Nat.le_of_ble_eq_true rfl), hR⟩ ⟨rfl, rfl, rfl, rfl, rfl, rfl, trivial⟩ (by show _ = Slb.sx s4; rw [e]; rfl) rfl rfl rfl rfl⟩
      have dp : decide (q = 0) = false := decide_eq_false q0
      have hd2 := d2 q0
      refine mS ?_
      clear hX; have hX := And.intro @hll (And.intro @hg1 (@dp))
      (try refine wp_region_lit ?_); refine mN 1 hN H ?_; clear H; intro a w H
      (try refine wp_region_lit ?_); refine mN 2 hN H ?_; clear H; intro a w H
      refine mW ?_; clear H; intro a w H
      refine mC H (fun hb => ?_) (fun hb => ?_)
      · clear hb
        refine mW ?_; clear H; intro a w H
        refine mCall [0, 1, 2, 3] [] (hd2) H ?_; clear H; intro a w H; try refine wpList_nil ?_
        refine mW ?_; clear H; intro a w H
        exact ⟨2, by omega, by omega, H.to 4 0 ⟨Nat.le_trans hN (Nat.le_of_ble_eq_true rfl), hR⟩ ⟨rfl, rfl, rfl, rfl, rfl, rfl, trivial⟩ rfl rfl rfl rfl rfl⟩
      exact absurd hb (by simp)
    have hge : i = 2 := by
      have : decide ((i : Int) < 2) = false := hb
      rw [decide_eq_false_iff_not] at this; omega
    subst hge
    clear hb
    rw [show sI s2 s3 s4 2 = s4 from rfl] at H
    refine mW ?_; clear H; intro a w H
    refine mCall [0, 1, 2, 3] [] (h3) H ?_; clear H; intro a w H; try refine wpList_nil ?_
    refine mW ?_; clear H; intro a w H
    refine wp_ret ?_; exact mEnd [0, 1, 2, 3] [] [.tmp 8] [_] hN hR H
  exact absurd hb (by simp)
theorem treeN_info : ∀ (f d : Nat) (l : List Pr) (n : NdT), n ∈ treeN f d l → (n.1 = -1 ∨ (d : Int) ≤ n.1) ∧ n.2 ≠ [] := by
  have small : ∀ (f d : Nat) (l : List Pr) (n : NdT), l.length < 2 → n ∈ treeN f d l → (n.1 = -1 ∨ (d : Int) ≤ n.1) ∧ n.2 ≠ [] := fun f d l n hl h => by
    rw [treeN_small hl] at h
    split at h
    · cases h
    rename_i h0
    rw [List.mem_singleton.1 h]
    exact ⟨.inl rfl, fun e => h0 (by have e : l = [] := e; rw [e]; rfl)⟩
  intro f
  induction f with
  | zero =>
    intro d l n h
    by_cases hl : l.length < 2
    · exact small 0 d l n hl h
    unfold treeN at h
    rw [if_neg (by omega)] at h
    rw [List.mem_singleton.1 h]
    exact ⟨.inl rfl, fun e => hl (by have e : l = [] := e; rw [e]; decide)⟩
  | succ f ih =>
    intro d l n h
    by_cases hl : l.length < 2
    · exact small _ d l n hl h
    rw [treeN_big hl] at h
    rcases List.mem_cons.1 h with rfl | h
    · exact ⟨.inr (Int.le_refl _), fun e => hl (by have e : l = [] := e; rw [e]; decide)⟩
    rcases List.mem_append.1 h with h | h
    · obtain ⟨h1, h2⟩ := ih (d + 1) _ n h; exact ⟨h1.imp id fun e => by omega, h2⟩
    obtain ⟨h1, h2⟩ := ih (d + 1) _ n h; exact ⟨h1.imp id fun e => by omega, h2⟩
theorem treeN_sub (f d : Nat) (l : List Pr) (n : NdT) (h : n ∈ treeN f (d + 1) l) : n.1 ≠ (d : Int) := fun e => by
  obtain ⟨h1 | h1, _⟩ := treeN_info f (d + 1) l n h <;> omega
theorem treeN_lr {f g d : Nat} {l m : List Pr} {n : NdT} (h1 : n ∈ treeN f (d + 1) (halfP false d l)) (h2 : n ∈ treeN g (d + 1) (halfP true d m)) : False := by
  obtain ⟨x, hx⟩ := List.exists_mem_of_ne_nil _ (treeN_info _ _ _ _ h1).2
  have a := (halfP_bit x (mem_treeN _ _ _ _ h1 x hx)).1
  have b := (halfP_bit x (mem_treeN _ _ _ _ h2 x hx)).1
  rw [a] at b; cases b
theorem treeN_nodup : ∀ (f d : Nat) (l : List Pr), (treeN f d l).Nodup := by
  intro f
  induction f with
  | zero => intro d l; unfold treeN; split <;> simp
  | succ f ih =>
    intro d l
    by_cases hl : l.length < 2
    · rw [treeN_small hl]; split <;> simp
    rw [treeN_big hl, List.nodup_cons, List.nodup_append]
    refine ⟨fun hm => ?_, ih _ _, ih _ _, fun a ha b hb e => ?_⟩
    · rcases List.mem_append.1 hm with hm | hm
      · exact treeN_sub _ _ _ _ hm rfl
      exact treeN_sub _ _ _ _ hm rfl
    subst e; exact treeN_lr ha hb
theorem zip_fun {A : List Int} {B : List NdT} (h : B.Nodup) {p q : Int} {n : NdT} (h1 : (p, n) ∈ A.zip B) (h2 : (q, n) ∈ A.zip B) : p = q := by
  induction A generalizing B with
  | nil => cases B <;> cases h1
  | cons a A ih =>
    cases B with
    | nil => cases h1
    | cons b B =>
      obtain ⟨hb, hB⟩ := List.nodup_cons.1 h
      rcases List.mem_cons.1 h1 with e1 | h1
      · rcases List.mem_cons.1 h2 with e2 | h2
        · injection e1 with e1 _; injection e2 with e2 _; rw [e1, e2]
        have h3 : n ∈ B := (List.of_mem_zip (show (q, n) ∈ A.zip B from h2)).2
        injection e1 with _ e1; exact absurd (e1 ▸ h3) hb
      rcases List.mem_cons.1 h2 with e2 | h2
      · have h3 : n ∈ B := (List.of_mem_zip (show (p, n) ∈ A.zip B from h1)).2
        injection e2 with _ e2; exact absurd (e2 ▸ h3) hb
      exact ih hB h1 h2
abbrev zipT (s : Slb) (f d : Nat) (l : List Pr) (h : Int) : List (Int × NdT) := (hndL s f d l h).zip (treeN f d l)
def ShareAt (t : Slb) (f d : Nat) (l0 : List Pr) (h0 : Int) (l1 : List Pr) (h : Int) : Prop := ∀ p q n, (p, n) ∈ zipT t f d l0 h0 → (q, n) ∈ zipT t f d l1 h → p = q
theorem share_self (t : Slb) (f d : Nat) (l : List Pr) (h : Int) : ShareAt t f d l h l h := fun p q n h1 h2 => zip_fun (treeN_nodup f d l) h1 h2
theorem zipT_mono {s t : Slb} (hst : s.Sub t) {f d : Nat} {l : List Pr} {h : Int} (hi : Is s f d l h) : zipT t f d l h = zipT s f d l h := by unfold zipT; rw [hndL_mono hst _ _ _ _ hi]
theorem ShareAt.mono {s t : Slb} (hst : s.Sub t) {f d : Nat} {l0 l1 : List Pr} {h0 h : Int} (i0 : Is s f d l0 h0) (i1 : Is s f d l1 h) (H : ShareAt s f d l0 h0 l1 h) : ShareAt t f d l0 h0 l1 h := fun p q n h1 h2 => by
  rw [zipT_mono hst i0] at h1
  rw [zipT_mono hst i1] at h2
  exact H p q n h1 h2
theorem zipT_head {s t : Slb} {f d : Nat} {l : List Pr} (hne : l ≠ []) (h k : Int) : ∃ n, (h, n) ∈ zipT s f d l h ∧ (k, n) ∈ zipT t f d l k := by
  have h0 : l.length ≠ 0 := fun e => hne (List.length_eq_zero_iff.1 e)
  unfold zipT
  cases f with
  | zero =>
    unfold hndL treeN
    rw [if_neg h0, if_neg h0, if_neg h0]
    exact ⟨_, List.mem_cons_self, List.mem_cons_self⟩
  | succ f =>
    by_cases h1 : l.length = 1
    · rw [hndL_small (by omega), hndL_small (by omega), treeN_small (by omega), if_neg h0, if_neg h0, if_neg h0]
      exact ⟨_, List.mem_cons_self, List.mem_cons_self⟩
    rw [hndL, hndL, treeN, if_neg h0, if_neg h1, if_neg h0, if_neg h1, if_neg h0, if_neg h1]
    exact ⟨_, List.mem_cons_self, List.mem_cons_self⟩
theorem zipT_big {s : Slb} {f d : Nat} {l : List Pr} {h : Int} (hl : ¬ l.length < 2) {x : SN} {c : Nat} (hx : s.at_ h = some (x, c)) :
    zipT s (f + 1) d l h = (h, ((d : Int), l)) :: (zipT s f (d + 1) (halfP false d l) x.l ++ zipT s f (d + 1) (halfP true d l) x.r) := by
  unfold zipT
  rw [hndL_big hl hx, treeN_big hl, List.zip_cons_cons, List.zip_append (hndL_len _ _ _ _ _)]
theorem share_big {t : Slb} {f d : Nat} {l0 l1 : List Pr} {h0 h a b l r : Int} (hl : ¬ l0.length < 2) {x : SN} {c : Nat} (hx : t.at_ h0 = some (x, c)) (ha : x.l = a) (hb : x.r = b)
    (SL : ShareAt t f (d + 1) (halfP false d l0) a (halfP false d l1) l) (SR : ShareAt t f (d + 1) (halfP true d l0) b (halfP true d l1) r)
    (hz : ∀ q n, (q, n) ∈ zipT t (f + 1) d l1 h → (n = ((d : Int), l1) ∧ 2 ≤ l1.length ∧ q = h) ∨ (q, n) ∈ zipT t f (d + 1) (halfP false d l1) l ∨ (q, n) ∈ zipT t f (d + 1) (halfP true d l1) r)
    (hne : 2 ≤ l1.length → l1 ≠ l0) : ShareAt t (f + 1) d l0 h0 l1 h := by
  intro p q n h1 h2
  rw [zipT_big hl hx, ha, hb] at h1
  have nsub : ∀ {b : Bool} {m : List Pr} {k p : Int} {n : NdT}, (p, n) ∈ zipT t f (d + 1) (halfP b d m) k → n.1 ≠ (d : Int) := fun hm => treeN_sub f d _ _ (List.of_mem_zip hm).2
  rcases hz q n h2 with ⟨e1, e2, _⟩ | h2 | h2
  · rcases List.mem_cons.1 h1 with e | h1
    · exfalso
      injection e with _ e
      rw [e1] at e
      injection e with _ e
      exact hne e2 e
    exfalso
    rcases List.mem_append.1 h1 with h1 | h1
    · exact nsub h1 (by rw [e1])
    exact nsub h1 (by rw [e1])
  · rcases List.mem_cons.1 h1 with e | h1
    · exfalso; injection e with _ e; exact nsub h2 (by rw [e])
    rcases List.mem_append.1 h1 with h1 | h1
    · exact SL p q n h1 h2
    exact absurd (treeN_lr (List.of_mem_zip h2).2 (List.of_mem_zip h1).2) id
  rcases List.mem_cons.1 h1 with e | h1
  · exfalso; injection e with _ e; exact nsub h2 (by rw [e])
  rcases List.mem_append.1 h1 with h1 | h1
  · exact absurd (treeN_lr (List.of_mem_zip h1).2 (List.of_mem_zip h2).2) id
  exact SR p q n h1 h2
theorem nodup_le {α : Type} [DecidableEq α] : ∀ (a b : List α), a.Nodup → (∀ x ∈ a, x ∈ b) → a.length ≤ b.length
  | [], _, _, _ => Nat.zero_le _
  | x :: a, b, h, hs => by
    obtain ⟨h1, h2⟩ := List.nodup_cons.1 h
    have hx := hs x List.mem_cons_self
    have := nodup_le a (b.erase x) h2 fun y hy => (List.mem_erase_of_ne (fun e => h1 (by rw [← e]; exact hy))).2 (hs y (List.mem_cons_of_mem _ hy))
    rw [List.length_erase_of_mem hx] at this
    have := List.length_pos_of_mem hx
    rw [List.length_cons]; omega
theorem cF_ov {l0 : List Pr} {ws : List Wr} {l1 : List Pr} (h : IsOv l0 ws l1) (hl : l0.length < 2) : cF l0 l1 ≤ ws.length := by
  unfold cF
  rw [List.countP_eq_length_filter]
  have hn : ((l1.filter fun x => decide (¬ l0 = [x])).map (·.1)).Nodup := by
    refine List.Pairwise.map _ (fun a b hab e => ?_) (List.Pairwise.filter _ h.ris)
    obtain ⟨c, _, _, h2, h3⟩ := hab
    have e : a.1 = b.1 := e
    rw [e] at h2; rw [h2] at h3; cases h3
  have := nodup_le _ (keyW ws) hn fun k hk => by
    obtain ⟨x, hx, rfl⟩ := List.mem_map.1 hk
    obtain ⟨hx1, hx2⟩ := List.mem_filter.1 hx
    rcases (h.mem x).1 hx1 with ⟨w, hw, e, _⟩ | ⟨h3, _⟩
    · exact List.mem_map.2 ⟨w, hw, e⟩
    exfalso
    have : l0 = [x] := by
      match l0, hl, h3 with
      | [y], _, h3 => rw [List.mem_singleton.1 h3]
    exact (of_decide_eq_true hx2) this
  rw [List.length_map] at this
  unfold keyW at this
  rwa [List.length_map] at this
structure BPre (d : Nat) (l0 : List Pr) (ws : List Wr) : Prop where
  s0 : Sep d (dgs l0)
  r0 : Ris l0
  k0 : K32 l0
  v0 : ∀ x ∈ l0, x.2.length ≤ 1024
  n0 : l0.length ≤ 50
  rw : RisW ws
  kw : K32W ws
  vw : ∀ w ∈ ws, w.2.2.length ≤ 1024
  nw : ws.length ≤ 500
  aw : ∀ w ∈ ws, ∀ v ∈ ws, agree d w.1 v.1
  al : ∀ w ∈ ws, ∀ x ∈ l0, agree d w.1 x.1
theorem BPre.half {d : Nat} {l0 : List Pr} {ws : List Wr} (h : BPre d l0 ws) (b : Bool) : BPre (d + 1) (halfP b d l0) (halfW b d ws) := by
  have hm : ∀ w ∈ halfW b d ws, w ∈ ws ∧ bitN w.1 d = b := fun w hw => by
    obtain ⟨h1, h2⟩ := List.mem_filter.1 hw
    exact ⟨h1, by simpa using h2⟩
  refine ⟨halfP_sep h.s0 b, h.r0.filter _, fun x hx => h.k0 x (halfP_bit x hx).2, fun x hx => h.v0 x (halfP_bit x hx).2, Nat.le_trans (halfP_le _ _ _) h.n0, h.rw.filter _, fun w hw => h.kw w (hm w hw).1, fun w hw => h.vw w (hm w hw).1, Nat.le_trans (List.length_filter_le _ _) h.nw, fun w hw v hv => ?_, fun w hw x hx => ?_⟩
  · exact agree_succ.2 ⟨h.aw w (hm w hw).1 v (hm v hv).1, (hm w hw).2.trans (hm v hv).2.symm⟩
  exact agree_succ.2 ⟨h.al w (hm w hw).1 x (halfP_bit x hx).2, (hm w hw).2.trans (halfP_bit x hx).1.symm⟩
structure OvF (d : Nat) (l1 : List Pr) : Prop where
  s : Sep d (dgs l1)
  k : K32 l1
  v : ∀ x ∈ l1, x.2.length ≤ 1024
theorem Ris.dis {l : List Pr} (h : Ris l) : Dis l := h.imp fun {a b} hab e => by
  obtain ⟨c, _, _, h2, h3⟩ := hab
  rw [e] at h2; rw [h2] at h3; cases h3
theorem BPre.ov {d : Nat} {l0 : List Pr} {ws : List Wr} {l1 : List Pr} (h : BPre d l0 ws) (ho : IsOv l0 ws l1) : OvF d l1 := by
  have hk : K32 l1 := fun x hx => by
    rcases (ho.mem x).1 hx with ⟨w, hw, e, _⟩ | ⟨h3, _⟩
    · rw [← e]; exact h.kw w hw
    exact h.k0 x h3
  refine ⟨sep_of l1 hk ho.ris.dis d fun x hx y hy => ?_, hk, fun x hx => ?_⟩
  · have h0 := hdK_agree h.s0
    rcases (ho.mem x).1 hx with ⟨w, hw, e, _⟩ | ⟨h3, _⟩ <;> rcases (ho.mem y).1 hy with ⟨v, hv, e', _⟩ | ⟨h4, _⟩
    · rw [← e, ← e']; exact h.aw w hw v hv
    · rw [← e]; exact h.al w hw y h4
    · rw [← e']; exact (h.al v hv x h3).symm
    exact (h0 x h3).symm.trans (h0 y h4)
  rcases (ho.mem x).1 hx with ⟨w, hw, _, _, e⟩ | ⟨h3, _⟩
  · rw [← e]; exact h.vw w hw
  exact h.v0 x h3
theorem RisW.dis {l : List Wr} (h : RisW l) : DisW l := h.imp fun {a b} hab e => by
  obtain ⟨c, _, _, h2, h3⟩ := hab
  rw [e] at h2; rw [h2] at h3; cases h3
def BOut (s t : Slb) (f d : Nat) (l0 : List Pr) (h0 : Int) (ws : List Wr) (l1 : List Pr) (h : Int) : Prop :=
  Ext s t (one h) ∧ Is t f d l1 h ∧ t.used ≤ s.used + ws.length * (257 - d) ∧ ShareAt t f d l0 h0 l1 h ∧ builtC s t h0 h d ws
theorem Is.live {s : Slb} {f d : Nat} {l : List Pr} {h : Int} (hi : Is s f d l h) (h0 : h ≠ 0) : ∃ x c, s.at_ h = some (x, c) := by
  by_cases hl : l.length < 2
  · have hb := (Is.small hl).1 hi
    match l, hl, hb with
    | [], _, hb => exact absurd hb h0
    | [x], _, ⟨hd, c, h1⟩ => exact ⟨_, c, h1⟩
  cases f with
  | zero =>
    unfold Is IsB at hi
    match l, hl, hi with
    | x :: l, _, ⟨hd, c, h1⟩ => exact ⟨_, c, h1⟩
    | [], hl, _ => exact absurd (by decide) hl
  | succ f =>
    obtain ⟨x, c, h1, _⟩ := hi.big hl
    exact ⟨x, c, h1⟩
theorem bl_none {s : Slb} {f d : Nat} {l0 l1 : List Pr} {h0 : Int} (G : GoodS s) (hB : ∀ k x c, s.at_ k = some (x, c) → x.hd ≤ 1000000) (hr : Ris l0) (ho : IsOv l0 [] l1) (hi : Is s f d l0 h0) : ∃ t h, BOut s t f d l0 h0 [] l1 h := by
  rw [ho.none hr]
  obtain ⟨t, E, hlen, hk⟩ := kept_ex G hB h0 (fun h => hi.live h)
  exact ⟨t, h0, E, hi.mono E.sub, by rw [E.good.len, hlen, G.len]; exact Nat.le_add_right _ _, share_self _ _ _ _ _, built0_v s t h0 d hk⟩
theorem bl_leaf {s : Slb} {f d : Nat} {l0 l1 : List Pr} {ws : List Wr} {h0 B : Int} (hfd : f + d = 256) (P : BPre d l0 ws) (hw : ws ≠ []) (hl : l0.length < 2) (ho : IsOv l0 ws l1) (G : GoodS s) (hB : ∀ k x c, s.at_ k = some (x, c) → x.hd ≤ B) (hB0 : 0 ≤ B) (hB9 : B + 2 * f ≤ 1000000)
    (hr : s.used + ws.length * (257 - d) ≤ s.room) (hi : Is s f d l0 h0) : ∃ t h, BOut s t f d l0 h0 ws l1 h := by
  have F := P.ov ho
  have hb := (Is.small hl).1 hi
  have hc := cF_ov ho hl
  have hmul : cF l0 l1 * (257 - d) ≤ ws.length * (257 - d) := Nat.mul_le_mul_right _ hc
  have hl1 : l1 = liveW (ovZ l0 ws) := ho.uniq (ovZ_is l0 ws P.k0 P.kw P.r0.dis P.rw.dis)
  have hll : l1.length ≤ 1000 := by
    rw [hl1]
    have h1 := liveW_len (ovZ l0 ws)
    have h2 := lstW_len (l0.map pwW ++ ws)
    have h3 : (ovZ l0 ws).length = (lstW (l0.map pwW ++ ws)).length := (srtW_perm _).length_eq
    have h4 := P.nw
    rw [List.length_append, List.length_map] at h2; omega
  obtain ⟨t, h, E, I, U, S, V⟩ := fresh_ex f d l1 s h0 l0 B hfd F.s ho.ris F.k F.v hll G hB hB0 hB9 (by omega) hl hb (fun x hx => Nat.le_trans (P.v0 x hx) (by decide))
  refine ⟨t, h, E, I, by omega, fun p q n h1 h2 => ?_, ?_⟩
  · unfold zipT at h1 h2
    rw [hndL_small hl, treeN_small hl] at h1
    by_cases e : l0.length = 0
    · rw [if_pos e, if_pos e] at h1; cases h1
    rw [if_neg e, if_neg e] at h1
    have := List.mem_singleton.1 h1
    injection this with e1 e2
    rw [e2] at h2
    rw [e1]; exact (S q h2 (by omega)).symm
  rw [hl1] at V
  exact builtB_v s t G.d.wf h0 h d l0 hl hb P.k0 P.v0 ws (by cases ws with | nil => exact absurd rfl hw | cons _ _ => simp) P.kw (fun w h => Nat.le_trans (P.vw w h) (by decide)) (by have := P.nw; omega) V
theorem halfW_split {d : Nat} (hd : d < 256) {l0 : List Pr} {ws : List Wr} (P : BPre d l0 ws) : ws.take (partW ws (d : Int)) = halfW false d ws ∧ ws.drop (partW ws (d : Int)) = halfW true d ws ∧ partW ws (d : Int) ≤ ws.length ∧ (halfW false d ws).length + (halfW true d ws).length = ws.length := by
  have hm : ws.Pairwise fun a b => bitN a.1 d = true → bitN b.1 d = true := by
    rw [List.pairwise_iff_getElem]
    intro i j hi hj hij
    exact ltB_bit (List.pairwise_iff_getElem.1 P.rw i j hi hj hij) (P.aw _ (List.getElem_mem hi) _ (List.getElem_mem hj))
  obtain ⟨h1, h2⟩ := partW_split hd hm
  have e1 : ws.filter (fun w => !bitN w.1 d) = halfW false d ws := by
    unfold halfW
    apply List.filter_congr
    intro x _
    show (!bitN x.1 d) = (bitN x.1 d == false)
    cases bitN x.1 d <;> rfl
  have e2 : ws.filter (fun w => bitN w.1 d) = halfW true d ws := by
    unfold halfW
    apply List.filter_congr
    intro x _
    show bitN x.1 d = (bitN x.1 d == true)
    cases bitN x.1 d <;> rfl
  have h3 : partW ws (d : Int) ≤ ws.length := by unfold partW; exact (List.takeWhile_sublist _).length_le
  refine ⟨h1.trans e1, h2.trans e2, h3, ?_⟩
  rw [← e1, ← h1, ← e2, ← h2, List.length_take, List.length_drop]; omega
theorem side_ne {s : Slb} {f d : Nat} {l m : List Pr} {a : Int} (hfd : f + (d + 1) = 256) (s1 : Sep (d + 1) (dgs (halfP false d l))) (s2 : Sep (d + 1) (dgs (halfP true d m))) (h1 : Is s f (d + 1) (halfP false d l) a) (h2 : Is s f (d + 1) (halfP true d m) a) : a = 0 := by
  by_cases h0 : a = 0
  · exact h0
  exfalso
  obtain ⟨x, c, g1, _, g2⟩ := hndL_bit false hfd s1 h1 (hndL_head h1 h0)
  obtain ⟨y, c', g3, _, g4⟩ := hndL_bit true hfd s2 h2 (hndL_head h2 h0)
  rw [g1] at g3; injection g3 with g3; injection g3 with q1 _; subst q1
  rw [g2] at g4; cases g4
theorem drop_ex {s : Slb} (G : GoodS s) (hB : ∀ k x c, s.at_ k = some (x, c) → x.hd ≤ 1000000) (a : Int) (h0 : a ≠ 0 → ∃ x c, s.at_ a = some (x, c) ∧ 1 ≤ x.hd ∧ 1 ≤ s.refs a) :
    ∃ t, Ext s t (fun k => - one a k) ∧ t.sl.length = s.sl.length ∧ (a = 0 → t = s) ∧ (a ≠ 0 → VX Tryz.prog 61 s.sx [] [] [.ptr 0 [], .v (.int .i64 a)] t.sx [] [] (.tup [.v (.int .i64 0), errv 0])) := by
  by_cases e : a = 0
  · exact ⟨s, G.ext.congr fun k => by rw [e, one_zero]; rfl, rfl, fun _ => rfl, fun h => absurd e h⟩
  obtain ⟨x, c, hx, h1, h2⟩ := h0 e
  obtain ⟨i, rfl, _, _⟩ := Slb.at_some hx
  have hc := G.c.cnt _ _ _ hx
  obtain ⟨c, rfl⟩ : ∃ c', c = c' + 1 := ⟨c - 1, by omega⟩
  exact ⟨_, G.dec hx (by omega) h1, by show (s.sl.set _ _).length = _; rw [List.length_set], fun h => absurd h e, fun _ => dropDec_v s G.d i x c hx (by omega) h1 (hB _ _ _ hx)⟩
theorem halfP_all {d : Nat} {l : List Pr} (h : halfP false d l = []) : halfP true d l = l := by
  unfold halfP at h ⊢
  rw [List.filter_eq_nil_iff] at h
  rw [List.filter_eq_self]
  intro x hx
  have := h x hx
  cases hb : bitN x.1 d
  · rw [hb] at this; exact absurd rfl this
  rfl
theorem halfP_all2 {d : Nat} {l : List Pr} (h : halfP true d l = []) : halfP false d l = l := by
  unfold halfP at h ⊢
  rw [List.filter_eq_nil_iff] at h
  rw [List.filter_eq_self]
  intro x hx
  have := h x hx
  cases hb : bitN x.1 d
  · rfl
  rw [hb] at this; exact absurd rfl this
theorem Is.kind {s : Slb} {f d : Nat} {m : List Pr} {h : Int} (hi : Is s f d m h) (hs : Sep d (dgs m)) (hfd : f + d = 256) (hm : 2 ≤ m.length) : (s.get_ h).k = 2 := by
  obtain ⟨x, c, hx, hI⟩ := hi.info hs hfd (fun e => by subst e; simp at hm)
  rw [(Slb.get_at hx).1]; exact (hI.big hm).1
theorem halves_eq {d : Nat} {l m : List Pr} (hl : Ris l) (hm : Ris m) (h1 : halfP false d l = halfP false d m) (h2 : halfP true d l = halfP true d m) : l = m :=
  ris_uniq l m hl hm ((halfP_perm d l).symm.trans (by rw [h1, h2]; exact halfP_perm d m))
theorem zipT_small {s t : Slb} {f g d e : Nat} {l : List Pr} (hl : l.length < 2) (h : Int) : zipT s f d l h = zipT t g e l h := by
  unfold zipT
  rw [hndL_small hl, hndL_small hl, treeN_small hl, treeN_small hl]
theorem built_ex : ∀ (f d : Nat) (l0 l1 : List Pr) (ws : List Wr) (s : Slb) (h0 B : Int), f + d = 256 → BPre d l0 ws → IsOv l0 ws l1 → GoodS s → (∀ k x c, s.at_ k = some (x, c) → x.hd ≤ B) → 0 ≤ B → B + 3 * f ≤ 900000 →
    s.used + ws.length * (257 - d) ≤ s.room → Is s f d l0 h0 → ∃ t h, BOut s t f d l0 h0 ws l1 h := by
  intro f
  induction f with
  | zero =>
    intro d l0 l1 ws s h0 B hfd P ho G hB hB0 hB9 hr hi
    by_cases hw : ws = []
    · subst hw; exact bl_none G (fun k x c h => by have := hB k x c h; omega) P.r0 ho hi
    exact bl_leaf hfd P hw (by have := P.s0.deep (by omega); rwa [dgs_len] at this) ho G hB hB0 (by omega) hr hi
  | succ f ih =>
    intro d l0 l1 ws s h0 B hfd P ho G hB hB0 hB9 hr hi
    by_cases hw : ws = []
    · subst hw; exact bl_none G (fun k x c h => by have := hB k x c h; omega) P.r0 ho hi
    by_cases hl : l0.length < 2
    · exact bl_leaf hfd P hw hl ho G hB hB0 (by omega) hr hi
    have F := P.ov ho
    obtain ⟨x, c, hx, k1, k2, k3, I5, I6⟩ := hi.big hl
    obtain ⟨p1, p2, p3, p4⟩ := halfW_split (d := d) (by omega) P
    have hw1 : 1 ≤ ws.length := by cases ws with | nil => exact absurd rfl hw | cons _ _ => simp
    have e3 : 257 - d = (257 - (d + 1)) + 1 := by omega
    have hmul : ws.length * (257 - d) = (halfW false d ws).length * (257 - (d + 1)) + (halfW true d ws).length * (257 - (d + 1)) + ws.length := by
      rw [e3, Nat.mul_add, Nat.mul_one, ← Nat.add_mul, p4]
    obtain ⟨s1, l, E1, J1, U1, S1, V1⟩ := ih (d + 1) _ _ _ s x.l B (by omega) (P.half false) (ho.half false d) G hB hB0 (by omega) (by omega) I5
    have G1 := E1.good
    have hB1 := E1.hd hB (fun k => (one_nn l k).2) hB0
    obtain ⟨s2, r, E2, J2, U2, S2, V2⟩ := ih (d + 1) _ _ _ s1 x.r (B + 1) (by omega) (P.half true) (ho.half true d) G1 hB1 (by omega) (by omega) (by rw [E1.room]; omega) (I6.mono E1.sub)
    have G2 := E2.good
    have hB2 := E2.hd hB1 (fun k => (one_nn r k).2) (by omega)
    have hB2' : ∀ k x c, s2.at_ k = some (x, c) → x.hd ≤ 1000000 := fun k x c h => by have := hB2 k x c h; omega
    have hrm2 : s2.room = s.room := E2.room.trans E1.room
    have sub12 : s.Sub s2 := E1.sub.trans E2.sub
    have J1' := J1.mono E2.sub
    have sA := halfP_sep F.s false
    have sB := halfP_sep F.s true
    have hl2 : l ≠ 0 → ∃ y c', s2.at_ l = some (y, c') ∧ 1 ≤ y.hd := fun e => by
      obtain ⟨y, c', hy⟩ := J1.live e
      have h1 := E1.held G hy e
      obtain ⟨c2, h3⟩ := E2.old l y c' hy
      have := (one_nn r l).1
      exact ⟨_, c2, h3, by show 1 ≤ y.hd + one r l; omega⟩
    have hr2 : r ≠ 0 → ∃ y c', s2.at_ r = some (y, c') ∧ 1 ≤ y.hd := fun e => by
      obtain ⟨y, c', hy⟩ := J2.live e
      exact ⟨y, c', hy, E2.held G1 hy e⟩
    obtain ⟨hdx, cx, hx2⟩ := sub12 h0 x c hx
    have hk : (s.get_ h0).k = 2 := by rw [(Slb.get_at hx).1]; exact k1
    have hgl : (s.get_ h0).l = x.l := by rw [(Slb.get_at hx).1]
    have hgr : (s.get_ h0).r = x.r := by rw [(Slb.get_at hx).1]
    rw [← p1] at V1
    rw [← p2] at V2
    have hnw := P.nw
    have SL2 := S1.mono E2.sub (I5.mono E1.sub) J1
    by_cases hne : l = x.l ∧ r = x.r
    · obtain ⟨q1, q2⟩ := hne
      rw [q1] at E1 J1' hl2 V1
      rw [q2] at E2 J2 hr2 V2
      have h10 : l1 = l0 := by
        refine halves_eq (d := d) ho.ris P.r0 ?_ ?_
        · exact ris_uniq _ _ (ho.ris.filter _) (P.r0.filter _) (is_inj f (d + 1) _ _ _ (by omega) J1' (I5.mono sub12) sA (halfP_sep P.s0 false))
        exact ris_uniq _ _ (ho.ris.filter _) (P.r0.filter _) (is_inj f (d + 1) _ _ _ (by omega) J2 (I6.mono sub12) sB (halfP_sep P.s0 true))
      have hrefs : ∀ a, (x.l = a ∨ x.r = a) → 1 ≤ s2.refs a := fun a ha => by
        have h1 := refs_of (k := a) hx2
        have h2 : 1 ≤ ({ x with hd := hdx } : SN).side a := by
          unfold SN.side
          dsimp only
          rcases ha with e | e
          · rw [if_pos e]; split <;> omega
          · rw [if_pos e]; split <;> omega
        omega
      obtain ⟨s3, E3, n3, z3, D3⟩ := drop_ex G2 hB2' x.l (fun e => by obtain ⟨y, c', h1, h2⟩ := hl2 e; exact ⟨y, c', h1, h2, hrefs _ (.inl rfl)⟩)
      have G3 := E3.good
      have hB3 := E3.hd hB2 (b := 0) (fun k => by have := (one_nn x.l k).1; omega) (by omega)
      have hlr : x.r ≠ 0 → x.r ≠ x.l := fun e e2 => e (side_ne (by omega) (halfP_sep P.s0 false) (halfP_sep P.s0 true) (e2 ▸ I5) I6)
      obtain ⟨hdx3, cx3, hx3⟩ := E3.sub h0 _ cx hx2
      obtain ⟨s4, E4, n4, z4, D4⟩ := drop_ex G3 (fun k x c h => by have := hB3 k x c h; omega) x.r (fun e => by
        obtain ⟨y, c', h1, h2⟩ := hr2 e
        obtain ⟨c2, h3⟩ := E3.old _ y c' h1
        refine ⟨_, c2, h3, ?_, ?_⟩
        · rw [one_ne (hlr e)]; show 1 ≤ y.hd + -0; omega
        have h5 := refs_of (k := x.r) hx3
        have h6 : 1 ≤ ({ x with hd := hdx3 } : SN).side x.r := by
          unfold SN.side
          dsimp only
          rw [if_pos rfl]; split <;> omega
        exact Int.le_trans h6 h5)
      have G4 := E4.good
      have hB4 := E4.hd hB3 (b := 0) (fun k => by have := (one_nn x.r k).1; omega) (by omega)
      have hI4 : Is s4 (f + 1) d l0 h0 := ((hi.mono sub12).mono E3.sub).mono E4.sub
      obtain ⟨t, E5, n5, VK⟩ := kept_ex G4 (fun k x c h => by have := hB4 k x c h; omega) h0 (fun e => hI4.live e)
      have hE := (((E1.trans E2).trans E3).trans E4).trans E5
      refine ⟨t, h0, hE.congr fun k => by omega, by rw [h10]; exact hI4.mono E5.sub, ?_, by rw [h10]; exact share_self _ _ _ _ _, ?_⟩
      · have a1 := E5.good.len
        have a2 := G2.len
        rw [a1, n5, n4, n3, ← a2]; omega
      exact builtK_v s s1 s2 s3 s4 t G.d.wf h0 x.l x.r d (by omega) hk hgl hgr ws hw1 P.kw (by omega) _ rfl p3 V1 V2 z3 D3 z4 D4 VK
    -- joined
    have hfin : ∀ (t : Slb) (h : Int), Ext s2 t (fun k => one h k - one l k - one r k) → Is t (f + 1) d l1 h → t.used ≤ s2.used + 1 →
        VX Tryz.prog 94 s2.sx [] [] [.ptr 0 [], .v (.int .i64 (d : Int)), .v (.int .i64 l), .v (.int .i64 r)] t.sx [] [] (.v (.int .i64 h)) →
        (∀ q n, (q, n) ∈ zipT t (f + 1) d l1 h → (n = ((d : Int), l1) ∧ 2 ≤ l1.length ∧ q = h) ∨ (q, n) ∈ zipT t f (d + 1) (halfP false d l1) l ∨ (q, n) ∈ zipT t f (d + 1) (halfP true d l1) r) →
        ∃ t h, BOut s t (f + 1) d l0 h0 ws l1 h := fun t h E3 I3 U3 V3 hz => by
      obtain ⟨hdt, ct, hxt⟩ := E3.sub h0 _ cx hx2
      have SLt := SL2.mono E3.sub (I5.mono sub12) J1'
      have SRt := S2.mono E3.sub (I6.mono sub12) J2
      refine ⟨t, h, ((E1.trans E2).trans E3).congr fun k => by omega, I3, by omega, share_big hl hxt rfl rfl SLt SRt hz fun _ e => hne ?_, builtJ_v s s1 s2 t G.d.wf h0 x.l x.r l r h d (by omega) hk hgl hgr ws hw1 P.kw (by omega) _ rfl p3 V1 V2 hne V3⟩
      rw [e] at SLt SRt J1' J2
      constructor
      · by_cases hA : halfP false d l0 = []
        · rw [hA] at J1' I5
          rw [(Is.small (by simp)).1 J1', (Is.small (by simp)).1 I5]
        obtain ⟨n, m1, m2⟩ := zipT_head (s := t) (t := t) (f := f) (d := d + 1) hA x.l l
        exact (SLt _ _ n m1 m2).symm
      by_cases hA : halfP true d l0 = []
      · rw [hA] at J2 I6
        rw [(Is.small (by simp)).1 J2, (Is.small (by simp)).1 I6]
      obtain ⟨n, m1, m2⟩ := zipT_head (s := t) (t := t) (f := f) (d := d + 1) hA x.r r
      exact (SRt _ _ n m1 m2).symm
    by_cases j1 : l = 0 ∧ (s2.get_ r).k ≠ 2
    · obtain ⟨j1, j2⟩ := j1
      have hA := J1'.zero j1
      have hBm := halfP_all hA
      have hlt : l1.length < 2 := by
        by_cases e : l1.length < 2
        · exact e
        exact absurd (J2.kind sB (by omega) (by rw [hBm]; omega)) j2
      refine hfin s2 r (G2.ext.congr fun k => by rw [j1, one_zero]; omega) ?_ (Nat.le_add_right _ _) (by rw [j1]; exact joinedR_v s2 G2.d.wf (d : Int) r j2) fun q n hq => .inr (.inr ?_)
      · rw [hBm] at J2; exact (Is.small hlt).2 ((Is.small hlt).1 J2)
      rw [hBm, zipT_small (t := s2) (g := f + 1) (e := d) hlt r]; exact hq
    by_cases j2 : r = 0 ∧ (s2.get_ l).k ≠ 2
    · obtain ⟨j2, j3⟩ := j2
      have hl0 : l ≠ 0 := fun e => j1 ⟨e, by rw [j2, Slb.get_zero]; decide⟩
      have hA := J2.zero j2
      have hBm := halfP_all2 hA
      have hlt : l1.length < 2 := by
        by_cases e : l1.length < 2
        · exact e
        exact absurd (J1'.kind sA (by omega) (by rw [hBm]; omega)) j3
      refine hfin s2 l (G2.ext.congr fun k => by rw [j2, one_zero]; omega) ?_ (Nat.le_add_right _ _) (by rw [j2]; exact joinedL_v s2 G2.d.wf (d : Int) l hl0 j3) fun q n hq => .inr (.inl ?_)
      · rw [hBm] at J1'; exact (Is.small hlt).2 ((Is.small hlt).1 J1')
      rw [hBm, zipT_small (t := s2) (g := f + 1) (e := d) hlt l]; exact hq
    have hsum := halfP_sum d l1
    have h2 : 2 ≤ l1.length := by
      have hz1 : l = 0 ↔ halfP false d l1 = [] := ⟨fun e => J1'.zero e, fun e => by rw [e] at J1'; exact (Is.small (by simp)).1 J1'⟩
      have hz2 : r = 0 ↔ halfP true d l1 = [] := ⟨fun e => J2.zero e, fun e => by rw [e] at J2; exact (Is.small (by simp)).1 J2⟩
      by_cases hA : halfP false d l1 = []
      · have hBm := halfP_all hA
        by_cases e : 2 ≤ l1.length
        · exact e
        exfalso
        rw [hBm] at J2
        exact j1 ⟨hz1.2 hA, ((Is.small (by omega)).1 J2).k⟩
      by_cases hA2 : halfP true d l1 = []
      · have hBm := halfP_all2 hA2
        by_cases e : 2 ≤ l1.length
        · exact e
        exfalso
        rw [hBm] at J1'
        exact j2 ⟨hz2.2 hA2, ((Is.small (by omega)).1 J1').k⟩
      have a1 := List.length_pos_iff.2 hA
      have a2 := List.length_pos_iff.2 hA2
      omega
    have hlen2 := G2.len
    have hroom := G.d.wf.room.2
    have hll : l1.length ≤ 100000 := by
      have : l1 = liveW (ovZ l0 ws) := ho.uniq (ovZ_is l0 ws P.k0 P.kw P.r0.dis P.rw.dis)
      rw [this]
      have h1 := liveW_len (ovZ l0 ws)
      have h2 := lstW_len (l0.map pwW ++ ws)
      have h3 : (ovZ l0 ws).length = (lstW (l0.map pwW ++ ws)).length := (srtW_perm _).length_eq
      have h4 := P.n0
      rw [List.length_append, List.length_map] at h2; omega
    obtain ⟨t, E3, I3, tl, ⟨hla, hlb⟩, VI⟩ := join_ex G2 hB2' hfd F.s h2 hll J1' J2 (fun e => by obtain ⟨y, c', g1, g2⟩ := hl2 e; rw [(Slb.get_at g1).1]; exact g2) (fun e => by obtain ⟨y, c', g1, g2⟩ := hr2 e; rw [(Slb.get_at g1).1]; exact g2) (by rw [hrm2]; omega) (by omega)
    refine hfin t _ E3 I3 (by rw [E3.good.len, tl]; omega) (joinedI_v s2 t G2.d.wf (d : Int) l r _ j1 j2 VI) fun q n hq => ?_
    obtain ⟨y, cy, hy, _, _, _, _, _⟩ := I3.big (by omega)
    rw [(Slb.get_at hy).1] at hla hlb
    rw [zipT_big (by omega) hy, hla, hlb] at hq
    rcases List.mem_cons.1 hq with e | hq
    · injection e with e1 e2
      exact .inl ⟨e2, h2, e1⟩
    rcases List.mem_append.1 hq with hq | hq
    · exact .inr (.inl hq)
    exact .inr (.inr hq)
theorem v_seeBox {P : Program} {w0 w : World} {N : Gh} {nt lo : Nat} {st : St} {X : List XR} {a : Act} (hX : Xs lo N w0 X) (H : Rel P w0 N nt st a w) (j : Nat) {T : Ty} {x : AV} (y : AV) (hs : SeeX X x y) (hj : st.bx[j]? = some (T, x)) (hT : T.grows = false) : Rel P w0 N nt ⟨st.t, st.bx.set j (T, y), st.fz, st.rw⟩ a w := by
  obtain ⟨g, HI, hF⟩ := H
  obtain ⟨xj, hxj, hxT, hbj⟩ := HI.br.at_ j _ _ hj
  obtain ⟨hjo, hjm, hrc⟩ := hbj.rc hT
  subst hxT
  have h2 := hrc.seeX hX hs (fun b o u h => HI.fr.le.ro b o u h)
  exact ⟨g, HI.re hxj (BC.pl h2 hjo hjm), hF.sz, hF.df, fun p hp hg => hF.t p hp hg, fun p hp hg => hF.u p hp hg⟩
theorem refF_step (ws : List Wr) (i : Nat) (h : i < ws.length) (out : List Wr) : refF (ws.drop i) out = refF (ws.drop (i + 1)) (if ws[i].1 ∈ keyW (ws.drop (i + 1)) then out else insR (nzW ws[i]) out) := by
  rw [List.drop_eq_getElem_cons h]; rfl
def noneW (ws : List Wr) (k : List UInt8) (i j : Nat) : Bool := !(keyW ((ws.drop (i + 1)).take (j - (i + 1)))).contains k
theorem noneW_zero (ws : List Wr) (k : List UInt8) (i : Nat) : noneW ws k i (i + 1) = true := by unfold noneW; simp [keyW]
theorem noneW_step (ws : List Wr) (k : List UInt8) (i j : Nat) (hij : i + 1 ≤ j) (h : j < ws.length) : noneW ws k i (j + 1) = (noneW ws k i j && !decide (ws[j].1 = k)) := by
  unfold noneW
  have e : j + 1 - (i + 1) = (j - (i + 1)) + 1 := by omega
  have hl : j - (i + 1) < (ws.drop (i + 1)).length := by rw [List.length_drop]; omega
  rw [e, List.take_succ_eq_append_getElem hl]
  have hg : (ws.drop (i + 1))[j - (i + 1)] = ws[j] := by rw [List.getElem_drop]; congr 1; omega
  rw [hg]
  unfold keyW
  rw [List.map_append, List.contains_append]
  by_cases hc : ws[j].1 = k
  · simp [List.contains_cons, hc]
  simp [List.contains_cons, hc, Ne.symm hc]
theorem noneW_all (ws : List Wr) (k : List UInt8) (i : Nat) : noneW ws k i ws.length = !decide (k ∈ keyW (ws.drop (i + 1))) := by
  unfold noneW
  rw [List.take_of_length_le (by rw [List.length_drop]; omega)]
  simp
theorem insR_at (p : Wr) : ∀ (out : List Wr) (k : Nat), k ≤ out.length → (∀ m (h : m < out.length), m < k → Lib.compareBytes out[m].1 p.1 < 0) → (∀ h : k < out.length, ¬ Lib.compareBytes out[k].1 p.1 < 0) → insR p out = out.take k ++ p :: out.drop k
  | [], k, hk, _, _ => by simp [insR]
  | q :: l, 0, _, _, h2 => by
    have : ¬ Lib.compareBytes q.1 p.1 < 0 := h2 (by simp)
    unfold insR
    rw [if_neg this]; rfl
  | q :: l, k + 1, hk, h1, h2 => by
    have h0 : Lib.compareBytes q.1 p.1 < 0 := h1 0 (by simp) (by omega)
    unfold insR
    rw [if_pos h0, insR_at p l k (Nat.le_of_succ_le_succ hk) (fun m h hm => h1 (m + 1) (Nat.succ_lt_succ h) (by omega)) (fun h => h2 (Nat.succ_lt_succ h))]
    rfl
set_option maxRecDepth 20000 in
set_option maxHeartbeats 8000000 in
theorem rorder_v (ws : List Wr) (hk : K32W ws) (hv : ∀ w ∈ ws, w.2.2.length ≤ 34359730000) (hl : ws.length ≤ 1000000) : VC Tryz.prog 24 [.sl wrT (ws.map wrA) none] [] (.sl wrT ((refF ws []).map wrA) none) := by
  have hwl : (ws.map wrA).length = ws.length := List.length_map ..
  have hgw := wrA_get ws
  generalize ws.map wrA = es at *
  refine mE Tryz.func24 ?_; intro N w0 a w hN hR H
  have hX := @hwl
  refine mW ?_; clear H; intro a w H
  replace H := v_sub H 3 (x := .v (.slice none 0 0)) (y := .sl wrT [] none) rfl rfl (fun az h => by cases h) rfl
  simp only [nilT, reduceIte, Nat.reduceEqDiff] at H
  refine v_loopI (fun i a w => ∃ out : List Wr, refF (ws.drop i) out = refF ws [] ∧ K32W out ∧ out.length ≤ i ∧ Rel Tryz.prog w0 N Tryz.f24.ntmps ⟨[(4, none, .v (.int .i64 (i : Int))), (3, none, .sl wrT (out.map wrA) none), (0, none, .sl wrT es none)], [], [], []⟩ a w)
    (fun i => i ≤ ws.length) (fun i => ws.length - i) 0 (Nat.zero_le _) ⟨[], by simp, (fun x hx => by cases hx), Nat.zero_le _, H.to 0 0 ⟨hN, hR⟩ ⟨rfl, rfl, rfl, trivial⟩ rfl rfl rfl rfl rfl⟩ ?_
  clear H
  rintro i a w hi ⟨out, ho1, ho2, ho3, H⟩
  refine mW ?_; clear H; intro a w H
  refine mC H (fun hb => ?_) (fun hb => ?_)
  · have hlt : i < ws.length := by rw [decide_eq_true_eq] at hb; omega
    clear hb
    have hg := hgw i hlt
    have hp32 := hk _ (List.getElem_mem hlt)
    have hvl := hv _ (List.getElem_mem hlt)
    have hst := refF_step ws i hlt out
    rw [ho1] at hst
    obtain ⟨p, hpp⟩ : ∃ p, p = ws[i] := ⟨_, rfl⟩
    rw [← hpp] at hg hp32 hst hvl
    obtain ⟨kb, gb, vb⟩ := p
    dsimp only at hg hp32 hst hvl
    refine mS ?_
    (try refine wp_region_lit ?_); refine mN 1 hN H ?_; clear H; intro a w H
    (try refine wpList_nil ?_)
    refine mW ?_; clear H; intro a w H
    rw [show (i : Int) + 1 = ((i + 1 : Nat) : Int) by omega] at H
    refine v_loop (fun j : Nat => ⟨[(6, none, .v (.int .i64 (j : Int))), (5, none, .v (.bool (noneW ws kb i j))), (4, none, .v (.int .i64 (i : Int))), (3, none, .sl wrT (out.map wrA) none), (0, none, .sl wrT es none)], [], [], []⟩)
      (fun j => i + 1 ≤ j ∧ j ≤ ws.length) (fun j => ws.length - j) (i + 1) ⟨Nat.le_refl _, hlt⟩ (H.to 0 0 ⟨hN, hR⟩ ⟨rfl, by rw [noneW_zero]; rfl, rfl, rfl, rfl, trivial⟩ rfl rfl rfl rfl rfl) ?_
    clear H
    rintro j a w ⟨hj1, hj2⟩ H
    refine mW ?_; clear H; intro a w H
    refine mC H (fun hb => ?_) (fun hb => ?_)
    · have hjt : j < ws.length := by rw [decide_eq_true_eq] at hb; omega
      clear hb
      have hgj := hgw j hjt
      have hns := noneW_step ws kb i j hj1 hjt
      have hq32 := hk _ (List.getElem_mem hjt)
      generalize ws[j] = q at *
      obtain ⟨kq, gq, vq⟩ := q
      dsimp only at hgj hns hq32
      generalize noneW ws kb i j = fl at *
      clear hX; have hX := And.intro @hwl (And.intro @hg (And.intro @hgj (And.intro @hp32 (@hq32))))
      refine mS ?_; refine mD 0 [] [] H ?_; clear H; intro gS H
      refine mTN 5 hN H ?_; clear H; intro a w H; simp only [drL]
      refine mTN 5 hN H ?_; clear H; intro a w H; simp only [drL]
      refine mT ?_; clear H; intro a w H
      refine v_drawNil H ?_; clear H; intro H
      have e5 : (bif fl then !decide (kq = kb) else false) = noneW ws kb i (j + 1) := by rw [hns]; cases fl <;> simp
      rw [e5] at H
      clear hX; have hX := @hwl
      refine mW ?_; clear H; intro a w H
      rw [show (j : Int) + 1 = ((j + 1 : Nat) : Int) by omega] at H
      exact ⟨j + 1, ⟨by omega, hjt⟩, by omega, H.to 0 0 ⟨hN, hR⟩ ⟨rfl, rfl, rfl, rfl, rfl, trivial⟩ rfl rfl rfl rfl rfl⟩
    have hje : j = ws.length := by rw [decide_eq_false_iff_not] at hb; omega
    subst hje
    clear hb
    rw [noneW_all] at H
    refine mW ?_; clear H; intro a w H
    refine mC H (fun hb => ?_) (fun hb => ?_)
    · rw [Bool.not_not, decide_eq_true_eq] at hb
      rw [if_pos hb] at hst
      refine mW ?_; clear H; intro a w H
      rw [show (i : Int) + 1 = ((i + 1 : Nat) : Int) by omega] at H
      exact ⟨i + 1, hlt, by omega, out, hst.symm, ho2, by omega, H.to 0 0 ⟨hN, hR⟩ ⟨rfl, rfl, rfl, trivial⟩ rfl rfl rfl rfl rfl⟩
    rw [Bool.not_not, decide_eq_false_iff_not] at hb
    rw [if_neg hb] at hst
    clear hb
    clear hX; have hX := And.intro @hwl (And.intro @hg (@hp32))
    refine mS ?_; refine mD 0 [11, 12] [0, 1, 2, 3, 4, 5, 6, 7, 8, 9, 10] H ?_; clear H; intro gS H
    refine mTN 3 hN H ?_; clear H; intro a w H; simp only [drL]
    refine mTN 5 hN H ?_; clear H; intro a w H; simp only [drL]
    refine mTN 2 hN H ?_; clear H; intro a w H; simp only [drL]
    refine mT ?_; clear H; intro a w H
    refine v_drawNil H ?_; clear H; intro H
    refine mS ?_
    (try refine wp_region_lit ?_); refine mN 3 hN H ?_; clear H; intro a w H
    (try refine wpList_nil ?_)
    have hnz : nzW (kb, gb, vb) = (kb, gb, if gb then [] else vb) := rfl
    rw [hnz] at hst
    clear hnz
    generalize hnb : (if gb then [] else vb) = nb at *
    revert a w
    apply cutW (R := fun a w => ∃ nv, SeeX [] nv (.bs nb none) ∧ low 1 0 3 nv = true ∧ (nv = .v (.slice none 0 0) ∨ nv = .bs nb none) ∧ Rel Tryz.prog w0 N Tryz.f24.ntmps ⟨[(7, none, .ptr 0 []), (4, none, .v (.int .i64 (i : Int))), (3, none, .sl wrT (out.map wrA) none), (0, none, .sl wrT es none)],
      [(wrT, .st [.ba kb, .v (.bool gb), nv])], [], []⟩ a w)
    · intro key1 a w H
      refine mC H (fun hb => ?_) (fun hb => ?_)
      · refine mS ?_
        (try refine wp_region_lit ?_); refine mN 4 hN H ?_; clear H; intro a w H
        (try refine wp_region_lit ?_); refine mN 2 hN H ?_; clear H; intro a w H
        simp only [List.replicate_zero] at H
        (try refine wp_region_lit ?_); refine mN 1 hN H ?_; clear H; intro a w H
        replace H := v_sub H 60 (x := .bs vb (some 0)) (y := .bs vb none) rfl rfl (fun az h => by cases h) rfl
        simp only [nilT, reduceIte, Nat.reduceEqDiff] at H
        (try refine wp_region_lit ?_); refine mN 2 hN H ?_; clear H; intro a w H
        (try refine wpList_nil ?_)
        refine mS ?_
        refine key1 _ _ ⟨_, ?_, rfl, .inr (by rw [← hnb, show gb = false by simpa using hb, if_neg (by decide)]), H.to 1 0 ⟨Nat.le_trans hN (by decide), hR⟩ ⟨rfl, rfl, rfl, rfl, trivial⟩ rfl rfl rfl rfl rfl⟩
        have hgb : gb = false := by simpa using hb
        rw [← hnb, hgb, if_neg (by decide)]; exact .refl _
      refine mS ?_
      refine key1 _ _ ⟨_, ?_, rfl, .inl rfl, H.to 1 0 ⟨Nat.le_trans hN (by decide), hR⟩ ⟨rfl, rfl, rfl, rfl, trivial⟩ rfl rfl rfl rfl rfl⟩
      have hgb : gb = true := by simpa using hb
      rw [← hnb, if_pos hgb]; exact .nil
    rintro a w ⟨nv, hnv, hlw, hn2, H⟩
    have hse : SeeX [] (.st [.ba kb, .v (.bool gb), nv]) (wrA (kb, gb, nb)) := .st rfl fun i q1 q2 => by
      match i, q1 with
      | 0, _ => exact .refl _
      | 1, _ => exact .refl _
      | 2, _ => exact hnv
    have hwe : wrA (kb, gb, nb) = .st [.ba kb, .v (.bool gb), .bs nb none] := rfl
    replace H := v_seeBox (Xs.nil 0 N w0) H 0 _ hse rfl rfl
    rw [hwe] at H
    simp only [List.set_cons_zero] at H
    clear hse hnv hlw hn2
    have hcl : (out.map wrA).length = out.length := List.length_map ..
    have hgo := wrA_get out
    generalize hcs : out.map wrA = cs at *
    clear hX; have hX := @hcl
    refine mW ?_; clear H; intro a w H
    refine v_loop (fun k : Nat => ⟨[(8, none, .v (.int .i64 (k : Int))), (7, none, .ptr 0 []), (4, none, .v (.int .i64 (i : Int))), (3, none, .sl wrT cs none), (0, none, .sl wrT es none)], [(wrT, .st [.ba kb, .v (.bool gb), .bs nb none])], [], []⟩)
      (fun k => k ≤ out.length ∧ ∀ m (h : m < out.length), m < k → Lib.compareBytes out[m].1 kb < 0) (fun k => out.length - k) 0 ⟨Nat.zero_le _, fun m h hm => absurd hm (by omega)⟩ (H.to 1 0 ⟨Nat.le_trans hN (by decide), hR⟩ ⟨rfl, rfl, rfl, rfl, rfl, trivial⟩ rfl rfl rfl rfl rfl) ?_
    clear H
    rintro k a w ⟨hk1, hk2⟩ H
    (try clear hX)
    revert a w
    apply cutW (R := fun a w => ∃ k : Nat, k ≤ out.length ∧ insR (kb, gb, nb) out = out.take k ++ (kb, gb, nb) :: out.drop k ∧ Rel Tryz.prog w0 N Tryz.f24.ntmps ⟨[(8, none, .v (.int .i64 (k : Int))), (7, none, .ptr 0 []), (4, none, .v (.int .i64 (i : Int))), (3, none, .sl wrT cs none), (0, none, .sl wrT es none)], [(wrT, .st [.ba kb, .v (.bool gb), .bs nb none])], [], []⟩ a w)
    intro key2 a w H
    have hX := hcl
    by_cases hkl : k < out.length
    · have hbt : decide ((k : Int) < (out.length : Int)) = true := by rw [decide_eq_true_eq]; omega
      have hgk := hgo k hkl
      have hq32 := ho2 _ (List.getElem_mem hkl)
      have hcm := pcmpR_v out[k].1 kb hq32 hp32
      have hck : ∀ h : k < out.length, Lib.compareBytes out[k].1 kb = Lib.compareBytes out[k].1 kb := fun _ => rfl
      obtain ⟨q, hqe⟩ : ∃ q, out[k] = q := ⟨_, rfl⟩
      rw [hqe] at hgk hq32 hcm
      obtain ⟨kq, gq, vq⟩ := q
      dsimp only at hgk hq32 hcm
      skip
      all_goals
        clear hX; have hX := And.intro @hcl (And.intro @hbt (And.intro @hgk (And.intro @hp32 (@hq32))))
        refine mS ?_; refine mD 1 [12] [] H ?_; clear H; intro gS H
        refine mTN 5 hN H ?_; clear H; intro a w H; simp only [drL]
        refine mTN 3 hN H ?_; clear H; intro a w H; simp only [drL]
        refine mTN 2 hN H ?_; clear H; intro a w H; simp only [drL]
        refine mTN 2 hN H ?_; clear H; intro a w H; simp only [drL]
        refine mCallTG [] [] (hcm) H ?_; clear H; intro a w H
        refine mT ?_; clear H; intro a w H
        refine v_drawNil H ?_; clear H; intro H
        refine mC H (fun hb => ?_) (fun hb => ?_)
        · skip
          clear hX; have hX := @hcl
          refine mW ?_; clear H; intro a w H
          have hlt0 : Lib.compareBytes kq kb < 0 := by simpa using hb
          clear hb
          rw [show (k : Int) + 1 = ((k + 1 : Nat) : Int) by omega] at H
          refine ⟨k + 1, ⟨hkl, fun m h hm => ?_⟩, by omega, H.to 1 0 ⟨Nat.le_trans hN (by decide), hR⟩ ⟨rfl, rfl, rfl, rfl, rfl, trivial⟩ rfl rfl rfl rfl rfl⟩
          rcases Nat.lt_or_ge m k with h3 | h3
          · exact hk2 m h h3
          have : m = k := by omega
          subst this
          rw [hqe]; exact hlt0
        have hge0 : ¬ Lib.compareBytes kq kb < 0 := by simpa using hb
        clear hb
        refine mS ?_
        exact key2 _ _ ⟨k, hk1, insR_at (kb, gb, nb) out k hk1 hk2 (fun h => by rw [hqe]; exact hge0), H.to 1 0 ⟨Nat.le_trans hN (by decide), hR⟩ ⟨rfl, rfl, rfl, rfl, rfl, trivial⟩ rfl rfl rfl rfl rfl⟩
    · have hbf : decide ((k : Int) < (out.length : Int)) = false := by rw [decide_eq_false_iff_not]; omega
      skip
      all_goals
        clear hX; have hX := And.intro @hcl (@hbf)
        refine mS ?_; refine mD 1 [12] [] H ?_; clear H; intro gS H
        refine mTN 5 hN H ?_; clear H; intro a w H; simp only [drL]
        refine mSkT .any H ?_; clear H; intro a w H
        refine mSkT .any H ?_; clear H; intro a w H
        refine mSkT .any H ?_; clear H; intro a w H
        refine mSkT .any H ?_; clear H; intro a w H
        refine mSkT .any H ?_; clear H; intro a w H
        refine mSkT .any H ?_; clear H; intro a w H
        refine mSkT .any H ?_; clear H; intro a w H
        refine mSkT .any H ?_; clear H; intro a w H
        refine mSkT (.v (.bool false)) H ?_; clear H; intro a w H
        refine mT ?_; clear H; intro a w H
        refine v_drawNil H ?_; clear H; intro H
        refine mC H (fun hb => ?_) (fun hb => ?_)
        · cases hb
        clear hb
        refine mS ?_
        exact key2 _ _ ⟨k, hk1, insR_at (kb, gb, nb) out k hk1 hk2 (fun h => absurd h hkl), H.to 1 0 ⟨Nat.le_trans hN (by decide), hR⟩ ⟨rfl, rfl, rfl, rfl, rfl, trivial⟩ rfl rfl rfl rfl rfl⟩
    rintro a w ⟨k, hk1, hins, H⟩
    have hins2 : (insR (kb, gb, nb) out).map wrA = cs.take k ++ [.st [.ba kb, .v (.bool gb), .bs nb none]] ++ cs.drop k := by
      rw [hins, List.map_append, List.map_cons, hwe, ← hcs, List.map_take, List.map_drop]; simp
    have hkk : K32W (insR (kb, gb, nb) out) := fun x hx => by
      rcases List.mem_cons.1 ((insR_perm _ out).mem_iff.1 hx) with rfl | hx
      · exact hp32
      exact ho2 x hx
    have hil : (insR (kb, gb, nb) out).length = out.length + 1 := by rw [(insR_perm _ out).length_eq]; rfl
    generalize insR (kb, gb, nb) out = out2 at *
    have hc1 : (cs.take k).length = k := by rw [List.length_take]; omega
    have hc2 : (cs.drop k).length = out.length - k := by rw [List.length_drop]; omega
    have hX := hcl
    refine mS ?_
    clear hX; have hX := And.intro @hcl (And.intro @hc1 (@hc2))
    (try refine wp_region_lit ?_); refine mN 1 hN H ?_; clear H; intro a w H
    (try refine wpList_nil ?_)
    replace H := v_nilE tab_ok H 9 60 wrT (j := ti60) rfl (by decide) rfl
    simp only [nilT, reduceIte, Nat.reduceEqDiff, List.length_nil, List.nil_append] at H
    refine mW ?_; clear H; intro a w H
    rw [← hins2] at H
    replace H := v_sub H 3 (x := .sl wrT (out2.map wrA) (some 0)) (y := .sl wrT (out2.map wrA) none) ⟨rfl, rfl⟩ rfl (fun az h => by cases h) rfl
    simp only [nilT, reduceIte, Nat.reduceEqDiff] at H
    rw [show (i : Int) + 1 = ((i + 1 : Nat) : Int) by omega] at H
    exact ⟨i + 1, hlt, by omega, out2, hst.symm, hkk, by omega, H.to 0 0 ⟨hN, hR⟩ ⟨rfl, rfl, rfl, trivial⟩ rfl rfl rfl rfl rfl⟩
  have hge : i = ws.length := by rw [decide_eq_false_iff_not] at hb; omega
  subst hge
  clear hb
  rw [List.drop_length] at ho1
  rw [← ho1]
  refine mW ?_; clear H; intro a w H
  refine wp_ret ?_; exact mEnd [] [] [.tmp 2] [_] hN hR H
attribute [local irreducible] wpT
set_option maxRecDepth 20000 in
set_option maxHeartbeats 8000000 in
theorem rover_v (ps : List Pr) (ws : List Wr) (hp : K32 ps) (hk : K32W ws) (hv : ∀ p ∈ ps, p.2.length ≤ 34359730000) (hv2 : ∀ w ∈ ws, w.2.2.length ≤ 34359730000) (hl : ps.length ≤ 100000) (hl2 : ws.length ≤ 100000) :
    VC Tryz.prog 25 [.sl prT (ps.map prA) none, .sl wrT (ws.map wrA) none] [] (.sl prT ((liveW (ovZ ps ws)).map prA) none) := by
  have hpl : (ps.map prA).length = ps.length := List.length_map ..
  have hwl : (ws.map wrA).length = ws.length := List.length_map ..
  have hk2 : K32W (ps.map pwW ++ ws) := fun x hx => by
    rcases List.mem_append.1 hx with hx | hx
    · obtain ⟨p, hp1, rfl⟩ := List.mem_map.1 hx
      exact hp p hp1
    exact hk x hx
  have hvv : ∀ w ∈ ps.map pwW ++ ws, w.2.2.length ≤ 34359730000 := fun x hx => by
    rcases List.mem_append.1 hx with hx | hx
    · obtain ⟨p, hp1, rfl⟩ := List.mem_map.1 hx
      exact hv p hp1
    exact hv2 x hx
  have hb0 := rorder_v (ps.map pwW ++ ws) hk2 hvv (by rw [List.length_append, List.length_map]; omega)
  rw [refF_eq _ hk2] at hb0
  have hlw := lstW_len (ps.map pwW ++ ws)
  have hsl : (srtW (lstW (ps.map pwW ++ ws))).length = (lstW (ps.map pwW ++ ws)).length := (srtW_perm _).length_eq
  rw [← hsl] at hlw
  rw [List.map_append] at hb0
  rw [List.length_append, List.length_map] at hlw
  unfold ovZ
  have hzk : K32W (srtW (lstW (ps.map pwW ++ ws))) := (lstW_k32 _ hk2).perm (srtW_perm _)
  generalize srtW (lstW (ps.map pwW ++ ws)) = Z at *
  clear hsl
  refine mE Tryz.func25 ?_; intro N w0 a w hN hR H
  have hX := And.intro @hpl (@hwl)
  refine mW ?_; clear H; intro a w H
  replace H := v_nilE tab_ok H 5 60 wrT (j := ti60) rfl (by decide) rfl
  simp only [nilT, reduceIte, Nat.reduceEqDiff, List.length_nil, List.nil_append] at H
  refine v_loop (fun k : Nat => ⟨[(6, none, .v (.int .i64 (k : Int))), (5, none, .sl wrT (((ps.take k).map pwW).map wrA) (some 0)), (0, none, .sl prT (ps.map prA) none), (1, none, .sl wrT (ws.map wrA) none)],
    [], [], [(60, k)]⟩) (fun k => k ≤ ps.length) (fun k => ps.length - k) 0 (Nat.zero_le _) (H.to 0 1 ⟨hN, Nat.le_trans hR (Nat.zero_le _)⟩ ⟨rfl, rfl, rfl, rfl, trivial⟩ rfl rfl rfl rfl rfl) ?_
  clear H
  intro k a w hk1 H
  refine mW ?_; clear H; intro a w H
  refine mC H (fun hb => ?_) (fun hb => ?_)
  · have hlt : k < ps.length := by rw [decide_eq_true_eq] at hb; omega
    clear hb
    have g1 := prs_get ps k hlt
    have w1 := hp _ (List.getElem_mem hlt)
    have e1 : ((ps.take (k + 1)).map pwW).map wrA = ((ps.take k).map pwW).map wrA ++ [wrA (pwW ps[k])] := by rw [List.take_succ_eq_append_getElem hlt, List.map_append, List.map_append]; rfl
    have hcl : (((ps.take k).map pwW).map wrA).length = k := by rw [pw_len, List.length_take]; omega
    generalize ps[k] = q at *
    obtain ⟨kb, vb⟩ := q
    dsimp only at g1 w1
    have hwe : wrA (pwW (kb, vb)) = .st [.ba kb, .v (.bool false), .bs vb none] := rfl
    rw [hwe] at e1
    clear hwe
    generalize ((ps.take k).map pwW).map wrA = cs at *
    clear hX; have hX := And.intro @hpl (And.intro @hwl (And.intro @g1 (And.intro @w1 (@hcl))))
    refine mS ?_; refine mD 0 [12, 13] [0] H ?_; clear H; intro gS H
    refine mTN 4 hN H ?_; clear H; intro a w H; simp only [drL]
    refine mTN 4 hN H ?_; clear H; intro a w H; simp only [drL]
    refine mTN 1 hN H ?_; clear H; intro a w H; simp only [drL]
    refine mTN 2 hN H ?_; clear H; intro a w H; simp only [drL]
    refine mTN 1 hN H ?_; clear H; intro a w H; simp only [drL]
    refine mT ?_; clear H; intro a w H
    refine v_drawNil H ?_; clear H; intro H
    refine mW ?_; clear H; intro a w H
    rw [← e1, show (k : Int) + 1 = ((k + 1 : Nat) : Int) by omega] at H
    exact ⟨k + 1, hlt, by omega, H.to 0 1 ⟨hN, Nat.le_trans hR (Nat.zero_le _)⟩ ⟨rfl, rfl, rfl, rfl, trivial⟩ rfl rfl rfl rfl rfl⟩
  have hge : k = ps.length := by rw [decide_eq_false_iff_not] at hb; omega
  subst hge
  clear hb
  rw [List.take_length] at H
  have hcl := pw_len ps
  generalize (ps.map pwW).map wrA = cs at *
  generalize ws.map wrA = es at *
  refine mS ?_
  clear hX; have hX := And.intro @hcl (@hwl)
  (try refine wp_region_lit ?_); refine mN 4 hN H ?_; clear H; intro a w H
  (try refine wpList_nil ?_)
  refine mS ?_
  (try refine wp_region_lit ?_); refine mN 1 hN H ?_; clear H; intro a w H
  replace H := v_sub H 32 (x := .sl wrT (cs ++ es) (some 0)) (y := .sl wrT (cs ++ es) none) ⟨rfl, rfl⟩ rfl (fun az h => by cases h) rfl
  simp only [nilT, reduceIte, Nat.reduceEqDiff] at H
  refine mCall [] [] (hb0) H ?_; clear H; intro a w H; try refine wpList_nil ?_
  have hzl : (Z.map wrA).length = Z.length := List.length_map ..
  clear hX; have hX := @hzl
  refine mW ?_; clear H; intro a w H
  replace H := mK [5, 7, 8] 0 0 hN hR H
  replace H := v_nilE tab_ok H 7 53 prT (j := ti53) rfl (by decide) rfl
  simp only [nilT, reduceIte, Nat.reduceEqDiff, List.length_nil, List.nil_append] at H
  refine v_loop (fun k : Nat => ⟨[(8, none, .v (.int .i64 (k : Int))), (7, none, .sl prT ((liveW (Z.take k)).map prA) (some 0)), (5, none, .sl wrT (Z.map wrA) none)],
    [], [], [(53, (liveW (Z.take k)).length)]⟩)
    (fun k => k ≤ Z.length) (fun k => Z.length - k) 0 (Nat.zero_le _) (H.to 0 1 ⟨hN, Nat.le_trans hR (Nat.zero_le _)⟩ ⟨rfl, rfl, rfl, trivial⟩ rfl rfl rfl rfl rfl) ?_
  clear H
  intro k a w hk1 H
  refine mW ?_; clear H; intro a w H
  refine mC H (fun hb => ?_) (fun hb => ?_)
  · have hlt : k < Z.length := by rw [decide_eq_true_eq] at hb; omega
    clear hb
    have hg := wrA_get Z k hlt
    have w1 := hzk _ (List.getElem_mem hlt)
    have e1 : liveW (Z.take (k + 1)) = if Z[k].2.1 then liveW (Z.take k) else liveW (Z.take k) ++ [(Z[k].1, Z[k].2.2)] := by rw [List.take_succ_eq_append_getElem hlt, liveW_snoc]
    have hm2 : (liveW (Z.take k)).length ≤ 200000 := by have := liveW_len (Z.take k); rw [List.length_take] at this; omega
    generalize Z[k] = q at *
    obtain ⟨kb, gb, vb⟩ := q
    dsimp only at hg w1 e1
    refine mS ?_
    clear hX; have hX := And.intro @hzl (@hg)
    (try refine wp_region_lit ?_); refine mN 3 hN H ?_; clear H; intro a w H
    refine mW ?_; clear H; intro a w H
    refine mC H (fun hb => ?_) (fun hb => ?_)
    · have hgb : gb = false := by simpa using hb
      subst hgb
      clear hb
      rw [if_neg (by decide)] at e1
      have hcl : ((liveW (Z.take k)).map prA).length = (liveW (Z.take k)).length := List.length_map ..
      have e2 : (liveW (Z.take (k + 1))).map prA = (liveW (Z.take k)).map prA ++ [.st [.ba kb, .bs vb none]] := by rw [e1, List.map_append]; rfl
      have l1 : (liveW (Z.take (k + 1))).length = (liveW (Z.take k)).length + 1 := by rw [e1, List.length_append]; rfl
      generalize (liveW (Z.take k)).map prA = o at *
      generalize (liveW (Z.take k)).length = m at *
      clear hX; have hX := And.intro @hzl (And.intro @hg (And.intro @w1 (@hcl)))
      refine mS ?_; refine mD 0 [12, 13] [0] H ?_; clear H; intro gS H
      refine mTN 4 hN H ?_; clear H; intro a w H; simp only [drL]
      refine mTN 4 hN H ?_; clear H; intro a w H; simp only [drL]
      refine mTN 1 hN H ?_; clear H; intro a w H; simp only [drL]
      refine mTN 2 hN H ?_; clear H; intro a w H; simp only [drL]
      refine mTN 1 hN H ?_; clear H; intro a w H; simp only [drL]
      refine mT ?_; clear H; intro a w H
      refine v_drawNil H ?_; clear H; intro H
      refine mW ?_; clear H; intro a w H
      rw [← e2, ← l1, show (k : Int) + 1 = ((k + 1 : Nat) : Int) by omega] at H
      exact ⟨k + 1, hlt, by omega, H.to 0 1 ⟨hN, Nat.le_trans hR (Nat.zero_le _)⟩ ⟨rfl, rfl, rfl, trivial⟩ rfl rfl rfl rfl rfl⟩
    have hgb : gb = true := by simpa using hb
    subst hgb
    clear hb
    rw [if_pos rfl] at e1
    clear hX; have hX := @hzl
    refine mW ?_; clear H; intro a w H
    rw [show (k : Int) + 1 = ((k + 1 : Nat) : Int) by omega] at H
    exact ⟨k + 1, hlt, by omega, H.to 0 1 ⟨hN, Nat.le_trans hR (Nat.zero_le _)⟩ ⟨rfl, by rw [e1]; rfl, rfl, trivial⟩ rfl (by rw [e1]; rfl) rfl rfl rfl⟩
  have hge : k = Z.length := by rw [decide_eq_false_iff_not] at hb; omega
  subst hge
  clear hb
  rw [List.take_length] at H
  refine mW ?_; clear H; intro a w H
  replace H := v_sub H 4 (x := .sl prT ((liveW Z).map prA) (some 0)) (y := .sl prT ((liveW Z).map prA) none) ⟨rfl, rfl⟩ rfl (fun az h => by cases h) rfl
  simp only [nilT, reduceIte, Nat.reduceEqDiff] at H
  refine wp_ret ?_; exact mEnd [] [] [.tmp 4] [_] hN hR H
end Go.Proofs.YtgffimanhmpohaaGreat
namespace Go.Proofs.YtgffimanhmpohaaGreat
open Go Go.RowKit
theorem good_new {n : Nat} (h1 : 0 < n) (h2 : n ≤ 65536) : GoodS (Slb.new n) := by
  have hn : ∀ k x c, (Slb.new n).at_ k = some (x, c) → False := fun k x c hk => by
    have := (Slb.at_lt hk)
    have h0 : (Slb.new n).sl.length = 0 := rfl
    omega
  exact ⟨⟨Slb.wf_at ⟨h1, h2⟩ (Nat.zero_le _) fun k x c hk => (hn k x c hk).elim, rfl, rfl, Nat.le_refl _, Nat.zero_le _⟩, ⟨fun k x c hk => (hn k x c hk).elim, fun k x c hk => (hn k x c hk).elim, fun _ => Int.le_refl 0, fun k x c hk => (hn k x c hk).elim, fun k x c hk => (hn k x c hk).elim⟩, rfl⟩
theorem bld_small {f d : Nat} {l : List Pr} {s : Slb} {B : Int} (hl : l.length < 2) (hK : K32 l) (hv : ∀ x ∈ l, x.2.length ≤ 1024) (G : GoodS s) (hr : s.used + l.length * (257 - d) ≤ s.room) (hd : d ≤ 256) :
    ∃ t h, Ext s t (one h) ∧ Is t f d l h ∧ t.used ≤ s.used + l.length * (257 - d) ∧ bldC s t d l h := by
  match l, hl with
  | [], _ => exact ⟨s, 0, G.ext.congr fun k => (one_zero k).symm, (Is.small (by simp)).2 rfl, by simp, bld_nil s d⟩
  | [x], _ =>
    have hu : s.used < s.room := by
      have : 1 ≤ 257 - d := by omega
      simp only [List.length_singleton, Nat.one_mul] at hr; omega
    have hlen := G.len
    have hrm := G.d.wf.room.2
    have E := G.leaf hu (by omega) x.1 x.2 (hK x List.mem_cons_self)
    refine ⟨_, _, E, (Is.small (by simp)).2 ⟨1, 1, by rw [Slb.at_push, if_pos rfl]⟩, ?_, bld_leaf s G.d.wf G.m hu d x (hK x List.mem_cons_self) (hv x List.mem_cons_self) (by omega)⟩
    show s.used + 1 ≤ _
    simp only [List.length_singleton, Nat.one_mul]; omega
theorem build_ex : ∀ (f d : Nat) (l : List Pr) (s : Slb) (B : Int), f + d = 256 → Sep d (dgs l) → K32 l → (∀ x ∈ l, x.2.length ≤ 1024) → l.length ≤ 1000 → GoodS s → (∀ k x c, s.at_ k = some (x, c) → x.hd ≤ B) → 0 ≤ B → B + 2 * f ≤ 1000000 →
    s.used + l.length * (257 - d) ≤ s.room → ∃ t h, Ext s t (one h) ∧ Is t f d l h ∧ t.used ≤ s.used + l.length * (257 - d) ∧ bldC s t d l h := by
  intro f
  induction f with
  | zero =>
    intro d l s B hfd hs hK hv hl G hB hB0 hB9 hrm
    exact bld_small (B := B) (by have := hs.deep (by omega); rwa [dgs_len] at this) hK hv G hrm (by omega)
  | succ f ih =>
    intro d l s B hfd hs hK hv hl G hB hB0 hB9 hrm
    by_cases h2 : l.length < 2
    · exact bld_small (B := B) h2 hK hv G hrm (by omega)
    have hsum := halfP_sum d l
    have e3 : 257 - d = (257 - (d + 1)) + 1 := by omega
    have hmul : l.length * (257 - d) = (halfP false d l).length * (257 - (d + 1)) + (halfP true d l).length * (257 - (d + 1)) + l.length := by
      rw [e3, Nat.mul_add, Nat.mul_one, ← Nat.add_mul, hsum]
    obtain ⟨s1, a, E1, I1, u1, V1⟩ := ih (d + 1) (halfP false d l) s B (by omega) (halfP_sep hs false) (fun x hx => hK x (halfP_bit x hx).2) (fun x hx => hv x (halfP_bit x hx).2) (by omega) G hB hB0 (by omega) (by omega)
    have G1 := E1.good
    have hB1 := E1.hd hB (fun k => (one_nn a k).2) hB0
    obtain ⟨s2, b, E2, I2, u2, V2⟩ := ih (d + 1) (halfP true d l) s1 (B + 1) (by omega) (halfP_sep hs true) (fun x hx => hK x (halfP_bit x hx).2) (fun x hx => hv x (halfP_bit x hx).2) (by omega) G1 hB1 (by omega) (by omega) (by rw [E1.room]; omega)
    have G2 := E2.good
    have hB2 := E2.hd hB1 (fun k => (one_nn b k).2) (by omega)
    have hrm2 : s2.room = s.room := E2.room.trans E1.room
    have hlen2 := G2.len
    have hroom := G.d.wf.room.2
    obtain ⟨t, E3, I3, tl, _, VI⟩ := join_ex G2 (fun k x c h => by have := hB2 k x c h; omega) hfd hs (by omega) (by omega) (I1.mono E2.sub) I2 (fun e => by
      obtain ⟨y, c', hy⟩ := I1.live e
      have h1 := E1.held G hy e
      obtain ⟨c2, h3⟩ := E2.old a y c' hy
      rw [(Slb.get_at h3).1]
      have := (one_nn b a).1
      show 1 ≤ y.hd + one b a; omega) (fun e => by
      obtain ⟨y, c', hy⟩ := I2.live e
      rw [(Slb.get_at hy).1]; exact E2.held G1 hy e) (by rw [hrm2]; omega) (by omega)
    exact ⟨t, _, ((E1.trans E2).trans E3).congr fun k => by omega, I3, by rw [E3.good.len, tl]; omega, bld_join s s1 s2 t d (by omega) l hK (by omega) (by omega) a b V1 V2 _ VI⟩
def mapW (l : List Pr) : List Wr := ((l.take 10).filter fun p => decide (p.2.length ≤ 1024)).map pwW
def mapF (l : List Pr) : List Pr := liveW (ovZ [] (mapW l))
theorem mapF_facts (l : List Pr) (hK : K32 l) : K32 (mapF l) ∧ Ris (mapF l) ∧ (mapF l).length ≤ 10 ∧ ∀ x ∈ mapF l, x.2.length ≤ 1024 := by
  have hW : K32W (mapW l) := fun w hw => by
    obtain ⟨p, hp, rfl⟩ := List.mem_map.1 hw
    exact hK p (List.mem_of_mem_take (List.mem_filter.1 hp).1)
  have hv : ∀ w ∈ mapW l, w.2.2.length ≤ 1024 := fun w hw => by
    obtain ⟨p, hp, rfl⟩ := List.mem_map.1 hw
    exact of_decide_eq_true (List.mem_filter.1 hp).2
  have hl : (mapW l).length ≤ 10 := by
    unfold mapW
    rw [List.length_map]
    exact Nat.le_trans (List.length_filter_le _ _) (by rw [List.length_take]; omega)
  unfold mapF ovZ
  rw [List.map_nil, List.nil_append]
  refine ⟨fun z hz => ?_, liveW_ris (srtW_ris _ (lstW_k32 _ hW) (lstW_dis _)), ?_, fun z hz => ?_⟩
  · obtain ⟨w, h1, h2, _⟩ := liveW_mem _ z hz
    rw [← h2]; exact ((lstW_k32 _ hW).perm (srtW_perm _)) w h1
  · have h1 := liveW_len (srtW (lstW (mapW l)))
    have h2 := lstW_len (mapW l)
    have h3 : (srtW (lstW (mapW l))).length = (lstW (mapW l)).length := (srtW_perm _).length_eq
    omega
  obtain ⟨w, h1, _, h2⟩ := liveW_mem _ z hz
  rw [← h2]; exact lstW_val _ hv w ((srtW_perm _).mem_iff.1 h1)
theorem mapW_step (l : List Pr) (k : Nat) (h : k < l.length) : ((l.take (k + 1)).filter fun p => decide (p.2.length ≤ 1024)) = ((l.take k).filter fun p => decide (p.2.length ≤ 1024)) ++ (if l[k].2.length ≤ 1024 then [l[k]] else []) := by
  rw [List.take_succ_eq_append_getElem h, List.filter_append]
  congr 1
  simp [List.filter_cons]
set_option maxRecDepth 20000 in
set_option maxHeartbeats 4000000 in
theorem map11_v (l : List Pr) (hK : K32 l) (hl : l.length ≤ 34359730000) : VC Tryz.prog 18 [.sl prT (l.map prA) none] [] (.sl prT ((mapF l).map prA) none) := by
  have hml : (l.map prA).length = l.length := List.length_map ..
  have hgl := prs_get2 l
  have hW : K32W (mapW l) := fun w hw => by
    obtain ⟨p, hp, rfl⟩ := List.mem_map.1 hw
    exact hK p (List.mem_of_mem_take (List.mem_filter.1 hp).1)
  have hv : ∀ w ∈ mapW l, w.2.2.length ≤ 34359730000 := fun w hw => by
    obtain ⟨p, hp, rfl⟩ := List.mem_map.1 hw
    exact Nat.le_trans (of_decide_eq_true (List.mem_filter.1 hp).2) (by decide)
  have hlw : (mapW l).length ≤ 100000 := by
    unfold mapW
    rw [List.length_map]
    exact Nat.le_trans (List.length_filter_le _ _) (by rw [List.length_take]; omega)
  have cU := rover_v [] (mapW l) (fun x hx => by cases hx) hW (fun x hx => by cases hx) hv (by simp) hlw
  unfold mapF
  rw [List.map_nil] at cU
  generalize (liveW (ovZ [] (mapW l))).map prA = res at *
  generalize l.map prA = es at *
  refine mE Tryz.func18 ?_; intro N w0 a w hN hR H
  have hX := @hml
  refine mW ?_; clear H; intro a w H
  replace H := v_nilE tab_ok H 3 60 wrT (j := ti60) rfl (by decide) rfl
  simp only [nilT, reduceIte, Nat.reduceEqDiff, List.length_nil, List.nil_append] at H
  refine v_loop (fun k : Nat => ⟨[(4, none, .v (.int .i64 (k : Int))), (3, none, .sl wrT ((((l.take k).filter fun p => decide (p.2.length ≤ 1024)).map pwW).map wrA) (some 0)), (2, none, .v (.slice none 0 0)), (0, none, .sl prT es none)],
    [], [], [(60, ((l.take k).filter fun p => decide (p.2.length ≤ 1024)).length)]⟩) (fun k => k ≤ l.length ∧ k ≤ 10) (fun k => l.length - k) 0 ⟨Nat.zero_le _, Nat.zero_le _⟩
    (H.to 0 1 ⟨hN, Nat.le_trans hR (Nat.zero_le _)⟩ ⟨rfl, rfl, rfl, rfl, trivial⟩ rfl rfl rfl rfl rfl) ?_
  clear H
  rintro k a w ⟨hk1, hk10⟩ H
  have hfl : ((l.take k).filter fun p => decide (p.2.length ≤ 1024)).length ≤ 10 := Nat.le_trans (List.length_filter_le _ _) (by rw [List.length_take]; omega)
  have hcl : ((((l.take k).filter fun p => decide (p.2.length ≤ 1024)).map pwW).map wrA).length = ((l.take k).filter fun p => decide (p.2.length ≤ 1024)).length := by simp
  have hfin : (¬ k < l.length ∨ k = 10) → ((l.take k).filter fun p => decide (p.2.length ≤ 1024)).map pwW = mapW l := fun h => by
    unfold mapW
    rcases h with h | h
    · rw [List.take_of_length_le (by omega), List.take_of_length_le (by omega)]
    rw [h]
  have hstp := mapW_step l k
  generalize hFe : ((l.take k).filter fun p => decide (p.2.length ≤ 1024)) = F at *
  clear hX; have hX := And.intro @hml (@hcl)
  refine mW ?_; clear H; intro a w H
  refine mC H (fun hb => ?_) (fun hb => ?_)
  · have hkk : k < l.length ∧ k < 10 := by
      cases hd : decide ((k : Int) < (l.length : Int))
      · rw [hd] at hb; cases hb
      rw [hd] at hb
      have : decide ((k : Int) < 10) = true := hb
      rw [decide_eq_true_eq] at this hd; omega
    clear hb
    obtain ⟨hlt, hlt10⟩ := hkk
    have hg := hgl k hlt
    have hz := hK _ (List.getElem_mem hlt)
    have hstp := hstp hlt
    generalize l[k] = q at *
    obtain ⟨kq, vq⟩ := q
    dsimp only at hg hz hstp
    refine mS ?_
    clear hX; have hX := And.intro @hml (And.intro @hcl (And.intro @hg (@hz)))
    (try refine wp_region_lit ?_); refine mN 3 hN H ?_; clear H; intro a w H
    refine mW ?_; clear H; intro a w H
    refine mC H (fun hb => ?_) (fun hb => ?_)
    · have hle : vq.length ≤ 1024 := by
        have : decide ((vq.length : Int) ≤ 1024) = true := hb
        rw [decide_eq_true_eq] at this; omega
      clear hb
      rw [if_pos hle] at hstp
      have e2 : ((F ++ [(kq, vq)]).map pwW).map wrA = (F.map pwW).map wrA ++ [.st [.ba kq, .v (.bool false), .bs vq none]] := by rw [List.map_append, List.map_append]; rfl
      rw [← hstp] at e2
      have l1 : ((l.take (k + 1)).filter fun p => decide (p.2.length ≤ 1024)).length = F.length + 1 := by rw [hstp, List.length_append]; rfl
      generalize (F.map pwW).map wrA = cs at *
      refine mS ?_; refine mD 0 [12, 13] [0] H ?_; clear H; intro gS H
      refine mTN 4 hN H ?_; clear H; intro a w H; simp only [drL]
      refine mTN 4 hN H ?_; clear H; intro a w H; simp only [drL]
      refine mTN 1 hN H ?_; clear H; intro a w H; simp only [drL]
      refine mTN 2 hN H ?_; clear H; intro a w H; simp only [drL]
      refine mTN 1 hN H ?_; clear H; intro a w H; simp only [drL]
      refine mT ?_; clear H; intro a w H
      refine v_drawNil H ?_; clear H; intro H
      refine mW ?_; clear H; intro a w H
      rw [← e2, ← l1, show (k : Int) + 1 = ((k + 1 : Nat) : Int) by omega] at H
      exact ⟨k + 1, ⟨hlt, hlt10⟩, by omega, H.to 0 1 ⟨hN, Nat.le_trans hR (Nat.zero_le _)⟩ ⟨rfl, rfl, rfl, rfl, trivial⟩ rfl rfl rfl rfl rfl⟩
    have hle : ¬ vq.length ≤ 1024 := by
      have : decide ((vq.length : Int) ≤ 1024) = false := hb
      rw [decide_eq_false_iff_not] at this; omega
    clear hb
    rw [if_neg hle, List.append_nil] at hstp
    clear hX; have hX := @hml
    refine mW ?_; clear H; intro a w H
    rw [show (k : Int) + 1 = ((k + 1 : Nat) : Int) by omega] at H
    exact ⟨k + 1, ⟨hlt, hlt10⟩, by omega, H.to 0 1 ⟨hN, Nat.le_trans hR (Nat.zero_le _)⟩ ⟨rfl, by rw [hstp]; rfl, rfl, rfl, trivial⟩ rfl (by rw [hstp]; rfl) rfl rfl rfl⟩
  have hkk : ¬ k < l.length ∨ k = 10 := by
    cases hd : decide ((k : Int) < (l.length : Int))
    · rw [decide_eq_false_iff_not] at hd; exact .inl (by omega)
    rw [hd] at hb
    have : decide ((k : Int) < 10) = false := hb
    rw [decide_eq_false_iff_not] at this; exact .inr (by omega)
  clear hb
  rw [hfin hkk] at H
  refine mS ?_
  clear hX; have hX := @hml
  (try refine wp_region_lit ?_); refine mN 1 hN H ?_; clear H; intro a w H
  replace H := v_sub H 36 (x := .sl wrT ((mapW l).map wrA) (some 0)) (y := .sl wrT ((mapW l).map wrA) none) ⟨rfl, rfl⟩ rfl (fun az h => by cases h) rfl
  simp only [nilT, reduceIte, Nat.reduceEqDiff] at H
  refine mCall [] [] (cU) H ?_; clear H; intro a w H; try refine wpList_nil ?_
  refine mW ?_; clear H; intro a w H
  refine wp_ret ?_; exact mEnd [] [] [.tmp 2] [_] hN hR H
set_option maxRecDepth 20000 in
set_option maxHeartbeats 4000000 in
theorem apply_v (s t u : Slb) (hs : s.wf) (hu : s.used ≤ s.room) (root h : Int) (hr : s.rootE root = 0) (hh : root ≠ 0 → (s.get_ root).hd ≠ 0) (ws : List Wr) (hk : K32W ws) (hl : ws.length ≤ 1000) (hv : ∀ w ∈ ws, w.2.2.length ≤ 34359730000) (he : wrongE s ws = 0)
    (hb2 : builtC s t root h 0 (srtW (lstW ws))) (n : Int) (q1 : root = 0 → u = t) (hd : root ≠ 0 → VX Tryz.prog 61 t.sx [] [] [.ptr 0 [], .v (.int .i64 root)] u.sx [] [] (.tup [.v (.int .i64 n), errv 0])) :
    VX Tryz.prog 22 s.sx [] [] [.ptr 0 [], .v (.int .i64 root), .sl wrT (ws.map wrA) none] u.sx [] [] (.tup [.v (.int .i64 h), errv 0]) := by
  have c1 := wrong_v s hs hu root hr hh ws hk (by omega) hv
  rw [he] at c1
  have c2 := last_b ws hk (by omega)
  have hsl : (srtW (lstW ws)).length = (lstW ws).length := (srtW_perm _).length_eq
  have hml : ((srtW (lstW ws)).map wrA).length = (lstW ws).length := by rw [List.length_map, hsl]
  unfold builtC at hb2
  rw [show ((0 : Nat) : Int) = 0 from rfl] at hb2
  have htk : ((srtW (lstW ws)).map wrA).take (lstW ws).length = (srtW (lstW ws)).map wrA := List.take_of_length_le (Nat.le_of_eq hml)
  generalize (srtW (lstW ws)).map wrA = ss at *
  generalize (lstW ws).length = nl at *
  simp only [Slb.sx] at c1 hb2 hd ⊢
  generalize ws.map wrA = ls at *
  generalize hes : s.sl.map slA = es at *
  generalize hfs : s.fs.map inA = fs at *
  refine mE Tryz.func22 ?_; intro N w0 a w hN hR H
  refine mW ?_; clear H; intro a w H
  refine mCall [0, 1, 2, 3] [] (c1) H ?_; clear H; intro a w H; try refine wpList_nil ?_
  refine mW ?_; clear H; intro a w H
  refine mC H (fun hb => ?_) (fun hb => ?_)
  · exact absurd hb (by decide)
  clear hb
  refine mW ?_; clear H; intro a w H
  refine mCall [] [] (c2) H ?_; clear H; intro a w H; try refine wpList_nil ?_
  replace H := v_frz H 20 4 (Nat.le_trans hN (Nat.le_of_ble_eq_true rfl)) rfl (Nat.le_of_eq hml.symm) rfl
  simp only [nilT, htk, Nat.reduceEqDiff, reduceIte] at H
  refine mCall [0, 1, 2, 3] [] (hb2) H ?_; clear H; intro a w H; try refine wpList_nil ?_
  replace H := mK [0, 1, 6, 7, 21] 4 0 hN hR H
  replace H := v_fz H
  simp only [List.length_cons, List.length_nil, Nat.reduceAdd, List.filter_cons, List.filter_nil, Nat.reduceLT, Nat.lt_irrefl, decide_true, decide_false, if_true, if_false, Bool.false_eq_true] at H
  refine mW ?_; clear H; intro a w H
  refine mC H (fun hb => ?_) (fun hb => ?_)
  · have r0 : root ≠ 0 := by simpa using hb
    clear hb
    have hd := hd r0
    refine mW ?_; clear H; intro a w H
    refine mCall [0, 1, 2, 3] [] (hd) H ?_; clear H; intro a w H; try refine wpList_nil ?_
    refine mW ?_; clear H; intro a w H
    refine wp_ret ?_; exact mEnd [0, 1, 2, 3] [] [.tmp 6, .tmp 7] [_, _] hN hR H
  have r0 : root = 0 := by simpa using hb
  clear hb
  rw [q1 r0]
  refine mW ?_; clear H; intro a w H
  refine wp_ret ?_; exact mEnd [0, 1, 2, 3] [] [.tmp 6, .tmp 7] [_, _] hN hR H
set_option maxRecDepth 20000 in
set_option maxHeartbeats 4000000 in
theorem applyE_v (s : Slb) (hs : s.wf) (hu : s.used ≤ s.room) (root : Int) (hr : s.rootE root = 0) (hh : root ≠ 0 → (s.get_ root).hd ≠ 0) (ws : List Wr) (hk : K32W ws) (hl : ws.length ≤ 1000) (hv : ∀ w ∈ ws, w.2.2.length ≤ 34359730000) (he : wrongE s ws ≠ 0) :
    VX Tryz.prog 22 s.sx [] [] [.ptr 0 [], .v (.int .i64 root), .sl wrT (ws.map wrA) none] s.sx [] [] (.tup [.v (.int .i64 0), errv (wrongE s ws)]) := by
  have c1 := wrong_v s hs hu root hr hh ws hk (by omega) hv
  generalize wrongE s ws = e at *
  have de : decide (e = 0) = false := decide_eq_false he
  simp only [Slb.sx] at c1 ⊢
  generalize ws.map wrA = ls at *
  generalize hes : s.sl.map slA = es at *
  generalize hfs : s.fs.map inA = fs at *
  refine mE Tryz.func22 ?_; intro N w0 a w hN hR H
  have hX := @de
  refine mW ?_; clear H; intro a w H
  refine mCall [0, 1, 2, 3] [] (c1) H ?_; clear H; intro a w H; try refine wpList_nil ?_
  refine mW ?_; clear H; intro a w H
  refine mC H (fun hb => ?_) (fun hb => ?_)
  · clear hb
    refine mW ?_; clear H; intro a w H
    refine wp_ret ?_; exact mEnd [0, 1, 2, 3] [] [.tmp 6, .tmp 7] [_, _] hN hR H
  exact absurd hb (by simp)
def Slb.All (s : Slb) : Prop := ∀ k x c, s.at_ k = some (x, c) → x.val.length ≤ 1024 ∧ (x.k = 2 → ∃ (f d : Nat) (l : List Pr), f + d = 256 ∧ Sep d (dgs l) ∧ Is s f d l k ∧ x.d = (d : Int))
theorem Slb.All.ends {s : Slb} (ha : s.All) (key : List UInt8) (h : Int) (he : s.rootE h = 0) : s.ends key 256 h := by
  unfold Slb.rootE at he
  by_cases h0 : h = 0
  · subst h0
    exact (ways_b (s := s) key 256 0 (l := []) (by simp) rfl).ends
  rw [if_neg h0] at he
  by_cases ho : s.ok_ h = false
  · rw [if_pos ho] at he; cases he
  rw [if_neg ho] at he
  by_cases hk : (s.get_ h).k = 2
  · by_cases hd : (s.get_ h).d ≠ 0
    · rw [if_pos ⟨hk, hd⟩] at he; cases he
    have ho2 : s.ok_ h = true := by simpa using ho
    obtain ⟨⟨x, c⟩, hx⟩ := Option.isSome_iff_exists.1 ho2
    obtain ⟨g1, g2⟩ := Slb.get_at hx
    rw [g1] at hk hd
    obtain ⟨f, d, l, e1, e2, e3, e4⟩ := (ha h x c hx).2 hk
    have hd0 : d = 0 := by
      have : x.d = 0 := by simpa using hd
      omega
    subst hd0
    have : f = 256 := by omega
    subst this
    exact (ways s key 256 0 l h rfl e2 e3).ends
  exact fun e => absurd e hk
def lookP (l : List Pr) (key : List UInt8) : Option (List UInt8) := (l.find? fun x => decide (x.1 = key)).map (·.2)
attribute [local irreducible] wpT
def fewP : List Pr → List Pr → List Pr
  | out, [] => out
  | out, x :: t => if out.length < 12 then fewP (if lookP out x.1 = none ∧ x.2.length ≤ 1024 then out ++ [x] else out) t else out
theorem lookP_none (l : List Pr) (key : List UInt8) : lookP l key = none ↔ ∀ y ∈ l, y.1 ≠ key := by
  unfold lookP
  rw [Option.map_eq_none_iff, List.find?_eq_none]
  exact ⟨fun h y hy e => h y hy (decide_eq_true e), fun h y hy e => h y hy (of_decide_eq_true e)⟩
structure FewI (l F : List Pr) (i : Nat × List Pr) : Prop where
  k : i.1 ≤ l.length
  f : fewP i.2 (l.drop i.1) = F
  n : i.2.length ≤ 12
  s : ∀ x ∈ i.2, x ∈ l
  v : ∀ x ∈ i.2, x.2.length ≤ 1024
  d : Dis i.2
theorem FewI.take {l F out : List Pr} {k : Nat} (h : FewI l F (k, out)) (hk : k < l.length) (hn : out.length < 12) (hx : lookP out l[k].1 = none ∧ l[k].2.length ≤ 1024) : FewI l F (k + 1, out ++ [l[k]]) := by
  obtain ⟨h1, h2, h3, h4, h5, h6⟩ := h
  dsimp only at h2 h3 h4 h5 h6
  rw [List.drop_eq_getElem_cons hk, fewP, if_pos hn, if_pos hx] at h2
  refine ⟨hk, h2, by dsimp only; rw [List.length_append]; simp; omega, fun x hx2 => ?_, fun x hx2 => ?_, ?_⟩
  · rcases List.mem_append.1 hx2 with h | h
    · exact h4 x h
    rw [List.mem_singleton.1 h]; exact List.getElem_mem hk
  · rcases List.mem_append.1 hx2 with h | h
    · exact h5 x h
    rw [List.mem_singleton.1 h]; exact hx.2
  refine List.pairwise_append.2 ⟨h6, List.pairwise_singleton _ _, fun x hx2 y hy => ?_⟩
  rw [List.mem_singleton.1 hy]; exact (lookP_none _ _).1 hx.1 x hx2
end Go.Proofs.YtgffimanhmpohaaGreat
namespace Go.Proofs.YtgffimanhmpohaaGreat
open Go Go.RowKit
theorem Pf.chk_ok {p : Pf} (h : p.chk = 0) : p.s.length ≤ 256 ∧ p.e.ok ∧ p.e.k ≠ 2 := by
  unfold Pf.chk at h
  split at h
  · cases h
  split at h
  · rename_i h1 h2; exact ⟨by omega, h2⟩
  cases h
theorem ntext_len {n : Nd} (hw : n.wf) (h2 : n.k ≠ 2) : n.text.length = 1 ∨ n.text.length = 65 := by
  obtain ⟨h1, h3, _, _⟩ := hw
  unfold Nd.text
  split
  · right; simp; omega
  left; first | rfl | (rw [if_neg h2]; rfl)
theorem plen (p : Pf) (hw : p.wf) (h : p.chk = 0) : 3 ≤ p.text.length ∧ p.text.length ≤ 8291 := by
  obtain ⟨h1, h2, h3⟩ := p.chk_ok h
  have hl := ntext_len hw.e h3
  have hbl : p.bits.length = (p.s.length + 7) / 8 := bitsB_len _ _
  have hh := hashes_len p.s hw.s
  simp only [Pf.text, List.length_append, List.length_cons, List.length_nil]
  omega
theorem rootE_ok (l : List Pr) (hk : K32 l) (he : errP l = 0) : rootE l 0 = (rootA 256 0 (dgs l), 0) := by
  obtain ⟨hle, hdis, hvals⟩ := errP_ok he
  have hall : ∀ x ∈ l, ∀ y ∈ l, agree 0 x.1 y.1 := fun x _ y _ t ht => absurd ht (Nat.not_lt_zero t)
  unfold rootE
  rw [if_neg (by omega), if_neg (show ¬ errP l ≠ 0 by omega), if_neg (fun h => by omega)]
  show (rootA 256 0 (dgs (srt l)), 0) = _
  rw [root_srt l hk hdis 256 0 (by omega) hall]
theorem chkP_iff : ∀ (ks : List (List UInt8)) (l : List Pr), chkP ks l = 0 ↔ Dis l ∧ (∀ x ∈ l, x.1 ∉ ks) ∧ ∀ x ∈ l, x.2.length ≤ 1024
  | _, [] => ⟨fun _ => ⟨List.Pairwise.nil, fun x hx => (by cases hx), fun x hx => (by cases hx)⟩, fun _ => rfl⟩
  | ks, p :: l => by
    have ih := chkP_iff (ks ++ [p.1]) l
    unfold chkP
    constructor
    · intro h
      split at h
      · cases h
      rename_i h1
      split at h
      · cases h
      rename_i h2
      obtain ⟨a1, a2, a3⟩ := ih.1 h
      refine ⟨List.pairwise_cons.2 ⟨fun y hy e => a2 y hy (by simp [e]), a1⟩, fun x hx => ?_, fun x hx => ?_⟩
      · rcases List.mem_cons.1 hx with rfl | hx
        · exact h2
        exact fun hm => a2 x hx (List.mem_append_left _ hm)
      rcases List.mem_cons.1 hx with rfl | hx
      · omega
      exact a3 x hx
    rintro ⟨a1, a2, a3⟩
    obtain ⟨b1, b2⟩ := List.pairwise_cons.1 a1
    have c1 := a2 p List.mem_cons_self
    have c2 := a3 p List.mem_cons_self
    rw [if_neg (by omega), if_neg c1]
    refine ih.2 ⟨b2, fun x hx hm => ?_, fun x hx => a3 x (List.mem_cons_of_mem _ hx)⟩
    rcases List.mem_append.1 hm with hm | hm
    · exact a2 x (List.mem_cons_of_mem _ hx) hm
    exact b1 x hx (List.mem_singleton.1 hm).symm
theorem errP_iff (l : List Pr) : errP l = 0 ↔ l.length ≤ 4096 ∧ Dis l ∧ ∀ x ∈ l, x.2.length ≤ 1024 := by
  unfold errP
  split
  · exact ⟨fun h => (by cases h), fun h => (by omega)⟩
  rw [chkP_iff]
  exact ⟨fun h => ⟨by omega, h.1, h.2.2⟩, fun h => ⟨h.2.1, fun x _ hm => (by cases hm), h.2.2⟩⟩
theorem Is.root {s : Slb} {l : List Pr} {h : Int} (hi : Is s 256 0 l h) (hs : Sep 0 (dgs l)) : s.rootE h = 0 := by
  unfold Slb.rootE
  by_cases hne : l = []
  · subst hne
    have e : h = 0 := (Is.small (by simp)).1 hi
    rw [if_pos e]
  obtain ⟨x, c, h1, h2⟩ := hi.info hs rfl hne
  obtain ⟨g1, g2⟩ := Slb.get_at h1
  have h0 : h ≠ 0 := by have := (Slb.at_lt h1).1; omega
  rw [if_neg h0, if_neg (by rw [g2]; decide), g1, if_neg]
  rintro ⟨e1, e2⟩
  by_cases h3 : 2 ≤ l.length
  · exact e2 (h2.big h3).2
  rw [h2.one (by omega)] at e1; cases e1
attribute [local irreducible] wpT
end Go.Proofs.YtgffimanhmpohaaGreat
namespace Go.Proofs.YtgffimanhmpohaaGreat
open Go Go.RowKit
theorem mem_finG : ∀ (l0 : List Pr) (ws : List Wr) (x : Wr), Dis l0 → (x ∈ finW (l0.map pwW ++ ws) ↔ x ∈ finW ws ∨ ∃ p ∈ l0, p.1 ∉ keyW ws ∧ x = pwW p)
  | [], ws, x, _ => by rw [List.map_nil, List.nil_append]; simp
  | p :: l, ws, x, h0 => by
    obtain ⟨h1, h2⟩ := List.pairwise_cons.1 h0
    have ih := mem_finG l ws x h2
    have e1 : finW ((p :: l).map pwW ++ ws) = if (pwW p).1 ∈ keyW (l.map pwW ++ ws) then finW (l.map pwW ++ ws) else nzW (pwW p) :: finW (l.map pwW ++ ws) := rfl
    have e2 : (pwW p).1 ∈ keyW (l.map pwW ++ ws) ↔ p.1 ∈ keyW ws := by
      unfold keyW
      rw [List.map_append, List.mem_append]
      constructor
      · rintro (hm | hm)
        · exfalso
          obtain ⟨y, hy, e⟩ := List.mem_map.1 hm
          obtain ⟨q, hq, rfl⟩ := List.mem_map.1 hy
          exact h1 q hq e.symm
        exact hm
      exact fun hm => .inr hm
    rw [e1]
    by_cases hk : p.1 ∈ keyW ws
    · rw [if_pos (e2.2 hk), ih]
      constructor
      · rintro (hx | ⟨q, hq, h3⟩)
        · exact .inl hx
        exact .inr ⟨q, List.mem_cons_of_mem _ hq, h3⟩
      rintro (hx | ⟨q, hq, h3, h4⟩)
      · exact .inl hx
      rcases List.mem_cons.1 hq with rfl | hq
      · exact absurd hk h3
      exact .inr ⟨q, hq, h3, h4⟩
    rw [if_neg (fun hm => hk (e2.1 hm)), List.mem_cons, ih]
    have e3 : nzW (pwW p) = pwW p := rfl
    rw [e3]
    constructor
    · rintro (rfl | hx | ⟨q, hq, h3⟩)
      · exact .inr ⟨p, List.mem_cons_self, hk, rfl⟩
      · exact .inl hx
      exact .inr ⟨q, List.mem_cons_of_mem _ hq, h3⟩
    rintro (hx | ⟨q, hq, h3, h4⟩)
    · exact .inr (.inl hx)
    rcases List.mem_cons.1 hq with rfl | hq
    · exact .inl h4
    exact .inr (.inr ⟨q, hq, h3, h4⟩)
theorem finW_keys : ∀ (l : List Wr) (k : List UInt8), k ∈ keyW (finW l) ↔ k ∈ keyW l
  | [], k => Iff.rfl
  | w :: l, k => by
    have ih := finW_keys l k
    have e2 : keyW (w :: l) = w.1 :: keyW l := rfl
    rw [e2]
    unfold finW
    split
    · rename_i hm
      rw [ih]
      constructor
      · exact fun h => List.mem_cons_of_mem _ h
      intro h
      rcases List.mem_cons.1 h with rfl | h
      · exact hm
      exact h
    have e3 : keyW (nzW w :: finW l) = w.1 :: keyW (finW l) := rfl
    rw [e3, List.mem_cons, List.mem_cons, ih]
theorem finW_nz : ∀ (l : List Wr) (x : Wr), x ∈ finW l → ∃ w ∈ l, x = nzW w
  | [], x, h => by cases h
  | w :: l, x, h => by
    unfold finW at h
    split at h
    · obtain ⟨y, hy, e⟩ := finW_nz l x h; exact ⟨y, List.mem_cons_of_mem _ hy, e⟩
    rcases List.mem_cons.1 h with rfl | h
    · exact ⟨w, List.mem_cons_self, rfl⟩
    obtain ⟨y, hy, e⟩ := finW_nz l x h; exact ⟨y, List.mem_cons_of_mem _ hy, e⟩
theorem order_is (F : List Pr) (ws : List Wr) (hK : K32 F) (hW : K32W ws) (h0 : Dis F) : IsOv F (srtW (lstW ws)) (liveW (ovZ F ws)) := by
  have hk2 : K32W (F.map pwW ++ ws) := fun x hx => by
    rcases List.mem_append.1 hx with hx | hx
    · obtain ⟨p, hp1, rfl⟩ := List.mem_map.1 hx
      exact hK p hp1
    exact hW x hx
  have hm : ∀ x, x ∈ ovZ F ws ↔ x ∈ finW (F.map pwW ++ ws) := fun x => ((srtW_perm _).trans (lstW_fin _)).mem_iff
  have hO : ∀ x, x ∈ srtW (lstW ws) ↔ x ∈ finW ws := fun x => ((srtW_perm _).trans (lstW_fin _)).mem_iff
  have hOk : ∀ k, k ∈ keyW (srtW (lstW ws)) ↔ k ∈ keyW ws := fun k => by
    rw [← finW_keys ws k]
    unfold keyW
    constructor
    · intro h
      obtain ⟨y, hy, e⟩ := List.mem_map.1 h
      exact List.mem_map.2 ⟨y, (hO y).1 hy, e⟩
    intro h
    obtain ⟨y, hy, e⟩ := List.mem_map.1 h
    exact List.mem_map.2 ⟨y, (hO y).2 hy, e⟩
  refine ⟨liveW_ris (srtW_ris _ (lstW_k32 _ hk2) (lstW_dis _)), fun p => ?_⟩
  rw [liveW_iff]
  constructor
  · rintro ⟨w, hw, h1, h2, h3⟩
    rw [hm, mem_finG F ws w h0] at hw
    rcases hw with hw | ⟨q, hq, h4, rfl⟩
    · exact .inl ⟨w, (hO w).2 hw, h2, h1, h3⟩
    have e : q = p := Prod.ext h2 h3
    subst e
    exact .inr ⟨hq, fun h => h4 ((hOk _).1 h)⟩
  rintro (⟨w, hw, h1, h2, h3⟩ | ⟨h1, h2⟩)
  · exact ⟨w, (hm _).2 ((mem_finG F ws _ h0).2 (.inl ((hO w).1 hw))), h2, h1, h3⟩
  exact ⟨pwW p, (hm _).2 ((mem_finG F ws _ h0).2 (.inr ⟨p, h1, fun h => h2 ((hOk _).2 h), rfl⟩)), rfl, rfl, rfl⟩
theorem order_val (ws : List Wr) (h : ∀ w ∈ ws, tooL w = false) : ∀ w ∈ srtW (lstW ws), w.2.2.length ≤ 1024 := fun w hw => by
  obtain ⟨y, hy, rfl⟩ := finW_nz ws w (((srtW_perm _).trans (lstW_fin _)).mem_iff.1 hw)
  have := h y hy
  unfold tooL at this
  show (if y.2.1 then [] else y.2.2).length ≤ 1024
  cases hg : y.2.1
  · rw [hg] at this
    have : decide (1024 < y.2.2.length) = false := by simpa using this
    rw [decide_eq_false_iff_not] at this
    simp; omega
  simp
theorem live_one {u : Slb} {M : List Pr} {now : Int} (hD : DInv u) (hC : CInv u fun _ => 0) (hI : Is u 256 0 M now) (hs : Sep 0 (dgs M)) (hh : ∀ k x c, u.at_ k = some (x, c) → 0 < x.hd → k = now ∧ now ≠ 0) : u.used = (treeN 256 0 M).length := by
  have hlv : u.live = (hndL u 256 0 M now).length := by
    refine live_len _ (hndL_nodup 256 0 M now rfl hs hI) fun k => ⟨fun ⟨x, c, hk⟩ => ?_, fun hk => ?_⟩
    · obtain ⟨a, y, c', ha, hy, hr⟩ := hC.live hD.wf x.lev k x c hk (Nat.le_refl _)
      obtain ⟨rfl, h0⟩ := hh a y c' ha hy
      exact hndL_reach rfl hs hI h0 hr
    obtain ⟨x, c, h1, _⟩ := hndL_info 256 0 M now rfl hs hI k hk
    exact ⟨x, c, h1⟩
  rw [hD.used, hlv, hndL_len]
theorem live_two {u : Slb} {F M : List Pr} {root now : Int} (hD : DInv u) (hC : CInv u fun _ => 0) (hI : Is u 256 0 M now) (hs : Sep 0 (dgs M)) (hI0 : Is u 256 0 F root) (hs0 : Sep 0 (dgs F)) (hF : Ris F) (hM : Ris M) (hS : Share u F M root now)
    (hh : ∀ k x c, u.at_ k = some (x, c) → 0 < x.hd → (k = now ∧ now ≠ 0) ∨ (k = root ∧ root ≠ 0)) : u.used = (treeN 256 0 F).length + freshN (treeN 256 0 F) (treeN 256 0 M) := by
  have hn := hndL_nodup 256 0 M now rfl hs hI
  have hn0 := hndL_nodup 256 0 F root rfl hs0 hI0
  have hL : (hndL u 256 0 F root ++ (hndL u 256 0 M now).filter fun q => !(hndL u 256 0 F root).contains q).Nodup := by
    rw [List.nodup_append]
    refine ⟨hn0, List.Pairwise.filter _ hn, fun a ha b hb e => ?_⟩
    subst e
    have := (List.mem_filter.1 hb).2
    rw [List.contains_iff_mem.2 ha] at this; cases this
  have hlv : u.live = (hndL u 256 0 F root ++ (hndL u 256 0 M now).filter fun q => !(hndL u 256 0 F root).contains q).length := by
    refine live_len _ hL fun k => ⟨fun ⟨x, c, hk⟩ => ?_, fun hk => ?_⟩
    · obtain ⟨a, y, c', ha, hy, hr⟩ := hC.live hD.wf x.lev k x c hk (Nat.le_refl _)
      rw [List.mem_append, List.mem_filter]
      by_cases hm : k ∈ hndL u 256 0 F root
      · exact .inl hm
      rcases hh a y c' ha hy with ⟨rfl, h0⟩ | ⟨rfl, h0⟩
      · refine .inr ⟨hndL_reach rfl hs hI h0 hr, ?_⟩
        cases hc : (hndL u 256 0 F root).contains k
        · rfl
        exact absurd (List.contains_iff_mem.1 hc) hm
      exact .inl (hndL_reach rfl hs0 hI0 h0 hr)
    rcases List.mem_append.1 hk with hk | hk
    · obtain ⟨x, c, h1, _⟩ := hndL_info 256 0 F root rfl hs0 hI0 k hk
      exact ⟨x, c, h1⟩
    obtain ⟨x, c, h1, _⟩ := hndL_info 256 0 M now rfl hs hI k (List.mem_filter.1 hk).1
    exact ⟨x, c, h1⟩
  rw [hD.used, hlv, List.length_append, hndL_len, ← List.countP_eq_length_filter, fresh_count hF hM hs0 hs hI0 hI hS]
structure ApOut (s u : Slb) (η : Int) (F M : List Pr) (root now : Int) : Prop where
  d : DInv u
  is : Is u 256 0 M now
  held : now ≠ 0 → 1 ≤ (u.get_ now).hd
  one : η = 1 → u.used = (treeN 256 0 M).length
  two : η = 2 → u.used = s.used + freshN (treeN 256 0 F) (treeN 256 0 M) ∧ Is u 256 0 F root
theorem applies_ex {s : Slb} (G : GoodS s) {root η : Int} (hη : η = 1 ∨ η = 2) {F : List Pr} (hh : ∀ k x c, s.at_ k = some (x, c) → x.hd = η * one root k) (hI : Is s 256 0 F root) (hF : Ris F) (hK : K32 F) (hv : ∀ x ∈ F, x.2.length ≤ 1024) (hn : F.length ≤ 10)
    {ws : List Wr} (hW : K32W ws) (hl : ws.length ≤ 70) (he : wrongE s ws = 0) :
    ∃ t u now n, builtC s t root now 0 (srtW (lstW ws)) ∧ (root = 0 → u = t) ∧ (root ≠ 0 → VX Tryz.prog 61 t.sx [] [] [.ptr 0 [], .v (.int .i64 root)] u.sx [] [] (.tup [.v (.int .i64 n), errv 0])) ∧ ApOut s u η F (liveW (ovZ F ws)) root now := by
  have hs0 : Sep 0 (dgs F) := sep_of F hK hF.dis 0 (fun x _ y _ t ht => absurd ht (Nat.not_lt_zero t))
  have ho := order_is F ws hK hW hF.dis
  have hlong : longW ws = false ∧ s.used + 258 * (lstW ws).length ≤ s.room := by
    unfold wrongE at he
    cases hlw : longW ws
    · rw [hlw, if_neg (by decide)] at he
      by_cases h : s.used + 258 * (lstW ws).length ≤ s.room
      · exact ⟨rfl, h⟩
      rw [if_neg h] at he; cases he
    rw [hlw, if_pos rfl] at he; cases he
  have htoo : ∀ w ∈ ws, tooL w = false := fun w hw => by
    have := hlong.1
    unfold longW at this
    rw [Bool.or_eq_false_iff] at this
    have h2 := List.any_eq_false.1 this.2 w hw
    cases h3 : tooL w
    · rfl
    exact absurd h3 h2
  have hOl : (srtW (lstW ws)).length = (lstW ws).length := (srtW_perm _).length_eq
  have hOl2 := lstW_len ws
  have hOk : K32W (srtW (lstW ws)) := (lstW_k32 _ hW).perm (srtW_perm _)
  have P : BPre 0 F (srtW (lstW ws)) := ⟨hs0, hF, hK, hv, by omega, srtW_ris _ (lstW_k32 _ hW) (lstW_dis _), hOk, order_val ws htoo, by omega, fun _ _ _ _ t ht => absurd ht (Nat.not_lt_zero t), fun _ _ _ _ t ht => absurd ht (Nat.not_lt_zero t)⟩
  have FM := P.ov ho
  have hB : ∀ k x c, s.at_ k = some (x, c) → x.hd ≤ 2 := fun k x c h => by
    rw [hh k x c h]
    have := one_nn root k
    rcases hη with rfl | rfl <;> omega
  obtain ⟨t, now, E, I, U, S, V⟩ := built_ex 256 0 F _ _ s root 2 rfl P ho G hB (by decide) (by decide) (by rw [hOl]; omega) hI
  generalize liveW (ovZ F ws) = M at *
  have Gt := E.good
  have hht : ∀ k x c, t.at_ k = some (x, c) → x.hd = η * one root k + one now k := fun k x c hk => by
    cases hsk : s.at_ k with
    | none =>
      have h1 := E.new k x c hk hsk
      have : one root k = 0 := by
        unfold one
        rw [if_neg]
        rintro ⟨rfl, h0⟩
        obtain ⟨y, c', hy⟩ := hI.live h0
        rw [hsk] at hy; cases hy
      rw [h1, this]; omega
    | some p =>
      obtain ⟨y, c'⟩ := p
      obtain ⟨c2, h2⟩ := E.old k y c' hsk
      rw [hk] at h2; injection h2 with h2; injection h2 with q1 _
      rw [q1]; show y.hd + one now k = _; rw [hh k y c' hsk]
  have hsl : s.used = (treeN 256 0 F).length := live_one G.d G.c hI hs0 fun k x c hk hp => by
    rw [hh k x c hk] at hp
    by_cases e : k = root ∧ root ≠ 0
    · exact e
    exfalso
    have : one root k = 0 := if_neg e
    rw [this] at hp; omega
  have I0 := hI.mono E.sub
  by_cases h0 : root = 0
  · have hz : ∀ k, one root k = 0 := fun k => by rw [h0]; exact one_zero k
    have hFn : F = [] := hI.zero h0
    refine ⟨t, t, now, 0, V, fun _ => rfl, fun h => absurd h0 h, Gt.d, I, fun e => ?_, fun _ => ?_, fun _ => ⟨?_, I0⟩⟩
    · obtain ⟨x, c, hx⟩ := I.live e
      rw [(Slb.get_at hx).1, hht _ _ _ hx, hz, one_self e]; omega
    · refine live_one Gt.d Gt.c I FM.s fun k x c hk hp => ?_
      rw [hht k x c hk, hz] at hp
      by_cases e : k = now ∧ now ≠ 0
      · exact e
      exfalso
      have : one now k = 0 := if_neg e
      rw [this] at hp; omega
    rw [hsl]
    refine live_two Gt.d Gt.c I FM.s I0 hs0 hF ho.ris S fun k x c hk hp => ?_
    rw [hht k x c hk, hz] at hp
    by_cases e : k = now ∧ now ≠ 0
    · exact .inl e
    exfalso
    have : one now k = 0 := if_neg e
    rw [this] at hp; omega
  obtain ⟨x, c, hx⟩ := I0.live h0
  have hxh := hht _ _ _ hx
  rw [one_self h0] at hxh
  have hon := one_nn now root
  have hxp : 1 ≤ x.hd ∧ x.hd ≤ 3 := by rcases hη with e | e <;> rw [e] at hxh <;> omega
  obtain ⟨i, hi, _, _⟩ := Slb.at_some hx
  have hp := Slb.at_pos Gt.d.wf (hi ▸ hx)
  rw [hi] at hx
  have e1 := Slb.call_cnt hx (-1)
  have D' : DInv (t.call_ ((i : Int) + 1) (-1)) := Gt.d.call _ _
  have C' : CInv (t.call_ ((i : Int) + 1) (-1)) (tcL [(i : Int) + 1]) := by
    rw [e1]
    refine Gt.c.upd hx _ _ rfl rfl rfl rfl (by show 0 ≤ x.hd + -1; omega) ?_ (fun k hk => by rw [tcL_one, if_neg hk]) (tcL_nn _)
    rw [tcL_one, if_pos rfl]; show (c : Int) - (x.hd + -1) - 1 = c - x.hd - 0; omega
  have hat' : ∀ k, (t.call_ ((i : Int) + 1) (-1)).at_ k = if k = (i : Int) + 1 then some ({ x with hd := x.hd + -1 }, c) else t.at_ k := fun k => by rw [e1]; exact Slb.at_cnt hx _ _ k
  obtain ⟨u, m, k1, k2, k3, k4, k5, k6⟩ := drop_plain (3 * (t.call_ ((i : Int) + 1) (-1)).used + 1) (t.call_ ((i : Int) + 1) (-1)) [(i : Int) + 1] 0 (Nat.le_refl _) D' C' (fun k hk => by rw [List.mem_singleton.1 hk, hat', if_pos rfl]; exact ⟨_, _, rfl⟩)
  have hVd := stoDrop_v t Gt.d i x c hx (by omega) ⟨by omega, by omega⟩ u m k1
  have hsub : t.Sub (t.call_ ((i : Int) + 1) (-1)) := Slb.Sub.call _ _ _
  have hhu : ∀ k z c', u.at_ k = some (z, c') → z.hd = (η - 1) * one root k + one now k := fun k z c' hk => by
    obtain ⟨c0, h1⟩ := k5 k z c' hk
    rw [hat'] at h1
    by_cases e : k = (i : Int) + 1
    · rw [if_pos e] at h1
      injection h1 with h1; injection h1 with q1 _
      rw [← q1, e, ← hi, one_self h0]; show x.hd + -1 = _; rw [hxh]
      rcases hη with e | e <;> rw [e] <;> omega
    rw [if_neg e] at h1
    rw [hht _ _ _ h1, one_ne (by rw [hi]; exact e)]; omega
  have halive : ∀ h, (∃ z c', (t.call_ ((i : Int) + 1) (-1)).at_ h = some (z, c') ∧ 0 < z.hd) → ∃ z c', u.at_ h = some (z, c') := fun h ⟨z, c', h1, h2⟩ => by
    obtain ⟨c2, h3⟩ := k6 h z c' h1 h2
    exact ⟨z, c2, h3⟩
  have Iu : Is u 256 0 M now := (I.mono hsub).surv k3 k5 fun e => by
    obtain ⟨z, c', hz⟩ := I.live e
    have hzh := hht _ _ _ hz
    rw [one_self e] at hzh
    refine halive now ?_
    rw [hat']
    by_cases e2 : now = (i : Int) + 1
    · rw [if_pos e2]
      refine ⟨_, _, rfl, ?_⟩
      rw [e2] at hz
      rw [hx] at hz; injection hz with hz; injection hz with q1 _
      rw [← q1] at hzh
      have : one root now = 1 := by rw [e2, ← hi]; exact one_self h0
      rw [this] at hzh
      show 0 < x.hd + -1
      rcases hη with e | e <;> rw [e] at hzh <;> omega
    rw [if_neg e2]
    refine ⟨z, c', hz, ?_⟩
    have := (one_nn root now).1
    rcases hη with e | e <;> rw [e] at hzh <;> omega
  have husub : u.Sub t := fun h z c' hz => by
    obtain ⟨c0, h1⟩ := k5 h z c' hz
    rw [hat'] at h1
    by_cases e : h = (i : Int) + 1
    · rw [if_pos e] at h1
      injection h1 with h1; injection h1 with q1 _
      exact ⟨x.hd, c, by rw [e, hx, ← q1]⟩
    rw [if_neg e] at h1
    exact ⟨z.hd, c0, by rw [h1]⟩
  refine ⟨t, u, now, m, V, fun h => absurd h h0, fun _ => by rw [hi]; exact hVd, k2, Iu, fun e => ?_, fun e1 => ?_, fun e2 => ?_⟩
  · obtain ⟨z, c', hz⟩ := Iu.live e
    rw [(Slb.get_at hz).1, hhu _ _ _ hz, one_self e]
    have := (one_nn root now).1
    rcases hη with e | e <;> rw [e] <;> omega
  · refine live_one k2 k3 Iu FM.s fun k z c' hk hp => ?_
    rw [hhu k z c' hk, e1] at hp
    by_cases e : k = now ∧ now ≠ 0
    · exact e
    exfalso
    have : one now k = 0 := if_neg e
    rw [this] at hp; omega
  have I0u : Is u 256 0 F root := (I0.mono hsub).surv k3 k5 fun _ => by
    refine halive root ?_
    rw [hat', if_pos hi]
    refine ⟨_, _, rfl, ?_⟩
    rw [e2] at hxh
    show 0 < x.hd + -1; omega
  refine ⟨?_, I0u⟩
  rw [hsl]
  refine live_two k2 k3 Iu FM.s I0u hs0 hF ho.ris (fun p q n h1 h2 => ?_) fun k z c' hk hp => ?_
  · rw [← hndL_mono husub _ _ _ _ I0u] at h1
    rw [← hndL_mono husub _ _ _ _ Iu] at h2
    exact S p q n h1 h2
  rw [hhu k z c' hk, e2] at hp
  by_cases e : k = now ∧ now ≠ 0
  · exact .inl e
  by_cases e3 : k = root ∧ root ≠ 0
  · exact .inr e3
  exfalso
  have q1 : one now k = 0 := if_neg e
  have q2 : one root k = 0 := if_neg e3
  rw [q1, q2] at hp; omega
theorem mSk2 {P : Program} {w0 w : World} {N : Gh} {nt : Nat} {st s2 : St} {a : Act} {ops : Array Oper} {Q : Exit → Act → World → Prop} {rest : List Oper} {o : Oper} {t t2 : Nat} {b b2 : Bool} {y : AV} (r : AV) (H : Rel P w0 N nt st a w) (g : ∀ a w, Rel P w0 N nt s2 a w → wpList P ops Q rest a w)
    (hgd : gdOf ops o = some (some (t, b)) := by rfl) (hf : find t st.t = some (some (t2, b2), y) := by rfl) (hk : st.tmp none t2 = .v (.bool (!b2)) := by rfl) (hd : okDst nt (some (t, b)) o.dst = true := by rfl)
    (hs : st.put o.dst (some (t, b)) r = s2 := by exact nfs) : wpList P ops Q (o :: rest) a w := by
  obtain ⟨g0, HI, hF⟩ := H
  have hn2 : ¬ gholds a (some (t2, b2)) := fun h => by
    have e1 := tmp_sound hF (c := none) trivial t2
    rw [hk] at e1
    have e2 : a.tmps.getD t2 undef = .bool b2 := h
    rw [e1.v_inv] at e2
    injection e2 with e2
    cases b2 <;> cases e2
  have hu := hF.u _ (find_mem hf) hn2
  have hn : ¬ gholds a (some (t, b)) := fun h => by
    have e2 : a.tmps.getD t undef = .bool b := h
    have hu : a.tmps.getD t undef = undef := hu
    rw [hu] at e2
    cases e2
  have hw : ¬ Region.wanted o (yielded ops a.tmps) = true := fun h => hn ((gdOf_wanted hgd).1 h)
  refine wpList_step fun K hK => ?_
  rw [if_neg hw]
  subst hs
  refine hK _ _ (g _ _ ⟨g0, ?_, hF.put hd (fun hg => absurd hg hn) rfl (fun _ => rfl)⟩)
  cases o.dst <;> exact HI
structure BaS (s : Slb) (rm : Nat) (F : List Pr) (root η : Int) : Prop where
  g : GoodS s
  rm : s.room = rm
  hh : ∀ k x c, s.at_ k = some (x, c) → x.hd = η * one root k
  is : Is s 256 0 F root
theorem new_none (n : Nat) (k : Int) : (Slb.new n).at_ k = none := by
  cases h : (Slb.new n).at_ k with
  | none => rfl
  | some p =>
    have := Slb.at_lt h
    have h0 : (Slb.new n).sl.length = 0 := rfl
    omega
theorem ba_new {n : Nat} {t : Slb} {F : List Pr} {h : Int} (E : Ext (Slb.new n) t (one h)) (I : Is t 256 0 F h) : BaS t n F h 1 :=
  ⟨E.good, E.room, fun k x c hk => by rw [E.new k x c hk (new_none n k)]; omega, I⟩
theorem BaS.zero {t : Slb} {n : Nat} {F : List Pr} (B : BaS t n F 0 1) : BaS t n F 0 2 := ⟨B.g, B.rm, fun k x c hk => by rw [B.hh k x c hk, one_zero]; rfl, B.is⟩
theorem BaS.hold {t : Slb} {n : Nat} {F : List Pr} {h : Int} (B : BaS t n F h 1) (h0 : h ≠ 0) : ∃ s, BaS s n F h 2 ∧ VX Tryz.prog 20 t.sx [] [] [.ptr 0 [], .v (.int .i64 h)] s.sx [] [] (errv 0) := by
  obtain ⟨x, c, hx⟩ := B.is.live h0
  obtain ⟨i, hi, _, _⟩ := Slb.at_some hx
  have hxh : x.hd = 1 := by rw [B.hh _ _ _ hx, one_self h0]; rfl
  subst hi
  have hcb := B.g.cbd hx (B := 1) (by omega)
  have E := B.g.hold hx (by omega)
  refine ⟨_, ⟨E.good, E.room.trans B.rm, fun k z c' hk => ?_, B.is.mono E.sub⟩, stoHold_v t B.g.d.wf i x c hx (by omega) ⟨by omega, by omega⟩⟩
  cases hs : t.at_ k with
  | none =>
    have h1 := E.new k z c' hk hs
    have h2 : one ((i : Int) + 1) k = 0 := by
      unfold one
      rw [if_neg]
      rintro ⟨rfl, _⟩
      rw [hx] at hs; cases hs
    rw [h1, h2]; rfl
  | some p =>
    obtain ⟨y, c1⟩ := p
    obtain ⟨c2, h2⟩ := E.old k y c1 hs
    rw [hk] at h2; injection h2 with h2; injection h2 with q1 _
    rw [q1]; show y.hd + one _ k = _; rw [B.hh k y c1 hs]; omega
theorem BaS.hd {s : Slb} {n : Nat} {F : List Pr} {root η : Int} (B : BaS s n F root η) (he : η = 1 ∨ η = 2) (h0 : root ≠ 0) : (s.get_ root).hd ≠ 0 := by
  obtain ⟨x, c, hx⟩ := B.is.live h0
  rw [(Slb.get_at hx).1, B.hh _ _ _ hx, one_self h0]; omega
theorem Is.size {s : Slb} {M : List Pr} {h : Int} (I : Is s 256 0 M h) (hs : Sep 0 (dgs M)) : (s.get_ h).sz = (M.length : Int) := by
  by_cases hne : M = []
  · subst hne
    have e : h = 0 := (Is.small (by simp)).1 I
    subst e
    unfold Slb.get_
    rw [Slb.at_zero]; rfl
  obtain ⟨x, c, h1, h2⟩ := I.info hs rfl hne
  rw [(Slb.get_at h1).1, h2.sz]
theorem wrongE_long {s : Slb} {ws : List Wr} (h : longW ws = true) : wrongE s ws = 4 := by unfold wrongE; rw [h]; rfl
theorem wrongE_full {s : Slb} {ws : List Wr} (h : longW ws = false) (h2 : ¬ s.used + 258 * (lstW ws).length ≤ s.room) : wrongE s ws = 9 := by unfold wrongE; rw [h, if_neg (by decide), if_neg h2]
theorem wrongE_fine {s : Slb} {ws : List Wr} (h : longW ws = false) (h2 : s.used + 258 * (lstW ws).length ≤ s.room) : wrongE s ws = 0 := by unfold wrongE; rw [h, if_neg (by decide), if_pos h2]
theorem longW_val {ws : List Wr} (h : longW ws = false) : ∀ w ∈ ws, tooL w = false := fun w hw => by
  unfold longW at h
  rw [Bool.or_eq_false_iff] at h
  have h2 := List.any_eq_false.1 h.2 w hw
  cases h3 : tooL w
  · rfl
  exact absurd h3 h2
def lngK (ws : List Wr) (k : Nat) : Bool := decide (64 < ws.length) || (ws.take k).any tooL
theorem lngK_all (ws : List Wr) : lngK ws ws.length = longW ws := by unfold lngK longW; rw [List.take_length]
theorem lngK_step (ws : List Wr) (k : Nat) (h : k < ws.length) : lngK ws (k + 1) = (lngK ws k || tooL ws[k]) := by
  unfold lngK
  rw [List.take_succ_eq_append_getElem h, List.any_append]
  simp [Bool.or_assoc]
theorem ba_ov {F : List Pr} (hF : Ris F) (hK : K32 F) (hv : ∀ x ∈ F, x.2.length ≤ 1024) (hn : F.length ≤ 10) {ws : List Wr} (hW : K32W ws) (hl : ws.length ≤ 70) (hlong : longW ws = false) :
    OvF 0 (liveW (ovZ F ws)) := by
  have hs0 : Sep 0 (dgs F) := sep_of F hK hF.dis 0 (fun x _ y _ t ht => absurd ht (Nat.not_lt_zero t))
  have ho := order_is F ws hK hW hF.dis
  have hOl : (srtW (lstW ws)).length = (lstW ws).length := (srtW_perm _).length_eq
  have hOl2 := lstW_len ws
  have hOk : K32W (srtW (lstW ws)) := (lstW_k32 _ hW).perm (srtW_perm _)
  have P : BPre 0 F (srtW (lstW ws)) := ⟨hs0, hF, hK, hv, by omega, srtW_ris _ (lstW_k32 _ hW) (lstW_dis _), hOk, order_val ws (longW_val hlong), by omega, fun _ _ _ _ t ht => absurd ht (Nat.not_lt_zero t), fun _ _ _ _ t ht => absurd ht (Nat.not_lt_zero t)⟩
  exact P.ov ho
theorem tmod_facts (x n : Int) (h0 : 0 < n) : -n < x.tmod n ∧ x.tmod n < n ∧ (0 ≤ x.tmod n → x % n = x.tmod n) ∧ (x.tmod n < 0 → x % n = x.tmod n + n) := by
  have h1 := Int.lt_tmod_of_pos x h0
  have h2 := Int.tmod_lt_of_pos x h0
  have h3 : x % n = x.tmod n % n := by
    have h4 := Int.mul_tdiv_add_tmod x n
    conv => lhs; rw [← h4]
    rw [Int.mul_add_emod_self_left]
  refine ⟨h1, h2, fun h => ?_, fun h => ?_⟩
  · rw [h3, Int.emod_eq_of_lt h h2]
  rw [h3, ← Int.add_emod_right, Int.emod_eq_of_lt (by omega) (by omega)]
set_option maxHeartbeats 1000000 in
set_option maxRecDepth 100000 in
theorem pick_any (x n : Int) (w : World) (hx : -9223372036854775808 ≤ x ∧ x ≤ 9223372036854775807) (h0 : 0 < n) (h1 : n ≤ 1048576) : Calls Tryz.prog 19 #[.int .i64 x, .int .i64 n] w fun e w' => e = .returned (.int .i64 (x % n)) ∧ w' = w := by
  go_enter Tryz.func19, Tryz.ntmps19
  obtain ⟨t1, t2, t3, t4⟩ := tmod_facts x n h0
  go_wp2
  · go_ret
    refine ⟨?_, rfl⟩
    rename_i h
    rw [t4 h]; rfl
  go_ret
  refine ⟨?_, rfl⟩
  rename_i h
  rw [t3 h]; rfl
theorem two_ {g : Gh} {x y : AV} {vs : List Value} (hl : vs.length = 2) (hv : ∀ (i : Nat) a v, [x, y][i]? = some a → vs[i]? = some v → RV g a v) : ∃ u v, vs = [u, v] ∧ RV g x u ∧ RV g y v := by
  match vs, hl with
  | [u, v], _ => exact ⟨u, v, rfl, hv 0 _ _ rfl rfl, hv 1 _ _ rfl rfl⟩
theorem pick_v (x n : Int) (hx : -9223372036854775808 ≤ x ∧ x ≤ 9223372036854775807) (h0 : 0 < n) (h1 : n ≤ 1048576) : VC Tryz.prog 19 [.v (.int .i64 x), .v (.int .i64 n)] [] (.v (.int .i64 (x % n))) := by
  refine VC.ofA ⟨_, Tryz.func19, by kernel_rfl, by kernel_rfl⟩ fun w N vs hM hl hv => ?_
  obtain ⟨u, v, rfl, h2, h3⟩ := two_ hl hv
  have e1 := h2.v_inv
  have e2 := h3.v_inv
  subst e1 e2
  refine (pick_any x n w hx h0 h1).mono fun e w' hp => ?_
  obtain ⟨rfl, rfl⟩ := hp
  exact ⟨_, rfl, Below.refl _ _, RV.v_of rfl⟩
end Go.Proofs.YtgffimanhmpohaaGreat
