/- The document's Find; law08.few. -/
import Derived.Test.YtigmpdhnhkdeiaaNrootAt
import Derived.Test.YtigmpdhnhkdeiaaBuildT
import Derived.Test.YtigmpdhnhkdeiaaLess
import Derived.Test.YtigmpdhnhkdeiaaNode
set_option linter.unusedSimpArgs false
set_option linter.unusedVariables false
namespace Go.Proofs.Ytigmpdhnhkdeiaa
open Go Go.RowKit
def lookP (l : List Pr) (key : List UInt8) : Option (List UInt8) := (l.find? fun x => decide (x.1 = key)).map (·.2)
abbrev lookR : Option (List UInt8) → List (TypeId × Nat)
  | none => []
  | some v => [(5, v.length)]
abbrev lookA : Option (List UInt8) → AV
  | none => .tup [.v (.slice none 0 0), .v (.bool false)]
  | some v => .tup [.bs v (some 0), .v (.bool true)]
theorem lookP_drop (l : List Pr) (key : List UInt8) (k : Nat) (hk : k < l.length) : lookP (l.drop k) key = if l[k].1 = key then some l[k].2 else lookP (l.drop (k + 1)) key := by
  rw [List.drop_eq_getElem_cons hk]
  unfold lookP
  rw [List.find?_cons]
  by_cases h : l[k].1 = key
  · rw [decide_eq_true h, if_pos h]; rfl
  · rw [decide_eq_false h, if_neg h]
attribute [local irreducible] wpT
set_option maxRecDepth 20000 in
theorem findR_v (l : List Pr) (hK : K32 l) (hl : l.length ≤ 34359730000) (hv : ∀ x ∈ l, x.2.length ≤ 34359730000) (key : List UInt8) (hk : key.length = 32) : VC Try.prog 73 [.sl prT (l.map prA) none, .ba key] (lookR (lookP l key)) (lookA (lookP l key)) := by
  have hm : (l.map prA).length = l.length := List.length_map ..
  have h0 : lookP (l.drop 0) key = lookP l key := rfl
  generalize hF : lookP l key = F at *
  refine mE Try.func73 ?_; intro N w0 a w hN hR H
  have hX := And.intro @hk (@hm)
  refine mW ?_; clear H; intro a w H
  refine v_loop (fun k : Nat => ⟨[(6, none, .v (.int .i64 (k : Int))), (3, none, .ptr 0 []), (0, none, .sl prT (l.map prA) none)], [(.ba 32, .ba key)], [], []⟩) (fun k => k ≤ l.length ∧ lookP (l.drop k) key = F) (fun k => l.length - k) 0 ⟨Nat.zero_le _, h0⟩
    (H.to 1 0 ⟨Nat.le_trans hN (Nat.le_of_ble_eq_true rfl), Nat.le_trans hR (Nat.zero_le _)⟩ ⟨rfl, rfl, rfl, trivial⟩ rfl rfl rfl rfl rfl) ?_
  clear H
  intro k a w hk2 H
  obtain ⟨hk2, hk3⟩ := hk2
  refine mW ?_; clear H; intro a w H
  refine mC H (fun hb => ?_) (fun hb => ?_)
  · have hlt : k < l.length := by rw [decide_eq_true_eq] at hb; omega
    clear hb
    rw [lookP_drop l key k hlt] at hk3
    have g1 := prA_get l k hlt
    have w1 := hK _ (List.getElem_mem hlt)
    have w2 := hv _ (List.getElem_mem hlt)
    generalize l[k] = q at *
    obtain ⟨kb, vb⟩ := q
    dsimp only at g1 w1 w2 hk3
    clear hX; have hX := And.intro @hk (And.intro @hm (And.intro @g1 (@w1)))
    refine mS ?_; refine mD 1 [] [] H ?_; clear H; intro gS H
    refine mTN 3 hN H ?_; clear H; intro a w H; simp only [List.drop_succ_cons, List.drop_zero, List.drop_nil]
    refine mT ?_; clear H; intro a w H
    refine v_drawNil H ?_; clear H; intro H
    refine mC H (fun hb => ?_) (fun hb => ?_)
    · have e : kb = key := of_decide_eq_true hb
      clear hb
      rw [if_pos e] at hk3
      subst hk3
      refine mS ?_
      (try refine wp_region_lit ?_); refine mN 4 hN H ?_; clear H; intro a w H
      refine mW ?_; clear H; intro a w H
      refine wp_ret ?_; exact mEnd [] [0] [.tmp 4, .tmp 5] [_, _] hN hR H
    · have e : kb ≠ key := of_decide_eq_false hb
      clear hb
      rw [if_neg e] at hk3
      refine mW ?_; clear H; intro a w H
      rw [show (k : Int) + 1 = ((k + 1 : Nat) : Int) by omega] at H
      exact ⟨k + 1, ⟨hlt, hk3⟩, by omega, H.to 1 0 ⟨Nat.le_trans hN (Nat.le_of_ble_eq_true rfl), Nat.le_trans hR (Nat.zero_le _)⟩ ⟨rfl, rfl, rfl, trivial⟩ rfl rfl rfl rfl rfl⟩
  · have hge : k = l.length := by rw [decide_eq_false_iff_not] at hb; omega
    clear hb
    have hF2 : F = none := by rw [← hk3, hge, List.drop_length]; rfl
    subst hF2
    refine mW ?_; clear H; intro a w H
    refine wp_ret ?_; exact mEnd [] [] [.tmp 4, .tmp 5] [_, _] hN hR H
def fewP : List Pr → List Pr → List Pr
  | out, [] => out
  | out, x :: t => if out.length < 12 then fewP (if lookP out x.1 = none ∧ x.2.length ≤ 1024 then out ++ [x] else out) t else out
theorem lookP_none (l : List Pr) (key : List UInt8) : lookP l key = none ↔ ∀ y ∈ l, y.1 ≠ key := by
  unfold lookP
  rw [Option.map_eq_none_iff, List.find?_eq_none]
  exact ⟨fun h y hy e => h y hy (decide_eq_true e), fun h y hy e => h y hy (of_decide_eq_true e)⟩
structure FewI (l F : List Pr) (i : Nat × List Pr) : Prop where
  k : i.1 ≤ l.length
  f : fewP i.2 (l.drop i.1) = F
  n : i.2.length ≤ 12
  s : ∀ x ∈ i.2, x ∈ l
  v : ∀ x ∈ i.2, x.2.length ≤ 1024
  d : Dis i.2
theorem FewI.skip {l F out : List Pr} {k : Nat} (h : FewI l F (k, out)) (hk : k < l.length) (hn : out.length < 12) (hx : ¬ (lookP out l[k].1 = none ∧ l[k].2.length ≤ 1024)) : FewI l F (k + 1, out) := by
  obtain ⟨h1, h2, h3, h4, h5, h6⟩ := h
  dsimp only at h2
  rw [List.drop_eq_getElem_cons hk, fewP, if_pos hn, if_neg hx] at h2
  exact ⟨hk, h2, h3, h4, h5, h6⟩
theorem FewI.take {l F out : List Pr} {k : Nat} (h : FewI l F (k, out)) (hk : k < l.length) (hn : out.length < 12) (hx : lookP out l[k].1 = none ∧ l[k].2.length ≤ 1024) : FewI l F (k + 1, out ++ [l[k]]) := by
  obtain ⟨h1, h2, h3, h4, h5, h6⟩ := h
  dsimp only at h2 h3 h4 h5 h6
  rw [List.drop_eq_getElem_cons hk, fewP, if_pos hn, if_pos hx] at h2
  refine ⟨hk, h2, by dsimp only; rw [List.length_append]; simp; omega, fun x hx2 => ?_, fun x hx2 => ?_, ?_⟩
  · rcases List.mem_append.1 hx2 with h | h
    · exact h4 x h
    · rw [List.mem_singleton.1 h]; exact List.getElem_mem hk
  · rcases List.mem_append.1 hx2 with h | h
    · exact h5 x h
    · rw [List.mem_singleton.1 h]; exact hx.2
  · refine List.pairwise_append.2 ⟨h6, List.pairwise_singleton _ _, fun x hx2 y hy => ?_⟩
    rw [List.mem_singleton.1 hy]; exact (lookP_none _ _).1 hx.1 x hx2
theorem FewI.stop {l F out : List Pr} {k : Nat} (h : FewI l F (k, out)) (hx : ¬ (k < l.length ∧ out.length < 12)) : out = F := by
  have h2 := h.f
  have h1 := h.k
  dsimp only at h1 h2
  by_cases hk : k < l.length
  · rw [List.drop_eq_getElem_cons hk, fewP, if_neg (fun e => hx ⟨hk, e⟩)] at h2; exact h2
  · rw [show k = l.length by omega, List.drop_length, fewP] at h2; exact h2
set_option maxRecDepth 20000 in
set_option maxHeartbeats 2000000 in
theorem few_v (l : List Pr) (hK : K32 l) (hl : l.length ≤ 34359730000) (hv : ∀ x ∈ l, x.2.length ≤ 34359730000) : ∃ F, K32 F ∧ Dis F ∧ F.length ≤ 12 ∧ (∀ x ∈ F, x.2.length ≤ 1024) ∧ VC Try.prog 68 [.sl prT (l.map prA) none] [(120, F.length)] (.sl prT (F.map prA) (some 0)) := by
  obtain ⟨F, hF⟩ : ∃ F, F = fewP [] l := ⟨_, rfl⟩
  have hm0 : FewI l F (0, []) := ⟨Nat.zero_le _, hF.symm, by decide, fun _ h => (by cases h), fun _ h => (by cases h), List.Pairwise.nil⟩
  suffices h : (∃ k, FewI l F (k, F)) ∧ VC Try.prog 68 [.sl prT (l.map prA) none] [(120, F.length)] (.sl prT (F.map prA) (some 0)) by
    obtain ⟨⟨k, g⟩, hc⟩ := h
    exact ⟨F, fun x hx => hK x (g.s x hx), g.d, g.n, g.v, hc⟩
  refine ⟨?_, ?_⟩
  · clear hF
    have : ∀ n k out, l.length - k = n → FewI l F (k, out) → ∃ k, FewI l F (k, F) := by
      intro n
      induction n with
      | zero =>
        intro k out hn h
        have := h.stop (fun e => by omega)
        subst this; exact ⟨k, h⟩
      | succ n ih =>
        intro k out hn h
        have hk : k < l.length := by omega
        by_cases h12 : out.length < 12
        · by_cases hx : lookP out l[k].1 = none ∧ l[k].2.length ≤ 1024
          · exact ih (k + 1) _ (by omega) (h.take hk h12 hx)
          · exact ih (k + 1) _ (by omega) (h.skip hk h12 hx)
        · have := h.stop (fun e => h12 e.2)
          subst this; exact ⟨k, h⟩
    exact this _ 0 [] rfl hm0
  clear hF
  have hm : (l.map prA).length = l.length := List.length_map ..
  refine mE Try.func68 ?_; intro N w0 a w hN hR H
  have hX := @hm
  refine mW ?_; clear H; intro a w H
  replace H := v_nilE tab_ok H 3 120 prT (j := ti120) rfl (by decide) rfl
  simp only [nilT, Nat.reduceEqDiff, reduceIte] at H
  refine v_loop (fun i : Nat × List Pr => ⟨[(4, none, .v (.int .i64 (i.1 : Int))), (3, none, .sl prT (i.2.map prA) (some 0)), (0, none, .sl prT (l.map prA) none)], [], [], [(120, i.2.length)]⟩) (FewI l F) (fun i => l.length - i.1) (0, []) hm0
    (H.to 0 1 ⟨Nat.le_trans hN (Nat.le_of_ble_eq_true rfl), Nat.le_trans hR (Nat.zero_le _)⟩ ⟨rfl, rfl, rfl, trivial⟩ rfl rfl rfl rfl rfl) ?_
  clear H hm0
  rintro ⟨k, out⟩ a w hwy H
  dsimp only at H
  have hmo : (out.map prA).length = out.length := List.length_map ..
  have hn12 := hwy.n
  have hkl := hwy.k
  dsimp only at hn12 hkl
  clear hX; have hX := And.intro @hm (@hmo)
  refine mW ?_; clear H; intro a w H
  refine mC H (fun hb => ?_) (fun hb => ?_)
  · have hlt : k < l.length ∧ out.length < 12 := by
      by_cases e1 : k < l.length
      · refine ⟨e1, ?_⟩
        rw [decide_eq_true (show (k : Int) < (l.length : Int) by omega)] at hb
        have : decide ((out.length : Int) < 12) = true := hb
        rw [decide_eq_true_eq] at this; omega
      · rw [decide_eq_false (show ¬ (k : Int) < (l.length : Int) by omega)] at hb; cases hb
    clear hb
    obtain ⟨hlt, h12⟩ := hlt
    have g1 := prA_get l k hlt
    have w1 := hK _ (List.getElem_mem hlt)
    have w2 := hv _ (List.getElem_mem hlt)
    have hf := findR_v out (fun x hx => hK x (hwy.s x hx)) (by omega) (fun x hx => hv x (hwy.s x hx)) l[k].1 w1
    have hsk := fun h => hwy.skip hlt h12 h
    have htk := fun h => hwy.take hlt h12 h
    have hap := prs_app out l[k]
    generalize l[k] = q at *
    obtain ⟨kb, vb⟩ := q
    dsimp only at g1 w1 w2 hf hsk htk hap
    refine mS ?_
    clear hX; have hX := And.intro @hm (And.intro @hmo (And.intro @g1 (@w1)))
    (try refine wp_region_lit ?_); refine mN 4 hN H ?_; clear H; intro a w H
    refine mW ?_; clear H; intro a w H
    cases hq : lookP out kb with
    | none =>
      rw [hq] at hf hsk htk
      refine mCall [] [] (hf) H ?_; clear H; intro a w H; try refine wpList_nil ?_
      (try refine wp_region_lit ?_); refine mN 5 hN H ?_; clear H; intro a w H
      refine mS ?_
      (try refine wp_region_lit ?_); refine mN 6 hN H ?_; clear H; intro a w H
      refine mW ?_; clear H; intro a w H
      refine mC H (fun hb => ?_) (fun hb => ?_)
      · have e : vb.length ≤ 1024 := by rw [decide_eq_true_eq] at hb; omega
        clear hb
        have hnx := htk ⟨rfl, e⟩
        refine mS ?_
        (try refine wp_region_lit ?_); refine mN 4 hN H ?_; clear H; intro a w H
        refine mW ?_; clear H; intro a w H
        rw [show (k : Int) + 1 = ((k + 1 : Nat) : Int) by omega] at H
        exact ⟨(k + 1, out ++ [(kb, vb)]), hnx, by dsimp only; omega, H.to 0 1 ⟨Nat.le_trans hN (Nat.le_of_ble_eq_true rfl), Nat.le_trans hR (Nat.zero_le _)⟩ ⟨rfl, (by dsimp only; rw [hap]; rfl), rfl, trivial⟩ rfl (by dsimp only; rw [List.length_append]; rfl) rfl rfl rfl⟩
      · have e : ¬ vb.length ≤ 1024 := by rw [decide_eq_false_iff_not] at hb; omega
        clear hb
        have hnx := hsk (fun h => e h.2)
        refine mW ?_; clear H; intro a w H
        rw [show (k : Int) + 1 = ((k + 1 : Nat) : Int) by omega] at H
        exact ⟨(k + 1, out), hnx, by dsimp only; omega, H.to 0 1 ⟨Nat.le_trans hN (Nat.le_of_ble_eq_true rfl), Nat.le_trans hR (Nat.zero_le _)⟩ ⟨rfl, rfl, rfl, trivial⟩ rfl rfl rfl rfl rfl⟩
    | some v =>
      rw [hq] at hf hsk
      refine mCall [] [] (hf) H ?_; clear H; intro a w H; try refine wpList_nil ?_
      (try refine wp_region_lit ?_); refine mN 5 hN H ?_; clear H; intro a w H
      refine mS ?_
      (try refine wp_region_lit ?_); refine mN 6 hN H ?_; clear H; intro a w H
      refine mW ?_; clear H; intro a w H
      refine mC H (fun hb => ?_) (fun hb => ?_)
      · simp at hb
      · clear hb
        have hnx := hsk (fun h => by simp at h)
        refine mW ?_; clear H; intro a w H
        rw [show (k : Int) + 1 = ((k + 1 : Nat) : Int) by omega] at H
        exact ⟨(k + 1, out), hnx, by dsimp only; omega, H.to 0 1 ⟨Nat.le_trans hN (Nat.le_of_ble_eq_true rfl), Nat.le_trans hR (Nat.zero_le _)⟩ ⟨rfl, rfl, rfl, trivial⟩ rfl rfl rfl rfl rfl⟩
  · have hst := hwy.stop (fun e => by
      rw [decide_eq_true (show (k : Int) < (l.length : Int) by omega)] at hb
      have : decide ((out.length : Int) < 12) = false := hb
      rw [decide_eq_false_iff_not] at this; omega)
    clear hb
    subst hst
    refine mW ?_; clear H; intro a w H
    refine wp_ret ?_; exact mEnd [] [0] [.tmp 2] [_] hN hR H
end Go.Proofs.Ytigmpdhnhkdeiaa
/- The statements' kit: proofs compared and copied. -/
namespace Go.Proofs.Ytigmpdhnhkdeiaa
open Go Go.RowKit
theorem sameH_v (x y : List (List UInt8)) (hx : ∀ h ∈ x, h.length = 32) (hy : ∀ h ∈ y, h.length = 32) (hl : x.length ≤ 34359730000) : VC Try.prog 115 [.sl (.ba 32) (bas x) none, .sl (.ba 32) (bas y) none] [] (.v (.bool (decide (x = y)))) := by
  have hxl := bas_len x
  have hyl := bas_len y
  refine mE Try.func115 ?_; intro N w0 a w hN hR H
  refine mW ?_; clear H; intro a w H
  refine mC H (fun hb => ?_) (fun hb => ?_)
  · have hne : ¬ x = y := fun e => by rw [hxl, hyl, e] at hb; simp at hb
    rw [decide_eq_false hne]
    refine mW ?_; clear H; intro a w H
    refine wp_ret ?_; exact mEnd [] [] [.tmp 4] [_] hN hR H
  · have hll : x.length = y.length := by rw [hxl, hyl] at hb; simp at hb; omega
    have hX := And.intro @hxl (@hyl)
    refine mW ?_; clear H; intro a w H
    refine v_loop (fun k : Nat => ⟨[(5, none, .v (.int .i64 (k : Int))), (4, none, .v (.bool false)), (0, none, .sl (.ba 32) (bas x) none), (1, none, .sl (.ba 32) (bas y) none)], [], [], []⟩) (fun k => k ≤ x.length ∧ x.take k = y.take k) (fun k => x.length - k) 0 ⟨Nat.zero_le _, rfl⟩ (H.to 0 0 ⟨hN, hR⟩ ⟨rfl, rfl, rfl, rfl, trivial⟩ rfl rfl rfl rfl rfl) ?_
    clear H
    intro k a w hk H
    obtain ⟨hk, hkt⟩ := hk
    refine mW ?_; clear H; intro a w H
    refine mC H (fun hb => ?_) (fun hb => ?_)
    · have hlt : k < x.length := by simpa using hb
      have g1 := bas_get x k hlt
      have g2 := bas_get y k (by omega)
      have l1 := hx _ (List.getElem_mem hlt)
      have l2 := hy _ (List.getElem_mem (show k < y.length by omega))
      clear hX; have hX := And.intro @hxl (And.intro @hyl (And.intro @g1 (@g2)))
      refine mW ?_; clear H; intro a w H
      refine mS ?_; refine mD 0 [] [] H ?_; clear H; intro gS H
      refine mTN 3 hN H ?_; clear H; intro a w H; simp only [List.drop_succ_cons, List.drop_zero, List.drop_nil]
      refine mTN 4 hN H ?_; clear H; intro a w H; simp only [List.drop_succ_cons, List.drop_zero, List.drop_nil]
      refine mT ?_; clear H; intro a w H
      refine v_drawNil H ?_; clear H; intro H
      refine mC H (fun hb => ?_) (fun hb => ?_)
      · have hne : ¬ x = y := fun e => by subst e; simp at hb
        rw [decide_eq_false hne]
        refine mW ?_; clear H; intro a w H
        refine wp_ret ?_; exact mEnd [] [] [.tmp 4] [_] hN hR H
      · have he : x[k] = y[k]'(by omega) := by simpa using hb
        refine mW ?_; clear H; intro a w H
        exact ⟨k + 1, ⟨hlt, by rw [List.take_succ_eq_append_getElem hlt, List.take_succ_eq_append_getElem (show k < y.length by omega), hkt, he]⟩, by omega, H.to 0 0 ⟨hN, hR⟩ ⟨rfl, rfl, rfl, rfl, trivial⟩ rfl rfl rfl rfl rfl⟩
    · have hge : k = x.length := by simp at hb; omega
      subst hge
      have he : x = y := by rw [List.take_length, hll, List.take_length] at hkt; exact hkt
      rw [decide_eq_true he]
      clear hX
      refine mW ?_; clear H; intro a w H
      refine wp_ret ?_; exact mEnd [] [] [.tmp 4] [_] hN hR H
theorem copyB_v (l : List UInt8) (hl : l.length ≤ 34359730000) : VC Try.prog 141 [.bs l none] [(5, l.length)] (.bs l (some 0)) := by
  refine mE Try.func141 ?_; intro N w0 a w hN hR H
  refine mW ?_; clear H; intro a w H
  simp only [List.replicate_zero, List.nil_append, List.length_nil, Nat.zero_add] at H
  refine wp_ret ?_; exact mEnd [] [0] [.tmp 2] [_] hN hR H
theorem sameP_eq (p q : List (List UInt8)) (n m : Nd) : (bif decide ((n.k.toNat : Int) = (m.k.toNat : Int)) && (decide (n.key = m.key) && (decide (n.v = m.v) && (decide (n.l = m.l) && decide (n.r = m.r)))) then decide (p = q) else false) = decide (Pf.mk p n = Pf.mk q m) := by
  obtain ⟨k1, a1, b1, c1, d1⟩ := n
  obtain ⟨k2, a2, b2, c2, d2⟩ := m
  have hk : ((k1.toNat : Int) = (k2.toNat : Int)) ↔ k1 = k2 := ⟨fun h => UInt8.toNat_inj.1 (by omega), fun h => by rw [h]⟩
  dsimp only
  by_cases h : (Pf.mk p ⟨k1, a1, b1, c1, d1⟩ = Pf.mk q ⟨k2, a2, b2, c2, d2⟩)
  · rw [decide_eq_true h]
    simp only [Pf.mk.injEq, Nd.mk.injEq] at h
    obtain ⟨rfl, rfl, rfl, rfl, rfl, rfl⟩ := h
    simp
  · rw [decide_eq_false h]
    rw [Bool.eq_false_iff]
    intro h2
    apply h
    rw [Bool.cond_eq_ite] at h2
    split at h2
    · rename_i h3
      simp only [Bool.and_eq_true, decide_eq_true_eq, hk] at h2 h3
      obtain ⟨rfl, rfl, rfl, rfl, rfl⟩ := h3
      rw [h2]
    · cases h2
set_option maxHeartbeats 1000000 in
theorem sameP_v (p q : Pf) (hp : p.wf) (hq : q.wf) (hl : p.s.length ≤ 34359730000) : VC Try.prog 32 [p.av, q.av] [] (.v (.bool (decide (p = q)))) := by
  have hs := sameH_v p.s q.s hp.s hq.s hl
  obtain ⟨p, n⟩ := p
  obtain ⟨q, m⟩ := q
  dsimp only at hs hl
  obtain ⟨g1, g2, g3, g4⟩ := id hp.e
  obtain ⟨f1, f2, f3, f4⟩ := id hq.e
  dsimp only at g1 g2 g3 g4 f1 f2 f3 f4
  refine mE Try.func32 ?_; intro N w0 a w hN hR H
  simp only [Pf.av, Nd.av] at H
  refine mW ?_; clear H; intro a w H
  refine mCallG [] [] (hs) H ?_; clear H; intro a w H; try refine wpList_nil ?_
  refine mW ?_; clear H; intro a w H
  rw [← sameP_eq] 
  refine wp_ret ?_; exact mEnd [] [] [.tmp 4] [_] hN hR H
end Go.Proofs.Ytigmpdhnhkdeiaa
/- CopyPairs: entries in new memory, which may be written. -/
namespace Go.Proofs.Ytigmpdhnhkdeiaa
open Go Go.RowKit
theorem copyB0_v (l : List UInt8) (hl : l.length ≤ 34359730000) : VC Try.prog 141 [.bs l none] [] (.bs l none) :=
  (copyB_v l hl).less1 rfl (fun az h => by cases h) rfl rfl
theorem pr_take (l : List Pr) (k : Nat) (h : k < l.length) : (l.take (k + 1)).map prA = (l.take k).map prA ++ [.st [.ba l[k].1, .bs l[k].2 none]] := by
  rw [List.take_succ_eq_append_getElem h, List.map_append]; rfl
set_option maxRecDepth 20000 in
set_option maxHeartbeats 1000000 in
theorem copyP_v (l : List Pr) (hk : K32 l) (hv : V0 l) (hl : l.length ≤ 34359730000) : VX Try.prog 71 [] [] [] [.sl prT (l.map prA) none] [(.vc 120 prT, .vc l.length (l.map prA))] [] [] (.vw 0 l.length l.length) := by
  have hlm : (l.map prA).length = l.length := List.length_map ..
  refine mE Try.func71 ?_; intro N w0 a w hN hR H
  refine mW ?_; clear H; intro a w H
  have H := v_nilV tab_ok H 3 120 (j := ti120) rfl (by decide) rfl
  refine v_loop (fun k : Nat => ⟨[(4, none, .v (.int .i64 (k : Int))), (3, none, .vw 0 k k), (2, none, .v (.slice none 0 0)), (0, none, .sl prT (l.map prA) none)], [(.vc 120 prT, .vc k ((l.take k).map prA))], [], []⟩) (fun k => k ≤ l.length) (fun k => l.length - k) 0 (Nat.zero_le _) (H.to 1 0 ⟨Nat.le_trans hN (by decide), hR⟩ ⟨rfl, rfl, rfl, rfl, trivial⟩ rfl rfl rfl rfl rfl) ?_
  clear H
  intro k a w hk1 H
  have htl : ((l.take k).map prA).length = k := by rw [List.length_map, List.length_take]; omega
  have hX := @hlm
  refine mW ?_; clear H; intro a w H
  refine mC H (fun hb => ?_) (fun hb => ?_)
  · have hlt : k < l.length := by rw [decide_eq_true_eq] at hb; omega
    clear hb
    have g1 := prA_get l k hlt
    have w1 := hk _ (List.getElem_mem hlt)
    have v1 := hv _ (List.getElem_mem hlt)
    have htk := pr_take l k hlt
    generalize l[k] = q at *
    obtain ⟨kb, vb⟩ := q
    dsimp only at g1 w1 v1 htk
    have hc := copyB0_v vb v1
    have htt : ((l.take k).map prA).take k = (l.take k).map prA := List.take_of_length_le (by omega)
    clear hX; have hX := And.intro @hlm (And.intro @g1 (And.intro @htl (@htt)))
    have hY := @w1
    refine mS ?_; refine mD 0 [11, 13, 14] [0, 1, 2, 3, 4, 5] H ?_; clear H; intro gS H
    refine mTN 4 hN H ?_; clear H; intro a w H; simp only [List.drop_succ_cons, List.drop_zero, List.drop_nil]
    refine mTN 5 hN H ?_; clear H; intro a w H; simp only [List.drop_succ_cons, List.drop_zero, List.drop_nil]
    refine mTN 2 hN H ?_; clear H; intro a w H; simp only [List.drop_succ_cons, List.drop_zero, List.drop_nil]
    refine mCallT [] [] (hc) H ?_; clear H; intro a w H
    refine mT ?_; clear H; intro a w H
    refine v_drawNil H ?_; clear H; intro H
    clear hX; have hX := @hlm
    clear hY
    refine mW ?_; clear H; intro a w H
    exact ⟨k + 1, hlt, by omega, H.to 1 0 ⟨Nat.le_trans hN (by decide), hR⟩ ⟨rfl, rfl, rfl, rfl, trivial⟩ (by rw [htk]; rfl) rfl rfl rfl rfl⟩
  · have hge : k = l.length := by rw [decide_eq_false_iff_not] at hb; omega
    subst hge
    rw [List.take_length] at H
    refine mW ?_; clear H; intro a w H
    refine wp_ret ?_; exact mEnd [0] [] [.tmp 2] [_] hN hR H
end Go.Proofs.Ytigmpdhnhkdeiaa
/- Proofs as bytes: there and back, in plain Lean. -/
namespace Go.Proofs.Ytigmpdhnhkdeiaa
open Go Go.RowKit
def Pf.pre (p : Pf) (r : List UInt8) : List UInt8 := [UInt8.ofNat (p.s.length / 256), UInt8.ofNat p.s.length] ++ (p.bits ++ (hashes p.s ++ r))
theorem Pf.chk_ok {p : Pf} (h : p.chk = 0) : p.s.length ≤ 256 ∧ p.e.ok ∧ p.e.k ≠ 2 := by
  unfold Pf.chk at h
  split at h
  · cases h
  · split at h
    · rename_i h1 h2; exact ⟨by omega, h2⟩
    · cases h
theorem ntext_len {n : Nd} (hw : n.wf) (h2 : n.k ≠ 2) : n.text.length = 1 ∨ n.text.length = 65 := by
  obtain ⟨h1, h3, _, _⟩ := hw
  unfold Nd.text
  split
  · right; simp; omega
  · left; first | rfl | (rw [if_neg h2]; rfl)
theorem plen (p : Pf) (hw : p.wf) (h : p.chk = 0) : 3 ≤ p.text.length ∧ p.text.length ≤ 8291 := by
  obtain ⟨h1, h2, h3⟩ := p.chk_ok h
  have hl := ntext_len hw.e h3
  have hbl : p.bits.length = (p.s.length + 7) / 8 := bitsB_len _ _
  have hh := hashes_len p.s hw.s
  simp only [Pf.text, List.length_append, List.length_cons, List.length_nil]
  omega
end Go.Proofs.Ytigmpdhnhkdeiaa
/- Ways among entries, plain: they lead up to the root, and say what is there; the error of node.Way. -/
namespace Go.Proofs.Ytigmpdhnhkdeiaa
open Go Go.RowKit
theorem endA_form (key : List UInt8) : ∀ (f d : Nat) (m : List En), endA key f d m = Nd.zero ∨ ∃ x ∈ m, endA key f d m = Nd.one x.1 x.2 := by
  have small : ∀ (m : List En), endB m = Nd.zero ∨ ∃ x ∈ m, endB m = Nd.one x.1 x.2 := fun m => by
    match m with
    | [] => exact .inl rfl
    | x :: _ => exact .inr ⟨x, List.mem_cons_self, rfl⟩
  intro f
  induction f with
  | zero => intro d m; exact small m
  | succ f ih =>
    intro d m
    by_cases h2 : m.length < 2
    · rw [endA_small _ _ _ _ h2]; exact small m
    · rw [endA, if_neg h2]
      rcases ih (d + 1) (half (bitN key d) d m) with h | ⟨x, hx, e⟩
      · exact .inl h
      · exact .inr ⟨x, (List.mem_filter.1 hx).1, e⟩
theorem wayE_wf (l : List Pr) (hk : K32 l) (hd : Dis l) (key : List UInt8) : (wayE l key).wf ∧ (wayE l key).chk = 0 := by
  obtain ⟨e1, e2⟩ := wayE_of l hk hd key
  have hf := endA_form key 256 0 (dgs l)
  rw [← e2] at hf
  have hl := wayA_le key 256 0 (dgs l)
  rw [← e1] at hl
  refine ⟨⟨fun h hh => wayA_w key 256 0 (dgs l) h (e1 ▸ hh), ?_⟩, ?_⟩
  · rcases hf with h | ⟨x, hx, h⟩
    · rw [h]; exact zero_wf
    · rw [h]
      obtain ⟨p, hp, rfl⟩ := List.mem_map.1 hx
      exact Nd.one_wf (hk p hp) (valH_len _)
  · unfold Pf.chk
    rw [if_neg (by omega), if_pos]
    rcases hf with h | ⟨x, hx, h⟩
    · rw [h]; exact ⟨zero_ok, by decide⟩
    · rw [h]; exact ⟨by simp [Nd.ok, Nd.bare, Nd.one], by simp [Nd.one]⟩
end Go.Proofs.Ytigmpdhnhkdeiaa
/- Entries in another order; both sides: in plain Lean. -/
namespace Go.Proofs.Ytigmpdhnhkdeiaa
open Go Go.RowKit
theorem chkP_iff : ∀ (ks : List (List UInt8)) (l : List Pr), chkP ks l = 0 ↔ Dis l ∧ (∀ x ∈ l, x.1 ∉ ks) ∧ ∀ x ∈ l, x.2.length ≤ 1024
  | _, [] => ⟨fun _ => ⟨List.Pairwise.nil, fun x hx => (by cases hx), fun x hx => (by cases hx)⟩, fun _ => rfl⟩
  | ks, p :: l => by
    have ih := chkP_iff (ks ++ [p.1]) l
    unfold chkP
    constructor
    · intro h
      split at h
      · cases h
      · rename_i h1
        split at h
        · cases h
        · rename_i h2
          obtain ⟨a1, a2, a3⟩ := ih.1 h
          refine ⟨List.pairwise_cons.2 ⟨fun y hy e => a2 y hy (by simp [e]), a1⟩, fun x hx => ?_, fun x hx => ?_⟩
          · rcases List.mem_cons.1 hx with rfl | hx
            · exact h2
            · exact fun hm => a2 x hx (List.mem_append_left _ hm)
          · rcases List.mem_cons.1 hx with rfl | hx
            · omega
            · exact a3 x hx
    · rintro ⟨a1, a2, a3⟩
      obtain ⟨b1, b2⟩ := List.pairwise_cons.1 a1
      have c1 := a2 p List.mem_cons_self
      have c2 := a3 p List.mem_cons_self
      rw [if_neg (by omega), if_neg c1]
      refine ih.2 ⟨b2, fun x hx hm => ?_, fun x hx => a3 x (List.mem_cons_of_mem _ hx)⟩
      rcases List.mem_append.1 hm with hm | hm
      · exact a2 x (List.mem_cons_of_mem _ hx) hm
      · exact b1 x hx (List.mem_singleton.1 hm).symm
theorem errP_iff (l : List Pr) : errP l = 0 ↔ l.length ≤ 4096 ∧ Dis l ∧ ∀ x ∈ l, x.2.length ≤ 1024 := by
  unfold errP
  split
  · exact ⟨fun h => (by cases h), fun h => (by omega)⟩
  · rw [chkP_iff]
    exact ⟨fun h => ⟨by omega, h.1, h.2.2⟩, fun h => ⟨h.2.1, fun x _ hm => (by cases hm), h.2.2⟩⟩
end Go.Proofs.Ytigmpdhnhkdeiaa
/- WalkTells: the law's walk (begun). -/
namespace Go.Proofs.Ytigmpdhnhkdeiaa
open Go Go.RowKit
theorem new_wf {n : Nat} (h1 : 0 < n) (h2 : n ≤ 65536) : (Slb.new n).wf := Slb.wf_at ⟨h1, h2⟩ (Nat.zero_le _) fun k x c hk => by
  have := (Slb.at_lt hk)
  have h0 : (Slb.new n).sl.length = 0 := rfl
  omega
theorem Is.root {s : Slb} {l : List Pr} {h : Int} (hi : Is s 256 0 l h) (hs : Sep 0 (dgs l)) : s.rootE h = 0 := by
  unfold Slb.rootE
  by_cases hne : l = []
  · subst hne
    have e : h = 0 := (Is.small (by simp)).1 hi
    rw [if_pos e]
  · obtain ⟨x, c, h1, h2⟩ := hi.info hs rfl hne
    obtain ⟨g1, g2⟩ := Slb.get_at h1
    have h0 : h ≠ 0 := by have := (Slb.at_lt h1).1; omega
    rw [if_neg h0, if_neg (by rw [g2]; decide), g1, if_neg]
    rintro ⟨e1, e2⟩
    by_cases h3 : 2 ≤ l.length
    · exact e2 (h2.big h3).2
    · rw [h2.one (by omega)] at e1; cases e1
/-- What is found under a key is what stands at the way's end. -/
theorem look_end {s : Slb} {l m : List Pr} {key : List UInt8} {E : Int} (hd : Dis l) (hm : m.length < 2) (hi : IsB s m E) (h1 : ∀ x ∈ m, x ∈ l) (h2 : ∀ x ∈ l, x.1 = key → x ∈ m) :
    lookP l key = if (s.get_ E).k = 1 ∧ (s.get_ E).key = key then some (s.get_ E).val else none := by
  match m, hm with
  | [], _ =>
    have : E = 0 := hi
    rw [this, Slb.get_zero, if_neg (fun e => absurd e.1 (by decide))]
    exact (lookP_none _ _).2 fun y hy e => by cases h2 y hy e
  | [x], _ =>
    obtain ⟨hd', c, h3⟩ := hi
    rw [(Slb.get_at h3).1]
    by_cases hx : x.1 = key
    · rw [if_pos ⟨rfl, hx⟩]
      have hxl := h1 x List.mem_cons_self
      cases hq : lookP l key with
      | none => exact absurd hx ((lookP_none _ _).1 hq x hxl)
      | some v =>
        unfold lookP at hq
        rw [Option.map_eq_some_iff] at hq
        obtain ⟨y, hy1, hy2⟩ := hq
        have hyl := List.mem_of_find?_eq_some hy1
        have hyk : y.1 = key := by have := List.find?_some hy1; exact of_decide_eq_true this
        have := List.mem_singleton.1 (h2 y hyl hyk)
        rw [← hy2, this]; rfl
    · rw [if_neg (fun e => hx e.2)]
      exact (lookP_none _ _).2 fun y hy e => hx (by rw [← List.mem_singleton.1 (h2 y hy e)]; exact e)
theorem end_k {s : Slb} {m : List Pr} {E : Int} (hm : m.length < 2) (hi : IsB s m E) : (s.get_ E).k = (s.nd E).k ∧ (E = 0 ↔ (s.nd E).k = 0) := by
  match m, hm with
  | [], _ =>
    have e : E = 0 := hi
    unfold Slb.nd
    rw [e, Slb.get_zero]
    exact ⟨rfl, fun _ => rfl, fun _ => rfl⟩
  | [x], _ =>
    obtain ⟨hd, c, h1⟩ := hi
    have := (Slb.at_lt h1).1
    unfold Slb.nd
    rw [(Slb.get_at h1).1]
    exact ⟨rfl, fun e => by omega, fun e => absurd (show (1 : UInt8) = 0 from e) (by decide)⟩
theorem Slb.wayH_le (s : Slb) (key : List UInt8) : ∀ (f : Nat) (h : Int), (s.wayH key f h).length ≤ f
  | 0, h => Nat.zero_le _
  | f + 1, h => by
    rw [Slb.wayH]
    split
    · have := Slb.wayH_le s key f (s.oth key h).1
      rw [List.length_cons]; omega
    · exact Nat.zero_le _
theorem Slb.chn_go {s : Slb} {key : List UInt8} {E : Int} {d : Nat} {h : Int} {W : List Int} (hd : d < W.length) (hc : s.chn key E d h (W.drop d)) : W[d] = h ∧ s.ok_ h = true ∧ (s.get_ h).d = (d : Int) ∧ s.chn key E (d + 1) (s.oth key h).1 (W.drop (d + 1)) := by
  rw [List.drop_eq_getElem_cons hd] at hc
  exact hc
theorem Slb.oth_d {s : Slb} {key : List UInt8} {d : Nat} {h : Int} (hd : d < 256) (h1 : s.ok_ h = true) (h2 : (s.get_ h).d = (d : Int)) : (s.oth key h).1 = if pbit key (d : Int) = 1 then (s.get_ h).r else (s.get_ h).l := by
  have hp : pbit key (d : Int) = if bitN key d then 1 else 0 := by rw [pbit, if_pos (by omega), Int.toNat_natCast]
  unfold Slb.oth
  rw [if_pos h1, h2, hp]
  cases bitN key d <;> rfl
attribute [local irreducible] wpT
set_option maxRecDepth 20000 in
set_option maxHeartbeats 4000000 in
theorem walkTells_v (l : List Pr) (hK : K32 l) (hl : l.length ≤ 34359730000) (hv : ∀ x ∈ l, x.2.length ≤ 34359730000) (key : List UInt8) (hk : key.length = 32) (odd : Int) : VC Try.prog 11 [.sl prT (l.map prA) none, .ba key, .v (.int .i64 odd)] [] (.v (.bool true)) := by
  obtain ⟨F, k1, k2, k3, k4, hfew⟩ := few_v l hK hl hv
  have hsep := sep_of F k1 k2 0 (fun x _ y _ t ht => absurd ht (Nat.not_lt_zero t))
  have hnew := stoNew_v 8192 (by decide) (by decide)
  obtain ⟨t, h, B, A, C⟩ := build_v 256 0 F (Slb.new 8192) rfl hsep k1 k4 (by omega) (new_wf (by decide) (by decide)) (all_new _) rfl rfl (by show 0 + F.length * 257 ≤ 8192; omega)
  have hw := ways t key 256 0 F h rfl hsep B.is
  have hroot := B.is.root hsep
  have hh := handles_v t B.wf key hk h hroot hw.ends
  have hF : (F.map prA).length = F.length := List.length_map ..
  have hcp := copyP_v F k1 (fun x hx => Nat.le_trans (k4 x hx) (by decide)) (by omega)
  have htk : (F.map prA).take F.length = F.map prA := List.take_of_length_le (by omega)
  unfold bldC at C
  obtain ⟨w1, w2, w3, m, m1, m2, m3, m4, m5⟩ := hw
  have hle := look_end k2 m1 m2 m3 m4
  have hnd : t.nd (t.endH key 256 h) = endA key 256 0 (dgs F) := by rw [m5]; exact endB_nd m1 m2
  obtain ⟨q1, q2⟩ := wayE_of F k1 k2 key
  obtain ⟨q3, q4⟩ := wayE_wf F k1 k2 key
  have hWl : (t.wayH key 256 h).length = (wayE F key).s.length := by rw [q1, ← w2]; unfold Slb.dsH; rw [List.length_map]
  have hWle : (t.wayH key 256 h).length ≤ 256 := by rw [hWl, q1]; exact wayA_le key 256 0 (dgs F)
  have hwr := wayR_v F k1 (by omega) key hk ((errP_iff F).2 ⟨by omega, k2, k4⟩)
  have hek := end_k m1 m2
  rw [← q2] at hnd
  rw [hnd] at hek
  rw [← q1] at w2
  have hfr := findR_v F k1 (by omega) (fun x hx => Nat.le_trans (k4 x hx) (by decide)) key hk
  generalize t.wayH key 256 h = W at *
  generalize t.endH key 256 h = E at *
  have hwv := way_v t B.wf key hk h E W hWle hh
  rw [w2, hnd] at hwv
  have hdv := depth_v t key hk h E _ _ (List.length_map ..) (by omega) hh
  simp only [Slb.sx] at hwv hdv
  have hfdN := find_v t B.wf key hk h E _ _ hh
  have hfdY := findY_v t B.wf key hk h E _ _ hh
  simp only [Slb.sx] at hnew C hh
  refine mE Try.func11 ?_; intro N w0 a w hN hR H
  have hX := And.intro @hk (@hF)
  refine mW ?_; clear H; intro a w H
  refine mCall [] [] (hfew) H ?_; clear H; intro a w H; try refine wpList_nil ?_
  refine mW ?_; clear H; intro a w H
  refine mCall [] [] (hnew) H ?_; clear H; intro a w H; try refine wpList_nil ?_
  refine mW ?_; clear H; intro a w H
  refine mC H (fun hb => ?_) (fun hb => ?_)
  · simp at hb
  · clear hb
    refine mW ?_; clear H; intro a w H
    refine mCall [] [] (hcp) H ?_; clear H; intro a w H; try refine wpList_nil ?_
    replace H := v_frz H 55 5 (Nat.le_trans hN (Nat.le_of_ble_eq_true rfl)) rfl (by omega) rfl
    simp only [nilT, htk, Nat.reduceEqDiff, reduceIte] at H
    refine mCall [1, 2, 3, 4] [] (C) H ?_; clear H; intro a w H; try refine wpList_nil ?_
    refine mW ?_; clear H; intro a w H
    refine mC H (fun hb => ?_) (fun hb => ?_)
    · simp at hb
    · clear hb
      replace H := mK [0, 2, 4, 7, 9] 6 1 hN hR H
      replace H := v_ref H 4 0 (Nat.le_trans hN (Nat.le_of_ble_eq_true rfl)) rfl rfl rfl
      simp only [nilT, strip, Nat.reduceEqDiff, reduceIte] at H
      revert a w
      apply cutG7 (R := fun a w => Rel Try.prog w0 N Try.f11.ntmps ⟨[(0, none, .sl prT (F.map prA) (some 0)), (2, none, .v (.int .i64 odd)), (4, none, .ref (.ba 32) (.ba key)), (7, none, .ptr 1 []), (9, none, .v (.int .i64 h)), (11, none, .bs ((lookP F key).getD []) (some 1)), (12, none, .v (.bool (lookP F key).isSome)), (13, none, errv 0), (14, none, .bs ((lookP F key).getD []) (some 2)), (15, none, .v (.bool (lookP F key).isSome))], [(.ba 32, .ba key), (stoT, .st [.ptr 2 []]), (slbT, .st [.vw 3 t.γ t.sl.length, .vw 4 t.δ t.m, .v (.int .i64 (t.room : Int)), .v (.int .i64 (t.used : Int))]), (.vc 372 sltT, .vc t.γ (t.sl.map slA)), (.vc 3 .sc, .vc t.δ (t.fs.map inA)), (.vc 120 prT, .vc F.length (F.map prA))], [0, 5], [(120, F.length), (5, ((lookP F key).getD []).length), (5, ((lookP F key).getD []).length)]⟩ a w)
      · intro key1 a w H
        cases ho : lookP F key with
        | none =>
          rw [ho] at hfr
          have hE : ¬ ((t.get_ E).k = 1 ∧ (t.get_ E).key = key) := fun e => by rw [hle, if_pos e] at ho; cases ho
          have hfd := hfdN hE
          simp only [Slb.sx] at hfd
          refine mW ?_; clear H; intro a w H
          refine mCall [1, 2, 3, 4] [] (hfd) H ?_; clear H; intro a w H; try refine wpList_nil ?_
          refine mW ?_; clear H; intro a w H
          refine mCall [] [] (hfr) H ?_; clear H; intro a w H; try refine wpList_nil ?_
          (try refine wp_region_lit ?_); refine mN 5 hN H ?_; clear H; intro a w H
          refine mS ?_
          replace H := v_nilB tab_ok H 11 5 (j := ti5) rfl (by decide) rfl
          simp only [nilT, Nat.reduceEqDiff, reduceIte] at H
          replace H := v_nilB tab_ok H 14 5 (j := ti5) rfl (by decide) rfl
          simp only [nilT, Nat.reduceEqDiff, reduceIte] at H
          exact key1 _ _ (H.to 6 3 ⟨Nat.le_trans hN (Nat.le_of_ble_eq_true rfl), Nat.le_trans hR (Nat.zero_le _)⟩ ⟨rfl, rfl, rfl, rfl, rfl, (by rw [ho]; rfl), (by rw [ho]; rfl), rfl, (by rw [ho]; rfl), (by rw [ho]; rfl), trivial⟩ rfl (by rw [ho]; rfl) rfl rfl rfl)
        | some v =>
          rw [ho] at hfr
          have hE : (t.get_ E).k = 1 ∧ (t.get_ E).key = key := by
            by_cases e : (t.get_ E).k = 1 ∧ (t.get_ E).key = key
            · exact e
            · rw [hle, if_neg e] at ho; cases ho
          have ho2 := ho
          rw [hle, if_pos hE] at ho2
          have hvv : (t.get_ E).val = v := by injection ho2
          have hvl : v.length ≤ 100000 := by
            by_cases e : v.length ≤ 100000
            · exact e
            · exfalso
              unfold lookP at ho
              rw [Option.map_eq_some_iff] at ho
              obtain ⟨y, hy1, hy2⟩ := ho
              have := k4 y (List.mem_of_find?_eq_some hy1)
              rw [hy2] at this; omega
          have hfd := hfdY hE (by rw [hvv]; exact hvl)
          rw [hvv] at hfd
          simp only [Slb.sx] at hfd
          refine mW ?_; clear H; intro a w H
          refine mCall [1, 2, 3, 4] [] (hfd) H ?_; clear H; intro a w H; try refine wpList_nil ?_
          refine mW ?_; clear H; intro a w H
          refine mCall [] [] (hfr) H ?_; clear H; intro a w H; try refine wpList_nil ?_
          (try refine wp_region_lit ?_); refine mN 5 hN H ?_; clear H; intro a w H
          refine mS ?_
          exact key1 _ _ (H.to 6 3 ⟨Nat.le_trans hN (Nat.le_of_ble_eq_true rfl), Nat.le_trans hR (Nat.zero_le _)⟩ ⟨rfl, rfl, rfl, rfl, rfl, (by rw [ho]; rfl), (by rw [ho]; rfl), rfl, (by rw [ho]; rfl), (by rw [ho]; rfl), trivial⟩ rfl (by rw [ho]; rfl) rfl rfl rfl)
      intro a w H
      clear hfdN hfdY hfr hle hnew C hcp hfew
      generalize (lookP F key).getD [] = V at *
      generalize (lookP F key).isSome = b at *
      generalize wayE F key = Q at *
      obtain ⟨n1, n2, n3, n4⟩ := q3.e
      have hWm : (W.map inA).length = Q.s.length := by rw [List.length_map]; exact hWl
      have hbs := bas_len Q.s
      simp only [Nd.av] at hwv hwr
      clear hX; have hX := And.intro @hk (And.intro @hF (And.intro @hWm (And.intro @hbs (And.intro @n1 (And.intro @n2 (And.intro @n3 (@n4)))))))
      refine mW ?_; clear H; intro a w H
      refine mCall [1, 2, 3, 4] [] (hwv) H ?_; clear H; intro a w H; try refine wpList_nil ?_
      refine mW ?_; clear H; intro a w H
      refine mCall [] [] (hwr) H ?_; clear H; intro a w H; try refine wpList_nil ?_
      refine mW ?_; clear H; intro a w H
      refine mCall [1, 2, 3, 4] [] (hh) H ?_; clear H; intro a w H; try refine wpList_nil ?_
      refine mW ?_; clear H; intro a w H
      refine mCall [1, 2, 3, 4] [] (hdv) H ?_; clear H; intro a w H; try refine wpList_nil ?_
      (try refine wp_region_lit ?_); refine mN 5 hN H ?_; clear H; intro a w H
      refine mS ?_
      replace H := mK [0, 2, 4, 7, 9, 11, 12, 13, 14, 15, 16, 17, 18, 20, 21, 22, 23, 24] 8 6 hN hR H
      have hkd := stoKind_v t B.wf E
      have hsb := same_v V V
      have hsp := sameP_v Q Q q3 q3 (by omega)
      have hbV : (V == V) = true := beq_self_eq_true V
      rw [hbV] at hsb
      rw [decide_eq_true rfl] at hsp
      rw [hek.1] at hkd
      simp only [Slb.sx] at hkd
      simp only [Pf.av, Nd.av] at hsp
      replace H := v_sub H 11 (x := .bs V (some 1)) (y := .bs V none) rfl rfl (fun az h => by cases h) rfl
      replace H := v_sub H 14 (x := .bs V (some 2)) (y := .bs V none) rfl rfl (fun az h => by cases h) rfl
      replace H := v_sub H 20 (x := .sl .sc (W.map inA) (some 5)) (y := .sl .sc (W.map inA) none) ⟨rfl, rfl⟩ rfl (fun az h => by cases h) rfl
      simp only [nilT, Nat.reduceEqDiff, reduceIte] at H
      replace H := v_subB H 6 (y := .st [.sl (.ba 32) (bas Q.s) none, .st [.v (B8 Q.e.k), .ba Q.e.key, .ba Q.e.v, .ba Q.e.l, .ba Q.e.r]]) rfl ⟨⟨rfl, rfl⟩, sub_refl _ _, trivial⟩
      replace H := v_subB H 7 (y := .st [.sl (.ba 32) (bas Q.s) none, .st [.v (B8 Q.e.k), .ba Q.e.key, .ba Q.e.v, .ba Q.e.l, .ba Q.e.r]]) rfl ⟨⟨rfl, rfl⟩, sub_refl _ _, trivial⟩
      simp only [List.set_cons_succ, List.set_cons_zero] at H
      replace H := v_ref H 18 7 (Nat.le_trans hN (Nat.le_of_ble_eq_true rfl)) rfl rfl rfl
      replace H := v_ref H 16 6 (Nat.le_trans hN (Nat.le_of_ble_eq_true rfl)) rfl rfl rfl
      simp only [nilT, strip, Nat.reduceEqDiff, reduceIte] at H
      clear hX; have hX := And.intro @hk (And.intro @hF (And.intro @hWm (And.intro @hbs (And.intro @hWl (And.intro @n1 (And.intro @n2 (And.intro @n3 (@n4))))))))
      refine mS ?_; refine mD 0 [22, 28, 48] [49, 50, 51] H ?_; clear H; intro gS H
      refine mTN 2 hN H ?_; clear H; intro a w H; simp only [List.drop_succ_cons, List.drop_zero, List.drop_nil]
      refine mTN 2 hN H ?_; clear H; intro a w H; simp only [List.drop_succ_cons, List.drop_zero, List.drop_nil]
      refine mTN 2 hN H ?_; clear H; intro a w H; simp only [List.drop_succ_cons, List.drop_zero, List.drop_nil]
      refine mTN 4 hN H ?_; clear H; intro a w H; simp only [List.drop_succ_cons, List.drop_zero, List.drop_nil]
      refine mTN 4 hN H ?_; clear H; intro a w H; simp only [List.drop_succ_cons, List.drop_zero, List.drop_nil]
      refine mTN 1 hN H ?_; clear H; intro a w H; simp only [List.drop_succ_cons, List.drop_zero, List.drop_nil]
      refine mTN 3 hN H ?_; clear H; intro a w H; simp only [List.drop_succ_cons, List.drop_zero, List.drop_nil]
      have hbb : decide (b = b) = true := decide_eq_true rfl
      try simp only [hbb, Bool.not_true] at H
      refine mTN 1 hN H ?_; clear H; intro a w H; simp only [List.drop_succ_cons, List.drop_zero, List.drop_nil]
      refine mTN 1 hN H ?_; clear H; intro a w H; simp only [List.drop_succ_cons, List.drop_zero, List.drop_nil]
      refine mTN 2 hN H ?_; clear H; intro a w H; simp only [List.drop_succ_cons, List.drop_zero, List.drop_nil]
      refine mCallTG [] [] (hsb) H ?_; clear H; intro a w H
      refine mTN 2 hN H ?_; clear H; intro a w H; simp only [List.drop_succ_cons, List.drop_zero, List.drop_nil]
      refine mTN 1 hN H ?_; clear H; intro a w H; simp only [List.drop_succ_cons, List.drop_zero, List.drop_nil]
      refine mTN 2 hN H ?_; clear H; intro a w H; simp only [List.drop_succ_cons, List.drop_zero, List.drop_nil]
      refine mCallTG [] [] (hsp) H ?_; clear H; intro a w H
      refine mTN 2 hN H ?_; clear H; intro a w H; simp only [List.drop_succ_cons, List.drop_zero, List.drop_nil]
      refine mTN 1 hN H ?_; clear H; intro a w H; simp only [List.drop_succ_cons, List.drop_zero, List.drop_nil]
      refine mTN 2 hN H ?_; clear H; intro a w H; simp only [List.drop_succ_cons, List.drop_zero, List.drop_nil]
      refine mTN 2 hN H ?_; clear H; intro a w H; simp only [List.drop_succ_cons, List.drop_zero, List.drop_nil]
      refine mTN 2 hN H ?_; clear H; intro a w H; simp only [List.drop_succ_cons, List.drop_zero, List.drop_nil]
      refine mTN 1 hN H ?_; clear H; intro a w H; simp only [List.drop_succ_cons, List.drop_zero, List.drop_nil]
      refine mTN 1 hN H ?_; clear H; intro a w H; simp only [List.drop_succ_cons, List.drop_zero, List.drop_nil]
      refine mTN 4 hN H ?_; clear H; intro a w H; simp only [List.drop_succ_cons, List.drop_zero, List.drop_nil]
      refine mTN 1 hN H ?_; clear H; intro a w H; simp only [List.drop_succ_cons, List.drop_zero, List.drop_nil]
      refine mTN 1 hN H ?_; clear H; intro a w H; simp only [List.drop_succ_cons, List.drop_zero, List.drop_nil]
      refine mTN 2 hN H ?_; clear H; intro a w H; simp only [List.drop_succ_cons, List.drop_zero, List.drop_nil]
      refine mCallTG [1, 2, 3, 4] [] (hkd) H ?_; clear H; intro a w H
      refine mTN 3 hN H ?_; clear H; intro a w H; simp only [List.drop_succ_cons, List.drop_zero, List.drop_nil]
      refine mTN 1 hN H ?_; clear H; intro a w H; simp only [List.drop_succ_cons, List.drop_zero, List.drop_nil]
      refine mTN 1 hN H ?_; clear H; intro a w H; simp only [List.drop_succ_cons, List.drop_zero, List.drop_nil]
      refine mTN 1 hN H ?_; clear H; intro a w H; simp only [List.drop_succ_cons, List.drop_zero, List.drop_nil]
      refine mTN 2 hN H ?_; clear H; intro a w H; simp only [List.drop_succ_cons, List.drop_zero, List.drop_nil]
      refine mTN 4 hN H ?_; clear H; intro a w H; simp only [List.drop_succ_cons, List.drop_zero, List.drop_nil]
      refine mTN 1 hN H ?_; clear H; intro a w H; simp only [List.drop_succ_cons, List.drop_zero, List.drop_nil]
      refine mTN 1 hN H ?_; clear H; intro a w H; simp only [List.drop_succ_cons, List.drop_zero, List.drop_nil]
      refine v_drawNil H ?_; clear H; intro H
      have h13 : decide (E = 0) = decide ((Q.e.k.toNat : Int) = 0) := by
        rw [decide_eq_decide, hek.2]
        exact ⟨fun e => by rw [e]; rfl, fun e => UInt8.toNat_inj.1 (by have : ((0 : UInt8).toNat : Int) = 0 := rfl; omega)⟩
      refine mC H (fun hb => ?_) (fun hb => ?_)
      · exfalso
        simp [h13] at hb
      · clear hb
        clear hsb hsp hwv hwr hdv h13 hbV hbb
        replace H := mK [2, 4, 7, 9, 20, 21] 5 0 hN hR H
        replace H := v_fz H
        simp only [List.length_cons, List.length_nil, Nat.reduceAdd, List.filter_cons, List.filter_nil, Nat.reduceLT, decide_true, decide_false, if_true, if_false, Bool.false_eq_true] at H
        have hkdp := stoDepth_v t B.wf
        have hsds := stoSides_v t B.wf
        have hbit := bit_v key hk
        have hgo := fun d x => Slb.chn_go (s := t) (key := key) (E := E) (d := d) (h := x) (W := W)
        have hoth := fun d x => Slb.oth_d (s := t) (key := key) (d := d) (h := x)
        have hWi := inA_get W
        have hWm' : (W.map inA).length = W.length := List.length_map ..
        simp only [Slb.sx] at hkdp hsds
        refine mS ?_
        clear hX; have hX := And.intro @hk (@hWm')
        (try refine wp_region_lit ?_); refine mN 2 hN H ?_; clear H; intro a w H
        refine mS ?_
        (try refine wp_region_lit ?_); refine mN 1 hN H ?_; clear H; intro a w H
        refine mS ?_
        refine v_loop (fun i : Nat × Int => ⟨[(26, none, .v (.int .i64 (i.1 : Int))), (25, none, .v (.int .i64 i.2)), (2, none, .v (.int .i64 odd)), (4, none, .ref (.ba 32) (.ba key)), (7, none, .ptr 1 []), (20, none, .sl .sc (W.map inA) none), (21, none, .v (.int .i64 E))],
          [(.ba 32, .ba key), (stoT, .st [.ptr 2 []]), (slbT, .st [.vw 3 t.γ t.sl.length, .vw 4 t.δ t.m, .v (.int .i64 (t.room : Int)), .v (.int .i64 (t.used : Int))]), (.vc 372 sltT, .vc t.γ (t.sl.map slA)), (.vc 3 .sc, .vc t.δ (t.fs.map inA))], [0], []⟩)
          (fun i => i.1 ≤ W.length ∧ t.chn key E i.1 i.2 (W.drop i.1)) (fun i => W.length - i.1) (0, h) ⟨Nat.zero_le _, w3⟩
          (H.to 5 0 ⟨Nat.le_trans hN (Nat.le_of_ble_eq_true rfl), Nat.le_trans hR (Nat.zero_le _)⟩ ⟨rfl, rfl, rfl, rfl, rfl, rfl, rfl, trivial⟩ rfl rfl rfl rfl rfl) ?_
        clear H
        rintro ⟨d, x⟩ a w ⟨hd1, hd2⟩ H
        dsimp only at hd1 hd2 H
        refine mW ?_; clear H; intro a w H
        refine mC H (fun hb => ?_) (fun hb => ?_)
        · have hlt : d < W.length := by rw [decide_eq_true_eq] at hb; omega
          clear hb
          obtain ⟨c1, c2, c3, c4⟩ := hgo d x hlt hd2
          have c5 := hoth d x (by omega) c2 c3
          have c6 := hWi d hlt
          rw [c1] at c6
          have c7 := hkdp x
          rw [c2, c3, if_pos rfl] at c7
          have c8 := hsds x
          have c9 := hbit (d : Int)
          have c10 : decide (x = x) = true := decide_eq_true rfl
          have c11 : decide ((d : Int) = (d : Int)) = true := decide_eq_true rfl
          refine mS ?_
          clear hX; have hX := And.intro @hk (And.intro @hWm' (@c6))
          (try refine wp_region_lit ?_); refine mN 4 hN H ?_; clear H; intro a w H
          (try refine wp_region_lit ?_); refine mN 2 hN H ?_; clear H; intro a w H
          try simp only [c10, Bool.not_true] at H
          (try refine wp_region_lit ?_); refine mN 1 hN H ?_; clear H; intro a w H
          (try refine wp_region_lit ?_); refine mN 2 hN H ?_; clear H; intro a w H
          refine mCallG [1, 2, 3, 4] [] (c7) H ?_; clear H; intro a w H; try refine wpList_nil ?_
          replace H := v_known H 179 false rfl
          simp only [unG, gdEq, Nat.reduceBEq, cond_true, cond_false] at H
          (try refine wp_region_lit ?_); refine mN 2 hN H ?_; clear H; intro a w H
          try simp only [c11, Bool.not_true] at H
          (try refine wp_region_lit ?_); refine mN 1 hN H ?_; clear H; intro a w H
          refine mS ?_
          refine mC H (fun hb => ?_) (fun hb => ?_)
          · exact absurd hb (by simp)
          · clear hb
            replace H := mK [2, 4, 7, 20, 21, 25, 26] 5 0 hN hR H
            clear hX; have hX := And.intro @hk (@hWm')
            refine mW ?_; clear H; intro a w H
            refine mCall [1, 2, 3, 4] [] (c8) H ?_; clear H; intro a w H; try refine wpList_nil ?_
            refine mW ?_; clear H; intro a w H
            refine mCall [] [] (c9) H ?_; clear H; intro a w H; try refine wpList_nil ?_
            refine mW ?_; clear H; intro a w H
            refine mC H (fun hb => ?_) (fun hb => ?_)
            · have c12 : (t.oth key x).1 = (t.get_ x).r := by rw [c5, if_pos (of_decide_eq_true hb)]
              rw [c12] at c4
              clear hb
              refine mW ?_; clear H; intro a w H
              rw [show (d : Int) + 1 = ((d + 1 : Nat) : Int) by omega] at H
              exact ⟨(d + 1, (t.get_ x).r), ⟨hlt, c4⟩, by dsimp only; omega, H.to 5 0 ⟨Nat.le_trans hN (Nat.le_of_ble_eq_true rfl), Nat.le_trans hR (Nat.zero_le _)⟩ ⟨rfl, rfl, rfl, rfl, rfl, rfl, rfl, trivial⟩ rfl rfl rfl rfl rfl⟩
            · have c12 : (t.oth key x).1 = (t.get_ x).l := by rw [c5, if_neg (of_decide_eq_false hb)]
              rw [c12] at c4
              clear hb
              refine mW ?_; clear H; intro a w H
              rw [show (d : Int) + 1 = ((d + 1 : Nat) : Int) by omega] at H
              exact ⟨(d + 1, (t.get_ x).l), ⟨hlt, c4⟩, by dsimp only; omega, H.to 5 0 ⟨Nat.le_trans hN (Nat.le_of_ble_eq_true rfl), Nat.le_trans hR (Nat.zero_le _)⟩ ⟨rfl, rfl, rfl, rfl, rfl, rfl, rfl, trivial⟩ rfl rfl rfl rfl rfl⟩
        · have hge : d = W.length := by rw [decide_eq_false_iff_not] at hb; omega
          clear hb
          subst hge
          rw [List.drop_length] at hd2
          have hxE : x = E := hd2
          subst hxE
          clear hgo hoth hWi hkdp hsds hbit hd2
          have hrt := stoRoot_v t B.wf odd
          simp only [Slb.sx] at hrt
          refine mS ?_
          replace H := mK [2, 4, 7, 21, 25] 5 0 hN hR H
          by_cases he : t.rootE odd = 0
          · rw [he] at hrt
            have hE2 := A.ends key odd he
            have ho := handles_v t B.wf key hk odd he hE2
            have hle2 := Slb.wayH_le t key 256 odd
            have hnw := nd_wf B.wf (t.endH key 256 odd)
            have hvl : (t.get_ (t.endH key 256 odd)).val.length ≤ 100000 := by
              cases hq : t.at_ (t.endH key 256 odd) with
              | none => unfold Slb.get_; rw [hq]; exact Nat.zero_le _
              | some y => rw [(Slb.get_at (x := y.1) (c := y.2) hq).1]; exact Nat.le_trans (A _ _ _ hq).1 (by decide)
            generalize t.wayH key 256 odd = W2 at *
            generalize t.endH key 256 odd = E2 at *
            have hov := way_v t B.wf key hk odd E2 W2 hle2 ho
            have hod := depth_v t key hk odd E2 _ _ (List.length_map ..) (by omega) ho
            have hofN := find_v t B.wf key hk odd E2 _ _ ho
            have hofY := fun q => findY_v t B.wf key hk odd E2 _ _ ho q hvl
            have hdsl : (t.dsH key W2).length = W2.length := by unfold Slb.dsH; rw [List.length_map]
            have hbs2 := bas_len (t.dsH key W2)
            have hWm2 : (W2.map inA).length = W2.length := List.length_map ..
            obtain ⟨v1, v2, v3, v4⟩ := hnw
            generalize t.dsH key W2 = D2 at *
            simp only [Slb.sx, Nd.av] at hov hod ho hofN hofY
            clear hX; have hX := And.intro @hk (And.intro @hWm' (And.intro @hWm2 (And.intro @hbs2 (And.intro @hdsl (And.intro @v1 (And.intro @v2 (And.intro @v3 (And.intro @v4 (@hvl)))))))))
            refine mW ?_; clear H; intro a w H
            refine mCall [1, 2, 3, 4] [] (hrt) H ?_; clear H; intro a w H; try refine wpList_nil ?_
            refine mW ?_; clear H; intro a w H
            revert a w
            apply cutG7 (R := fun a w => Rel Try.prog w0 N Try.f11.ntmps ⟨[(25, none, .v (.int .i64 x)), (2, none, .v (.int .i64 odd)), (4, none, .ref (.ba 32) (.ba key)), (7, none, .ptr 1 []), (21, none, .v (.int .i64 x)), (29, none, errv 0), (32, none, errv 0)],
              [(.ba 32, .ba key), (stoT, .st [.ptr 2 []]), (slbT, .st [.vw 3 t.γ t.sl.length, .vw 4 t.δ t.m, .v (.int .i64 (t.room : Int)), .v (.int .i64 (t.used : Int))]), (.vc 372 sltT, .vc t.γ (t.sl.map slA)), (.vc 3 .sc, .vc t.δ (t.fs.map inA))], [0], []⟩ a w)
            · intro key1 a w H
              by_cases q : (t.get_ E2).k = 1 ∧ (t.get_ E2).key = key
              · have hc := hofY q
                refine mCall [1, 2, 3, 4] [] (hc) H ?_; clear H; intro a w H; try refine wpList_nil ?_
                (try refine wp_region_lit ?_); refine mN 5 hN H ?_; clear H; intro a w H
                (try refine wp_region_lit ?_); refine mN 2 hN H ?_; clear H; intro a w H
                refine mS ?_
                exact key1 _ _ (H.to 5 0 ⟨Nat.le_trans hN (Nat.le_of_ble_eq_true rfl), Nat.le_trans hR (Nat.zero_le _)⟩ ⟨rfl, rfl, rfl, rfl, rfl, rfl, rfl, trivial⟩ rfl rfl rfl rfl rfl)
              · have hc := hofN q
                refine mCall [1, 2, 3, 4] [] (hc) H ?_; clear H; intro a w H; try refine wpList_nil ?_
                (try refine wp_region_lit ?_); refine mN 5 hN H ?_; clear H; intro a w H
                (try refine wp_region_lit ?_); refine mN 2 hN H ?_; clear H; intro a w H
                refine mS ?_
                exact key1 _ _ (H.to 5 0 ⟨Nat.le_trans hN (Nat.le_of_ble_eq_true rfl), Nat.le_trans hR (Nat.zero_le _)⟩ ⟨rfl, rfl, rfl, rfl, rfl, rfl, rfl, trivial⟩ rfl rfl rfl rfl rfl)
            intro a w H
            refine mW ?_; clear H; intro a w H
            refine mCall [1, 2, 3, 4] [] (hov) H ?_; clear H; intro a w H; try refine wpList_nil ?_
            refine mW ?_; clear H; intro a w H
            refine mCall [1, 2, 3, 4] [] (ho) H ?_; clear H; intro a w H; try refine wpList_nil ?_
            refine mW ?_; clear H; intro a w H
            refine mCall [1, 2, 3, 4] [] (hod) H ?_; clear H; intro a w H; try refine wpList_nil ?_
            refine mW ?_; clear H; intro a w H
            refine wp_ret ?_; exact mEnd [] [] [.tmp 6] [_] hN hR H
          · have ho := handlesN_v t B.wf key hk odd he
            have hov := wayN_v t key hk odd _ he ho
            have hod := depthN_v t key hk odd _ ho
            have hof := findN_v t B.wf key hk odd _ he ho
            generalize t.rootE odd = e at *
            simp only [Slb.sx, Nd.av, Nd.zero] at hov hod ho hof
            have hz2 := z32_len
            clear hX; have hX := And.intro @hk (And.intro @hWm' (@hz2))
            refine mW ?_; clear H; intro a w H
            refine mCall [1, 2, 3, 4] [] (hrt) H ?_; clear H; intro a w H; try refine wpList_nil ?_
            refine mW ?_; clear H; intro a w H
            refine mCall [1, 2, 3, 4] [] (hof) H ?_; clear H; intro a w H; try refine wpList_nil ?_
            refine mW ?_; clear H; intro a w H
            refine mCall [1, 2, 3, 4] [] (hov) H ?_; clear H; intro a w H; try refine wpList_nil ?_
            refine mW ?_; clear H; intro a w H
            refine mCall [1, 2, 3, 4] [] (ho) H ?_; clear H; intro a w H; try refine wpList_nil ?_
            refine mW ?_; clear H; intro a w H
            refine mCall [1, 2, 3, 4] [] (hod) H ?_; clear H; intro a w H; try refine wpList_nil ?_
            refine mW ?_; clear H; intro a w H
            refine wp_ret ?_; exact mEnd [] [] [.tmp 6] [_] hN hR H
end Go.Proofs.Ytigmpdhnhkdeiaa
/- Nodes among the arguments. -/
namespace Go.Proofs.Ytigmpdhnhkdeiaa
open Go Go.RowKit
end Go.Proofs.Ytigmpdhnhkdeiaa
/- Entries among the arguments. -/
namespace Go.Proofs.Ytigmpdhnhkdeiaa
open Go Go.RowKit
theorem pair_sh {M d : Nat} {a : AV} (h : Sh tab M (d + 2) 120 a) : ∃ p : Pr, a = prA p ∧ p.1.length = 32 ∧ p.2.length ≤ M := by
  obtain ⟨az, rfl, hs⟩ := h.rcd rfl rfl
  clear h; have h := hs; clear hs; dsimp only [List.map] at h
  obtain ⟨a0, r, rfl, h0, h⟩ := shl_cons h
  obtain ⟨a1, r, rfl, h1, h⟩ := shl_cons h
  obtain rfl := shl_nil h
  obtain ⟨k, rfl, hk⟩ := h0.arr rfl rfl
  obtain ⟨v, rfl, hv⟩ := h1.bytes rfl rfl rfl
  exact ⟨(k, v), rfl, hk, hv⟩
theorem pairs_sh {M d : Nat} {a : AV} (h : Sh tab M (d + 3) 86 a) : ∃ l : List Pr, a = .sl prT (l.map prA) none ∧ K32 l ∧ l.length ≤ M ∧ ∀ x ∈ l, x.2.length ≤ M := by
  obtain ⟨es, rfl, hl, he⟩ := h.slc rfl rfl rfl
  obtain ⟨ys, rfl, hy⟩ := sh_list (q := fun p : Pr => p.1.length = 32 ∧ p.2.length ≤ M) (f := prA) (fun x hx => pair_sh hx) he
  exact ⟨ys, rfl, fun x hx => (hy x hx).1, by simpa using hl, fun x hx => (hy x hx).2⟩
end Go.Proofs.Ytigmpdhnhkdeiaa
/- WalkTells, of all arguments of its types. -/
namespace Go.Proofs.Ytigmpdhnhkdeiaa
open Go Go.RowKit
theorem walkTells_az (az : List AV) (h : ShL (Sh tab 1048576 6) [86, 52, 3] az) : VC Try.prog 11 az [] (.v (.bool true)) := by
  obtain ⟨a0, r, rfl, h0, h⟩ := shl_cons h
  obtain ⟨a1, r, rfl, h1, h⟩ := shl_cons h
  obtain ⟨a2, r, rfl, h2, h⟩ := shl_cons h
  obtain rfl := shl_nil h
  obtain ⟨l, rfl, hk, hl, hv⟩ := pairs_sh h0
  obtain ⟨key, rfl, hkey⟩ := h1.arr rfl rfl
  obtain ⟨n, rfl, _⟩ := h2.int rfl rfl
  exact walkTells_v l hk (Nat.le_trans hl (by decide)) (fun x hx => Nat.le_trans (hv x hx) (by decide)) key hkey n
end Go.Proofs.Ytigmpdhnhkdeiaa
