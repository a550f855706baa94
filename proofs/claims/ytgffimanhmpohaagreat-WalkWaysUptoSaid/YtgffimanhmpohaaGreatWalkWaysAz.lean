/- The tree of entries in a store: what law08.Build makes. -/
import Derived.Test.YtgffimanhmpohaaGreatTreeW
import Derived.Test.YtgffimanhmpohaaGreatSrt4
import Derived.Test.YtgffimanhmpohaaGreatLess
import Derived.Test.YtgffimanhmpohaaGreatWayP
set_option linter.unusedSimpArgs false
set_option linter.unusedVariables false
namespace Go.Proofs.YtgffimanhmpohaaGreat
open Go Go.RowKit
theorem build_v : ∀ (f d : Nat) (l : List Pr) (s : Slb), f + d = 256 → Sep d (dgs l) → K32 l → (∀ x ∈ l, x.2.length ≤ 1024) → l.length ≤ 100000 → s.wf → s.All → s.m = 0 → s.used = s.sl.length → s.sl.length + l.length * (257 - d) ≤ s.room → ∃ t h, Built s t f d l h ∧ t.All ∧ bldC s t d l h := by
  intro f
  induction f with
  | zero =>
    intro d l s hfd hs hK hv hll hw hal hm hu hroom
    match l, hs, hK, hv, hll, hroom with
    | [], _, _, _, _, _ => exact ⟨s, 0, built_nil s hw hm hu 0 d, hal, bld_nil s d⟩
    | [x], _, hK, hv, _, hroom =>
      have hr := hw.room
      simp only [List.length_cons, List.length_nil] at hroom
      exact ⟨_, _, built_leaf s hw hm hu 0 d (by omega) x (hK x List.mem_cons_self) (by omega), hal.leaf _ _ (hv x List.mem_cons_self), bld_leaf s hw hm (by omega) d x (hK x List.mem_cons_self) (hv x List.mem_cons_self) (by omega)⟩
    | x :: y :: l, hs, _, _, _, _ => exact absurd (hs.deep (by omega)) (by rw [dgs_len]; simp)
  | succ f ih =>
    intro d l s hfd hs hK hv hll hw hal hm hu hroom
    have hr := hw.room
    by_cases h2 : l.length < 2
    · match l, h2, hK, hv, hll, hroom with
      | [], _, _, _, _, _ => exact ⟨s, 0, built_nil s hw hm hu _ d, hal, bld_nil s d⟩
      | [x], _, hK, hv, _, hroom =>
        simp only [List.length_cons, List.length_nil] at hroom
        exact ⟨_, _, built_leaf s hw hm hu _ d (by omega) x (hK x List.mem_cons_self) (by omega), hal.leaf _ _ (hv x List.mem_cons_self), bld_leaf s hw hm (by omega) d x (hK x List.mem_cons_self) (hv x List.mem_cons_self) (by omega)⟩
      | x :: y :: l, h2, _, _, _, _ => exact absurd h2 (by simp only [List.length_cons]; omega)
    · have hsum := halfP_sum d l
      have hd : d < 256 := by omega
      have hsA : Sep (d + 1) (dgs (halfP false d l)) := by rw [halfP_dgs]; exact hs.side false
      have hsB : Sep (d + 1) (dgs (halfP true d l)) := by rw [halfP_dgs]; exact hs.side true
      have hm1 := fun y hy => (halfP_bit (b := false) (d := d) (l := l) y hy).2
      have hm2 := fun y hy => (halfP_bit (b := true) (d := d) (l := l) y hy).2
      have e3 : 257 - d = (257 - (d + 1)) + 1 := by omega
      have hx : l.length * (257 - d) = (halfP false d l).length * (257 - (d + 1)) + (halfP true d l).length * (257 - (d + 1)) + l.length := by
        rw [e3, Nat.mul_add, Nat.mul_one, ← hsum, Nat.add_mul]
      obtain ⟨s1, a, B1, A1, C1⟩ := ih (d + 1) (halfP false d l) s (by omega) hsA (fun y hy => hK y (hm1 y hy)) (fun y hy => hv y (hm1 y hy)) (by omega) hw hal hm hu (by omega)
      obtain ⟨s2, b, B2, A2, C2⟩ := ih (d + 1) (halfP true d l) s1 (by omega) hsB (fun y hy => hK y (hm2 y hy)) (fun y hy => hv y (hm2 y hy)) (by omega) B1.wf A1 B1.m B1.used (by have := B1.len; rw [B1.room]; omega)
      have J := joined hs (by omega) (by omega) hll hw hroom B1 B2
      refine ⟨_, _, J.is, A2.join a b hfd hs J.is.is, ?_⟩
      exact bld_join s s1 s2 _ d hd l hK (by omega) hll a b C1 C2 _ (stoInner_v s2 B2.wf d (by omega) a b J.la J.lb J.fits B2.m J.used J.len J.sz _ (stoCallers_v _ J.w1 a (-1) J.c1) (stoCallers_v _ (Slb.call_wf J.w1 _ _) b (-1) J.c2))
theorem all_new (n : Nat) : (Slb.new n).All := fun k x c hk => by
  have := (Slb.at_lt hk)
  have h0 : (Slb.new n).sl.length = 0 := rfl
  omega
/-- Whatever is a root comes to an end. -/
theorem Slb.All.ends {s : Slb} (ha : s.All) (key : List UInt8) (h : Int) (he : s.rootE h = 0) : s.ends key 256 h := by
  unfold Slb.rootE at he
  by_cases h0 : h = 0
  · subst h0
    exact (ways_b (s := s) key 256 0 (l := []) (by simp) rfl).ends
  · rw [if_neg h0] at he
    by_cases ho : s.ok_ h = false
    · rw [if_pos ho] at he; cases he
    · rw [if_neg ho] at he
      by_cases hk : (s.get_ h).k = 2
      · by_cases hd : (s.get_ h).d ≠ 0
        · rw [if_pos ⟨hk, hd⟩] at he; cases he
        · have ho2 : s.ok_ h = true := by simpa using ho
          obtain ⟨⟨x, c⟩, hx⟩ := Option.isSome_iff_exists.1 ho2
          obtain ⟨g1, g2⟩ := Slb.get_at hx
          rw [g1] at hk hd
          obtain ⟨f, d, l, e1, e2, e3, e4⟩ := (ha h x c hx).2 hk
          have hd0 : d = 0 := by
            have : x.d = 0 := by simpa using hd
            omega
          subst hd0
          have : f = 256 := by omega
          subst this
          exact (ways s key 256 0 l h rfl e2 e3).ends
      · exact fun e => absurd e hk
end Go.Proofs.YtgffimanhmpohaaGreat
/- The document's Find; law08.few. -/
namespace Go.Proofs.YtgffimanhmpohaaGreat
open Go Go.RowKit
def lookP (l : List Pr) (key : List UInt8) : Option (List UInt8) := (l.find? fun x => decide (x.1 = key)).map (·.2)
abbrev lookR : Option (List UInt8) → List (TypeId × Nat)
  | none => []
  | some v => [(5, v.length)]
abbrev lookA : Option (List UInt8) → AV
  | none => .tup [.v (.slice none 0 0), .v (.bool false)]
  | some v => .tup [.bs v (some 0), .v (.bool true)]
theorem lookP_drop (l : List Pr) (key : List UInt8) (k : Nat) (hk : k < l.length) : lookP (l.drop k) key = if l[k].1 = key then some l[k].2 else lookP (l.drop (k + 1)) key := by
  rw [List.drop_eq_getElem_cons hk]
  unfold lookP
  rw [List.find?_cons]
  by_cases h : l[k].1 = key
  · rw [decide_eq_true h, if_pos h]; rfl
  · rw [decide_eq_false h, if_neg h]
attribute [local irreducible] wpT
set_option maxRecDepth 20000 in
theorem findR_v (l : List Pr) (hK : K32 l) (hl : l.length ≤ 34359730000) (hv : ∀ x ∈ l, x.2.length ≤ 34359730000) (key : List UInt8) (hk : key.length = 32) : VC Tryz.prog 32 [.sl prT (l.map prA) none, .ba key] (lookR (lookP l key)) (lookA (lookP l key)) := by
  have hm : (l.map prA).length = l.length := List.length_map ..
  have h0 : lookP (l.drop 0) key = lookP l key := rfl
  generalize hF : lookP l key = F at *
  refine mE Tryz.func32 ?_; intro N w0 a w hN hR H
  have hX := And.intro @hk (@hm)
  refine mW ?_; clear H; intro a w H
  refine v_loop (fun k : Nat => ⟨[(6, none, .v (.int .i64 (k : Int))), (3, none, .ptr 0 []), (0, none, .sl prT (l.map prA) none)], [(.ba 32, .ba key)], [], []⟩) (fun k => k ≤ l.length ∧ lookP (l.drop k) key = F) (fun k => l.length - k) 0 ⟨Nat.zero_le _, h0⟩
    (H.to 1 0 ⟨Nat.le_trans hN (Nat.le_of_ble_eq_true rfl), Nat.le_trans hR (Nat.zero_le _)⟩ ⟨rfl, rfl, rfl, trivial⟩ rfl rfl rfl rfl rfl) ?_
  clear H
  intro k a w hk2 H
  obtain ⟨hk2, hk3⟩ := hk2
  refine mW ?_; clear H; intro a w H
  refine mC H (fun hb => ?_) (fun hb => ?_)
  · have hlt : k < l.length := by rw [decide_eq_true_eq] at hb; omega
    clear hb
    rw [lookP_drop l key k hlt] at hk3
    have g1 := prA_get l k hlt
    have w1 := hK _ (List.getElem_mem hlt)
    have w2 := hv _ (List.getElem_mem hlt)
    generalize l[k] = q at *
    obtain ⟨kb, vb⟩ := q
    dsimp only at g1 w1 w2 hk3
    clear hX; have hX := And.intro @hk (And.intro @hm (And.intro @g1 (@w1)))
    refine mS ?_; refine mD 1 [] [] H ?_; clear H; intro gS H
    refine mTN 3 hN H ?_; clear H; intro a w H; simp only [List.drop_succ_cons, List.drop_zero, List.drop_nil]
    refine mT ?_; clear H; intro a w H
    refine v_drawNil H ?_; clear H; intro H
    refine mC H (fun hb => ?_) (fun hb => ?_)
    · have e : kb = key := of_decide_eq_true hb
      clear hb
      rw [if_pos e] at hk3
      subst hk3
      refine mS ?_
      (try refine wp_region_lit ?_); refine mN 4 hN H ?_; clear H; intro a w H
      refine mW ?_; clear H; intro a w H
      refine wp_ret ?_; exact mEnd [] [0] [.tmp 4, .tmp 5] [_, _] hN hR H
    · have e : kb ≠ key := of_decide_eq_false hb
      clear hb
      rw [if_neg e] at hk3
      refine mW ?_; clear H; intro a w H
      rw [show (k : Int) + 1 = ((k + 1 : Nat) : Int) by omega] at H
      exact ⟨k + 1, ⟨hlt, hk3⟩, by omega, H.to 1 0 ⟨Nat.le_trans hN (Nat.le_of_ble_eq_true rfl), Nat.le_trans hR (Nat.zero_le _)⟩ ⟨rfl, rfl, rfl, trivial⟩ rfl rfl rfl rfl rfl⟩
  · have hge : k = l.length := by rw [decide_eq_false_iff_not] at hb; omega
    clear hb
    have hF2 : F = none := by rw [← hk3, hge, List.drop_length]; rfl
    subst hF2
    refine mW ?_; clear H; intro a w H
    refine wp_ret ?_; exact mEnd [] [] [.tmp 4, .tmp 5] [_, _] hN hR H
def fewP : List Pr → List Pr → List Pr
  | out, [] => out
  | out, x :: t => if out.length < 12 then fewP (if lookP out x.1 = none ∧ x.2.length ≤ 1024 then out ++ [x] else out) t else out
theorem lookP_none (l : List Pr) (key : List UInt8) : lookP l key = none ↔ ∀ y ∈ l, y.1 ≠ key := by
  unfold lookP
  rw [Option.map_eq_none_iff, List.find?_eq_none]
  exact ⟨fun h y hy e => h y hy (decide_eq_true e), fun h y hy e => h y hy (of_decide_eq_true e)⟩
structure FewI (l F : List Pr) (i : Nat × List Pr) : Prop where
  k : i.1 ≤ l.length
  f : fewP i.2 (l.drop i.1) = F
  n : i.2.length ≤ 12
  s : ∀ x ∈ i.2, x ∈ l
  v : ∀ x ∈ i.2, x.2.length ≤ 1024
  d : Dis i.2
theorem FewI.skip {l F out : List Pr} {k : Nat} (h : FewI l F (k, out)) (hk : k < l.length) (hn : out.length < 12) (hx : ¬ (lookP out l[k].1 = none ∧ l[k].2.length ≤ 1024)) : FewI l F (k + 1, out) := by
  obtain ⟨h1, h2, h3, h4, h5, h6⟩ := h
  dsimp only at h2
  rw [List.drop_eq_getElem_cons hk, fewP, if_pos hn, if_neg hx] at h2
  exact ⟨hk, h2, h3, h4, h5, h6⟩
theorem FewI.take {l F out : List Pr} {k : Nat} (h : FewI l F (k, out)) (hk : k < l.length) (hn : out.length < 12) (hx : lookP out l[k].1 = none ∧ l[k].2.length ≤ 1024) : FewI l F (k + 1, out ++ [l[k]]) := by
  obtain ⟨h1, h2, h3, h4, h5, h6⟩ := h
  dsimp only at h2 h3 h4 h5 h6
  rw [List.drop_eq_getElem_cons hk, fewP, if_pos hn, if_pos hx] at h2
  refine ⟨hk, h2, by dsimp only; rw [List.length_append]; simp; omega, fun x hx2 => ?_, fun x hx2 => ?_, ?_⟩
  · rcases List.mem_append.1 hx2 with h | h
    · exact h4 x h
    · rw [List.mem_singleton.1 h]; exact List.getElem_mem hk
  · rcases List.mem_append.1 hx2 with h | h
    · exact h5 x h
    · rw [List.mem_singleton.1 h]; exact hx.2
  · refine List.pairwise_append.2 ⟨h6, List.pairwise_singleton _ _, fun x hx2 y hy => ?_⟩
    rw [List.mem_singleton.1 hy]; exact (lookP_none _ _).1 hx.1 x hx2
theorem FewI.stop {l F out : List Pr} {k : Nat} (h : FewI l F (k, out)) (hx : ¬ (k < l.length ∧ out.length < 12)) : out = F := by
  have h2 := h.f
  have h1 := h.k
  dsimp only at h1 h2
  by_cases hk : k < l.length
  · rw [List.drop_eq_getElem_cons hk, fewP, if_neg (fun e => hx ⟨hk, e⟩)] at h2; exact h2
  · rw [show k = l.length by omega, List.drop_length, fewP] at h2; exact h2
set_option maxRecDepth 20000 in
set_option maxHeartbeats 2000000 in
theorem few_v (l : List Pr) (hK : K32 l) (hl : l.length ≤ 34359730000) (hv : ∀ x ∈ l, x.2.length ≤ 34359730000) : ∃ F, K32 F ∧ Dis F ∧ F.length ≤ 12 ∧ (∀ x ∈ F, x.2.length ≤ 1024) ∧ VC Tryz.prog 5 [.sl prT (l.map prA) none] [(53, F.length)] (.sl prT (F.map prA) (some 0)) := by
  obtain ⟨F, hF⟩ : ∃ F, F = fewP [] l := ⟨_, rfl⟩
  have hm0 : FewI l F (0, []) := ⟨Nat.zero_le _, hF.symm, by decide, fun _ h => (by cases h), fun _ h => (by cases h), List.Pairwise.nil⟩
  suffices h : (∃ k, FewI l F (k, F)) ∧ VC Tryz.prog 5 [.sl prT (l.map prA) none] [(53, F.length)] (.sl prT (F.map prA) (some 0)) by
    obtain ⟨⟨k, g⟩, hc⟩ := h
    exact ⟨F, fun x hx => hK x (g.s x hx), g.d, g.n, g.v, hc⟩
  refine ⟨?_, ?_⟩
  · clear hF
    have : ∀ n k out, l.length - k = n → FewI l F (k, out) → ∃ k, FewI l F (k, F) := by
      intro n
      induction n with
      | zero =>
        intro k out hn h
        have := h.stop (fun e => by omega)
        subst this; exact ⟨k, h⟩
      | succ n ih =>
        intro k out hn h
        have hk : k < l.length := by omega
        by_cases h12 : out.length < 12
        · by_cases hx : lookP out l[k].1 = none ∧ l[k].2.length ≤ 1024
          · exact ih (k + 1) _ (by omega) (h.take hk h12 hx)
          · exact ih (k + 1) _ (by omega) (h.skip hk h12 hx)
        · have := h.stop (fun e => h12 e.2)
          subst this; exact ⟨k, h⟩
    exact this _ 0 [] rfl hm0
  clear hF
  have hm : (l.map prA).length = l.length := List.length_map ..
  refine mE Tryz.func5 ?_; intro N w0 a w hN hR H
  have hX := @hm
  refine mW ?_; clear H; intro a w H
  replace H := v_nilE tab_ok H 3 53 prT (j := ti53) rfl (by decide) rfl
  simp only [nilT, Nat.reduceEqDiff, reduceIte] at H
  refine v_loop (fun i : Nat × List Pr => ⟨[(4, none, .v (.int .i64 (i.1 : Int))), (3, none, .sl prT (i.2.map prA) (some 0)), (0, none, .sl prT (l.map prA) none)], [], [], [(53, i.2.length)]⟩) (FewI l F) (fun i => l.length - i.1) (0, []) hm0
    (H.to 0 1 ⟨Nat.le_trans hN (Nat.le_of_ble_eq_true rfl), Nat.le_trans hR (Nat.zero_le _)⟩ ⟨rfl, rfl, rfl, trivial⟩ rfl rfl rfl rfl rfl) ?_
  clear H hm0
  rintro ⟨k, out⟩ a w hwy H
  dsimp only at H
  have hmo : (out.map prA).length = out.length := List.length_map ..
  have hn12 := hwy.n
  have hkl := hwy.k
  dsimp only at hn12 hkl
  clear hX; have hX := And.intro @hm (@hmo)
  refine mW ?_; clear H; intro a w H
  refine mC H (fun hb => ?_) (fun hb => ?_)
  · have hlt : k < l.length ∧ out.length < 12 := by
      by_cases e1 : k < l.length
      · refine ⟨e1, ?_⟩
        rw [decide_eq_true (show (k : Int) < (l.length : Int) by omega)] at hb
        have : decide ((out.length : Int) < 12) = true := hb
        rw [decide_eq_true_eq] at this; omega
      · rw [decide_eq_false (show ¬ (k : Int) < (l.length : Int) by omega)] at hb; cases hb
    clear hb
    obtain ⟨hlt, h12⟩ := hlt
    have g1 := prA_get l k hlt
    have w1 := hK _ (List.getElem_mem hlt)
    have w2 := hv _ (List.getElem_mem hlt)
    have hf := findR_v out (fun x hx => hK x (hwy.s x hx)) (by omega) (fun x hx => hv x (hwy.s x hx)) l[k].1 w1
    have hsk := fun h => hwy.skip hlt h12 h
    have htk := fun h => hwy.take hlt h12 h
    have hap := prs_app out l[k]
    generalize l[k] = q at *
    obtain ⟨kb, vb⟩ := q
    dsimp only at g1 w1 w2 hf hsk htk hap
    refine mS ?_
    clear hX; have hX := And.intro @hm (And.intro @hmo (And.intro @g1 (@w1)))
    (try refine wp_region_lit ?_); refine mN 4 hN H ?_; clear H; intro a w H
    refine mW ?_; clear H; intro a w H
    cases hq : lookP out kb with
    | none =>
      rw [hq] at hf hsk htk
      refine mCall [] [] (hf) H ?_; clear H; intro a w H; try refine wpList_nil ?_
      (try refine wp_region_lit ?_); refine mN 5 hN H ?_; clear H; intro a w H
      refine mS ?_
      (try refine wp_region_lit ?_); refine mN 6 hN H ?_; clear H; intro a w H
      refine mW ?_; clear H; intro a w H
      refine mC H (fun hb => ?_) (fun hb => ?_)
      · have e : vb.length ≤ 1024 := by rw [decide_eq_true_eq] at hb; omega
        clear hb
        have hnx := htk ⟨rfl, e⟩
        refine mS ?_
        (try refine wp_region_lit ?_); refine mN 4 hN H ?_; clear H; intro a w H
        refine mW ?_; clear H; intro a w H
        rw [show (k : Int) + 1 = ((k + 1 : Nat) : Int) by omega] at H
        exact ⟨(k + 1, out ++ [(kb, vb)]), hnx, by dsimp only; omega, H.to 0 1 ⟨Nat.le_trans hN (Nat.le_of_ble_eq_true rfl), Nat.le_trans hR (Nat.zero_le _)⟩ ⟨rfl, (by dsimp only; rw [hap]; rfl), rfl, trivial⟩ rfl (by dsimp only; rw [List.length_append]; rfl) rfl rfl rfl⟩
      · have e : ¬ vb.length ≤ 1024 := by rw [decide_eq_false_iff_not] at hb; omega
        clear hb
        have hnx := hsk (fun h => e h.2)
        refine mW ?_; clear H; intro a w H
        rw [show (k : Int) + 1 = ((k + 1 : Nat) : Int) by omega] at H
        exact ⟨(k + 1, out), hnx, by dsimp only; omega, H.to 0 1 ⟨Nat.le_trans hN (Nat.le_of_ble_eq_true rfl), Nat.le_trans hR (Nat.zero_le _)⟩ ⟨rfl, rfl, rfl, trivial⟩ rfl rfl rfl rfl rfl⟩
    | some v =>
      rw [hq] at hf hsk
      refine mCall [] [] (hf) H ?_; clear H; intro a w H; try refine wpList_nil ?_
      (try refine wp_region_lit ?_); refine mN 5 hN H ?_; clear H; intro a w H
      refine mS ?_
      (try refine wp_region_lit ?_); refine mN 6 hN H ?_; clear H; intro a w H
      refine mW ?_; clear H; intro a w H
      refine mC H (fun hb => ?_) (fun hb => ?_)
      · simp at hb
      · clear hb
        have hnx := hsk (fun h => by simp at h)
        refine mW ?_; clear H; intro a w H
        rw [show (k : Int) + 1 = ((k + 1 : Nat) : Int) by omega] at H
        exact ⟨(k + 1, out), hnx, by dsimp only; omega, H.to 0 1 ⟨Nat.le_trans hN (Nat.le_of_ble_eq_true rfl), Nat.le_trans hR (Nat.zero_le _)⟩ ⟨rfl, rfl, rfl, trivial⟩ rfl rfl rfl rfl rfl⟩
  · have hst := hwy.stop (fun e => by
      rw [decide_eq_true (show (k : Int) < (l.length : Int) by omega)] at hb
      have : decide ((out.length : Int) < 12) = false := hb
      rw [decide_eq_false_iff_not] at this; omega)
    clear hb
    subst hst
    refine mW ?_; clear H; intro a w H
    refine wp_ret ?_; exact mEnd [] [0] [.tmp 2] [_] hN hR H
end Go.Proofs.YtgffimanhmpohaaGreat
/- The statements' kit: proofs compared and copied. -/
namespace Go.Proofs.YtgffimanhmpohaaGreat
open Go Go.RowKit
theorem sameH_v (x y : List (List UInt8)) (hx : ∀ h ∈ x, h.length = 32) (hy : ∀ h ∈ y, h.length = 32) (hl : x.length ≤ 34359730000) : VC Tryz.prog 51 [.sl (.ba 32) (bas x) none, .sl (.ba 32) (bas y) none] [] (.v (.bool (decide (x = y)))) := by
  have hxl := bas_len x
  have hyl := bas_len y
  refine mE Tryz.func51 ?_; intro N w0 a w hN hR H
  refine mW ?_; clear H; intro a w H
  refine mC H (fun hb => ?_) (fun hb => ?_)
  · have hne : ¬ x = y := fun e => by rw [hxl, hyl, e] at hb; simp at hb
    rw [decide_eq_false hne]
    refine mW ?_; clear H; intro a w H
    refine wp_ret ?_; exact mEnd [] [] [.tmp 4] [_] hN hR H
  · have hll : x.length = y.length := by rw [hxl, hyl] at hb; simp at hb; omega
    have hX := And.intro @hxl (@hyl)
    refine mW ?_; clear H; intro a w H
    refine v_loop (fun k : Nat => ⟨[(5, none, .v (.int .i64 (k : Int))), (4, none, .v (.bool false)), (0, none, .sl (.ba 32) (bas x) none), (1, none, .sl (.ba 32) (bas y) none)], [], [], []⟩) (fun k => k ≤ x.length ∧ x.take k = y.take k) (fun k => x.length - k) 0 ⟨Nat.zero_le _, rfl⟩ (H.to 0 0 ⟨hN, hR⟩ ⟨rfl, rfl, rfl, rfl, trivial⟩ rfl rfl rfl rfl rfl) ?_
    clear H
    intro k a w hk H
    obtain ⟨hk, hkt⟩ := hk
    refine mW ?_; clear H; intro a w H
    refine mC H (fun hb => ?_) (fun hb => ?_)
    · have hlt : k < x.length := by simpa using hb
      have g1 := bas_get x k hlt
      have g2 := bas_get y k (by omega)
      have l1 := hx _ (List.getElem_mem hlt)
      have l2 := hy _ (List.getElem_mem (show k < y.length by omega))
      clear hX; have hX := And.intro @hxl (And.intro @hyl (And.intro @g1 (@g2)))
      refine mW ?_; clear H; intro a w H
      refine mS ?_; refine mD 0 [] [] H ?_; clear H; intro gS H
      refine mTN 3 hN H ?_; clear H; intro a w H; simp only [List.drop_succ_cons, List.drop_zero, List.drop_nil]
      refine mTN 4 hN H ?_; clear H; intro a w H; simp only [List.drop_succ_cons, List.drop_zero, List.drop_nil]
      refine mT ?_; clear H; intro a w H
      refine v_drawNil H ?_; clear H; intro H
      refine mC H (fun hb => ?_) (fun hb => ?_)
      · have hne : ¬ x = y := fun e => by subst e; simp at hb
        rw [decide_eq_false hne]
        refine mW ?_; clear H; intro a w H
        refine wp_ret ?_; exact mEnd [] [] [.tmp 4] [_] hN hR H
      · have he : x[k] = y[k]'(by omega) := by simpa using hb
        refine mW ?_; clear H; intro a w H
        exact ⟨k + 1, ⟨hlt, by rw [List.take_succ_eq_append_getElem hlt, List.take_succ_eq_append_getElem (show k < y.length by omega), hkt, he]⟩, by omega, H.to 0 0 ⟨hN, hR⟩ ⟨rfl, rfl, rfl, rfl, trivial⟩ rfl rfl rfl rfl rfl⟩
    · have hge : k = x.length := by simp at hb; omega
      subst hge
      have he : x = y := by rw [List.take_length, hll, List.take_length] at hkt; exact hkt
      rw [decide_eq_true he]
      clear hX
      refine mW ?_; clear H; intro a w H
      refine wp_ret ?_; exact mEnd [] [] [.tmp 4] [_] hN hR H
theorem sameP_eq (p q : List (List UInt8)) (n m : Nd) : (bif decide ((n.k.toNat : Int) = (m.k.toNat : Int)) && (decide (n.key = m.key) && (decide (n.v = m.v) && (decide (n.l = m.l) && decide (n.r = m.r)))) then decide (p = q) else false) = decide (Pf.mk p n = Pf.mk q m) := by
  obtain ⟨k1, a1, b1, c1, d1⟩ := n
  obtain ⟨k2, a2, b2, c2, d2⟩ := m
  have hk : ((k1.toNat : Int) = (k2.toNat : Int)) ↔ k1 = k2 := ⟨fun h => UInt8.toNat_inj.1 (by omega), fun h => by rw [h]⟩
  dsimp only
  by_cases h : (Pf.mk p ⟨k1, a1, b1, c1, d1⟩ = Pf.mk q ⟨k2, a2, b2, c2, d2⟩)
  · rw [decide_eq_true h]
    simp only [Pf.mk.injEq, Nd.mk.injEq] at h
    obtain ⟨rfl, rfl, rfl, rfl, rfl, rfl⟩ := h
    simp
  · rw [decide_eq_false h]
    rw [Bool.eq_false_iff]
    intro h2
    apply h
    rw [Bool.cond_eq_ite] at h2
    split at h2
    · rename_i h3
      simp only [Bool.and_eq_true, decide_eq_true_eq, hk] at h2 h3
      obtain ⟨rfl, rfl, rfl, rfl, rfl⟩ := h3
      rw [h2]
    · cases h2
set_option maxHeartbeats 1000000 in
theorem sameP_v (p q : Pf) (hp : p.wf) (hq : q.wf) (hl : p.s.length ≤ 34359730000) : VC Tryz.prog 14 [p.av, q.av] [] (.v (.bool (decide (p = q)))) := by
  have hs := sameH_v p.s q.s hp.s hq.s hl
  obtain ⟨p, n⟩ := p
  obtain ⟨q, m⟩ := q
  dsimp only at hs hl
  obtain ⟨g1, g2, g3, g4⟩ := id hp.e
  obtain ⟨f1, f2, f3, f4⟩ := id hq.e
  dsimp only at g1 g2 g3 g4 f1 f2 f3 f4
  refine mE Tryz.func14 ?_; intro N w0 a w hN hR H
  simp only [Pf.av, Nd.av] at H
  refine mW ?_; clear H; intro a w H
  refine mCallG [] [] (hs) H ?_; clear H; intro a w H; try refine wpList_nil ?_
  refine mW ?_; clear H; intro a w H
  rw [← sameP_eq] 
  refine wp_ret ?_; exact mEnd [] [] [.tmp 4] [_] hN hR H
end Go.Proofs.YtgffimanhmpohaaGreat
/- CopyPairs: entries in new memory, which may be written. -/
namespace Go.Proofs.YtgffimanhmpohaaGreat
open Go Go.RowKit
end Go.Proofs.YtgffimanhmpohaaGreat
/- Proofs as bytes: there and back, in plain Lean. -/
namespace Go.Proofs.YtgffimanhmpohaaGreat
open Go Go.RowKit
def Pf.pre (p : Pf) (r : List UInt8) : List UInt8 := [UInt8.ofNat (p.s.length / 256), UInt8.ofNat p.s.length] ++ (p.bits ++ (hashes p.s ++ r))
theorem Pf.chk_ok {p : Pf} (h : p.chk = 0) : p.s.length ≤ 256 ∧ p.e.ok ∧ p.e.k ≠ 2 := by
  unfold Pf.chk at h
  split at h
  · cases h
  · split at h
    · rename_i h1 h2; exact ⟨by omega, h2⟩
    · cases h
theorem ntext_len {n : Nd} (hw : n.wf) (h2 : n.k ≠ 2) : n.text.length = 1 ∨ n.text.length = 65 := by
  obtain ⟨h1, h3, _, _⟩ := hw
  unfold Nd.text
  split
  · right; simp; omega
  · left; first | rfl | (rw [if_neg h2]; rfl)
theorem plen (p : Pf) (hw : p.wf) (h : p.chk = 0) : 3 ≤ p.text.length ∧ p.text.length ≤ 8291 := by
  obtain ⟨h1, h2, h3⟩ := p.chk_ok h
  have hl := ntext_len hw.e h3
  have hbl : p.bits.length = (p.s.length + 7) / 8 := bitsB_len _ _
  have hh := hashes_len p.s hw.s
  simp only [Pf.text, List.length_append, List.length_cons, List.length_nil]
  omega
end Go.Proofs.YtgffimanhmpohaaGreat
/- Ways among entries, plain: they lead up to the root, and say what is there; the error of node.Way. -/
namespace Go.Proofs.YtgffimanhmpohaaGreat
open Go Go.RowKit
theorem endB_sum {m : List En} (h : ∀ x ∈ m, True) : sum (endB m).text = base m := by
  match m with
  | [] => simp [endB, base, Nd.text, Nd.zero]
  | x :: _ => simp [endB, base, Nd.text, Nd.one, leafH]
theorem up_way (key : List UInt8) : ∀ (f d : Nat) (m : List En), f + d = 256 → Sep d m → upL key d (wayA key f d m) (sum (endA key f d m).text) = rootA f d m := by
  intro f
  induction f with
  | zero => intro d m hd hs; rw [wayA, endA, rootA_small 0 d m (hs.deep (by omega)), upL, endB_sum fun _ _ => trivial]
  | succ f ih =>
    intro d m hd hs
    by_cases h : m.length < 2
    · rw [wayA_small _ _ _ _ h, endA_small _ _ _ _ h, rootA_small _ _ _ h, upL, endB_sum fun _ _ => trivial]
    · rw [wayA, endA, rootA, if_neg h, if_neg h, if_neg h, upL, ih (d + 1) _ (by omega) (hs.side _), stepH]
      cases bitN key d <;> rfl
theorem endA_form (key : List UInt8) : ∀ (f d : Nat) (m : List En), endA key f d m = Nd.zero ∨ ∃ x ∈ m, endA key f d m = Nd.one x.1 x.2 := by
  have small : ∀ (m : List En), endB m = Nd.zero ∨ ∃ x ∈ m, endB m = Nd.one x.1 x.2 := fun m => by
    match m with
    | [] => exact .inl rfl
    | x :: _ => exact .inr ⟨x, List.mem_cons_self, rfl⟩
  intro f
  induction f with
  | zero => intro d m; exact small m
  | succ f ih =>
    intro d m
    by_cases h2 : m.length < 2
    · rw [endA_small _ _ _ _ h2]; exact small m
    · rw [endA, if_neg h2]
      rcases ih (d + 1) (half (bitN key d) d m) with h | ⟨x, hx, e⟩
      · exact .inl h
      · exact .inr ⟨x, (List.mem_filter.1 hx).1, e⟩
theorem wayE_wf (l : List Pr) (hk : K32 l) (hd : Dis l) (key : List UInt8) : (wayE l key).wf ∧ (wayE l key).chk = 0 := by
  obtain ⟨e1, e2⟩ := wayE_of l hk hd key
  have hf := endA_form key 256 0 (dgs l)
  rw [← e2] at hf
  have hl := wayA_le key 256 0 (dgs l)
  rw [← e1] at hl
  refine ⟨⟨fun h hh => wayA_w key 256 0 (dgs l) h (e1 ▸ hh), ?_⟩, ?_⟩
  · rcases hf with h | ⟨x, hx, h⟩
    · rw [h]; exact zero_wf
    · rw [h]
      obtain ⟨p, hp, rfl⟩ := List.mem_map.1 hx
      exact Nd.one_wf (hk p hp) (valH_len _)
  · unfold Pf.chk
    rw [if_neg (by omega), if_pos]
    rcases hf with h | ⟨x, hx, h⟩
    · rw [h]; exact ⟨zero_ok, by decide⟩
    · rw [h]; exact ⟨by simp [Nd.ok, Nd.bare, Nd.one], by simp [Nd.one]⟩
theorem wayE_top (l : List Pr) (hk : K32 l) (hd : Dis l) (key : List UInt8) : topH key (wayE l key) = rootA 256 0 (dgs l) := by
  obtain ⟨e1, e2⟩ := wayE_of l hk hd key
  have hs := sep_of l hk hd 0 (fun x _ y _ t ht => absurd ht (Nat.not_lt_zero t))
  rw [topH, e1, e2]
  exact up_way key 256 0 (dgs l) rfl hs
theorem rootE_ok (l : List Pr) (hk : K32 l) (he : errP l = 0) : rootE l 0 = (rootA 256 0 (dgs l), 0) := by
  obtain ⟨hle, hdis, hvals⟩ := errP_ok he
  have hall : ∀ x ∈ l, ∀ y ∈ l, agree 0 x.1 y.1 := fun x _ y _ t ht => absurd ht (Nat.not_lt_zero t)
  unfold rootE
  rw [if_neg (by omega), if_neg (show ¬ errP l ≠ 0 by omega), if_neg (fun h => by omega)]
  show (rootA 256 0 (dgs (srt l)), 0) = _
  rw [root_srt l hk hdis 256 0 (by omega) hall]
end Go.Proofs.YtgffimanhmpohaaGreat
/- Entries in another order; both sides: in plain Lean. -/
namespace Go.Proofs.YtgffimanhmpohaaGreat
open Go Go.RowKit
theorem chkP_iff : ∀ (ks : List (List UInt8)) (l : List Pr), chkP ks l = 0 ↔ Dis l ∧ (∀ x ∈ l, x.1 ∉ ks) ∧ ∀ x ∈ l, x.2.length ≤ 1024
  | _, [] => ⟨fun _ => ⟨List.Pairwise.nil, fun x hx => (by cases hx), fun x hx => (by cases hx)⟩, fun _ => rfl⟩
  | ks, p :: l => by
    have ih := chkP_iff (ks ++ [p.1]) l
    unfold chkP
    constructor
    · intro h
      split at h
      · cases h
      · rename_i h1
        split at h
        · cases h
        · rename_i h2
          obtain ⟨a1, a2, a3⟩ := ih.1 h
          refine ⟨List.pairwise_cons.2 ⟨fun y hy e => a2 y hy (by simp [e]), a1⟩, fun x hx => ?_, fun x hx => ?_⟩
          · rcases List.mem_cons.1 hx with rfl | hx
            · exact h2
            · exact fun hm => a2 x hx (List.mem_append_left _ hm)
          · rcases List.mem_cons.1 hx with rfl | hx
            · omega
            · exact a3 x hx
    · rintro ⟨a1, a2, a3⟩
      obtain ⟨b1, b2⟩ := List.pairwise_cons.1 a1
      have c1 := a2 p List.mem_cons_self
      have c2 := a3 p List.mem_cons_self
      rw [if_neg (by omega), if_neg c1]
      refine ih.2 ⟨b2, fun x hx hm => ?_, fun x hx => a3 x (List.mem_cons_of_mem _ hx)⟩
      rcases List.mem_append.1 hm with hm | hm
      · exact a2 x (List.mem_cons_of_mem _ hx) hm
      · exact b1 x hx (List.mem_singleton.1 hm).symm
theorem errP_iff (l : List Pr) : errP l = 0 ↔ l.length ≤ 4096 ∧ Dis l ∧ ∀ x ∈ l, x.2.length ≤ 1024 := by
  unfold errP
  split
  · exact ⟨fun h => (by cases h), fun h => (by omega)⟩
  · rw [chkP_iff]
    exact ⟨fun h => ⟨by omega, h.1, h.2.2⟩, fun h => ⟨h.2.1, fun x _ hm => (by cases hm), h.2.2⟩⟩
theorem Dis.perm {l m : List Pr} (h : Dis l) (hp : l.Perm m) : Dis m := List.Pairwise.perm h hp fun h e => h e.symm
end Go.Proofs.YtgffimanhmpohaaGreat
/- WalkTells: the law's walk (begun). -/
namespace Go.Proofs.YtgffimanhmpohaaGreat
open Go Go.RowKit
theorem new_wf {n : Nat} (h1 : 0 < n) (h2 : n ≤ 65536) : (Slb.new n).wf := Slb.wf_at ⟨h1, h2⟩ (Nat.zero_le _) fun k x c hk => by
  have := (Slb.at_lt hk)
  have h0 : (Slb.new n).sl.length = 0 := rfl
  omega
theorem Is.root {s : Slb} {l : List Pr} {h : Int} (hi : Is s 256 0 l h) (hs : Sep 0 (dgs l)) : s.rootE h = 0 := by
  unfold Slb.rootE
  by_cases hne : l = []
  · subst hne
    have e : h = 0 := (Is.small (by simp)).1 hi
    rw [if_pos e]
  · obtain ⟨x, c, h1, h2⟩ := hi.info hs rfl hne
    obtain ⟨g1, g2⟩ := Slb.get_at h1
    have h0 : h ≠ 0 := by have := (Slb.at_lt h1).1; omega
    rw [if_neg h0, if_neg (by rw [g2]; decide), g1, if_neg]
    rintro ⟨e1, e2⟩
    by_cases h3 : 2 ≤ l.length
    · exact e2 (h2.big h3).2
    · rw [h2.one (by omega)] at e1; cases e1
/-- What is found under a key is what stands at the way's end. -/
theorem look_end {s : Slb} {l m : List Pr} {key : List UInt8} {E : Int} (hd : Dis l) (hm : m.length < 2) (hi : IsB s m E) (h1 : ∀ x ∈ m, x ∈ l) (h2 : ∀ x ∈ l, x.1 = key → x ∈ m) :
    lookP l key = if (s.get_ E).k = 1 ∧ (s.get_ E).key = key then some (s.get_ E).val else none := by
  match m, hm with
  | [], _ =>
    have : E = 0 := hi
    rw [this, Slb.get_zero, if_neg (fun e => absurd e.1 (by decide))]
    exact (lookP_none _ _).2 fun y hy e => by cases h2 y hy e
  | [x], _ =>
    obtain ⟨hd', c, h3⟩ := hi
    rw [(Slb.get_at h3).1]
    by_cases hx : x.1 = key
    · rw [if_pos ⟨rfl, hx⟩]
      have hxl := h1 x List.mem_cons_self
      cases hq : lookP l key with
      | none => exact absurd hx ((lookP_none _ _).1 hq x hxl)
      | some v =>
        unfold lookP at hq
        rw [Option.map_eq_some_iff] at hq
        obtain ⟨y, hy1, hy2⟩ := hq
        have hyl := List.mem_of_find?_eq_some hy1
        have hyk : y.1 = key := by have := List.find?_some hy1; exact of_decide_eq_true this
        have := List.mem_singleton.1 (h2 y hyl hyk)
        rw [← hy2, this]; rfl
    · rw [if_neg (fun e => hx e.2)]
      exact (lookP_none _ _).2 fun y hy e => hx (by rw [← List.mem_singleton.1 (h2 y hy e)]; exact e)
attribute [local irreducible] wpT
end Go.Proofs.YtgffimanhmpohaaGreat
/- How much a store holds; a value on its own that may be written over. -/
namespace Go.Proofs.YtgffimanhmpohaaGreat
open Go Go.RowKit
/-- An operation under a guard that itself stands under a guard known not to hold. -/
theorem mSkT2 {P : Program} {w0 w : World} {N gS : Gh} {nt : Nat} {sq st q2 s2 : St} {a : Act} {ops : Array Oper} {Q : Exit → Act → World → Prop} {L A : List Nat} {i : Nat} {rest : List Oper} {o : Oper} {t t2 : Nat} {b b2 : Bool} {y : AV} (r : AV) (H : RelT P w0 N nt gS sq st a w) (g : ∀ a w, RelT P w0 N nt gS q2 s2 a w → wpT P ops Q (Mem gS) L A rest (i + 1) a w)
    (hgd : gdOf ops o = some (some (t, b)) := by rfl) (hf : find t st.t = some (some (t2, b2), y) := by rfl) (hk : st.tmp none t2 = .v (.bool (!b2)) := by rfl) (hd : okDst nt (some (t, b)) o.dst = true := by rfl)
    (h1 : sq.lose o.dst = q2 := by exact nfs) (hs : st.put o.dst (some (t, b)) r = s2 := by exact nfs) : wpT P ops Q (Mem gS) L A (o :: rest) i a w := by
  obtain ⟨hM, hrw, hFq, hBq, g0, HI, hF, hle, hbs⟩ := H
  have hn2 : ¬ gholds a (some (t2, b2)) := fun h => by
    have e1 := tmp_sound hF (c := none) trivial t2
    rw [hk] at e1
    have e2 : a.tmps.getD t2 undef = .bool b2 := h
    rw [e1.v_inv] at e2
    injection e2 with e2
    cases b2 <;> cases e2
  have hu := hF.u _ (find_mem hf) hn2
  have hn : ¬ gholds a (some (t, b)) := fun h => by
    have e2 : a.tmps.getD t undef = .bool b := h
    have hu : a.tmps.getD t undef = undef := hu
    rw [hu] at e2
    cases e2
  have hw : ¬ Region.wanted o (yielded ops a.tmps) = true := fun h => hn ((gdOf_wanted hgd).1 h)
  unfold wpT
  rw [if_neg hw]
  subst h1 hs
  exact g _ _ ⟨hM, hrw, hFq.lose undef, by rw [lose_bx]; exact hBq, g0, by rw [(put_bx _ _ _ _).1, (put_bx _ _ _ _).2.1, (put_bx _ _ _ _).2.2]; exact HI, hF.put hd (fun hg => absurd hg hn) rfl (fun _ => rfl), hle, hbs⟩
theorem overN_v : VC Tryz.prog 16 [.v (.slice none 0 0)] [] (.tup []) := by
  refine ⟨⟨Tryz.f16, Tryz.func16, by kernel_rfl, by kernel_rfl⟩, fun w N vs hI hl hv => ?_⟩
  obtain ⟨u, rfl, hu⟩ := one_ hl hv
  have e1 := hu.v_inv
  subst e1
  refine (over_any (t := 5) [] [] _ 0 w (.inl ⟨rfl, rfl, rfl⟩)).mono fun e w2 hp => ?_
  obtain ⟨he, _, hg⟩ := hp
  exact ⟨N, _, he, hI.keep (fun k hk => hg.block k hk (by simp [Value.ownBlock])) hg.size hg.os hg.tape hg.output, ⟨[], rfl, rfl, fun i a u ha _ => by simp at ha⟩⟩
set_option maxRecDepth 20000 in
theorem slbLen_v (γ δ n m room used : Nat) (es fs : List AV) (h : 0 < room) :
    VX Tryz.prog 38 (slbB γ δ n m room used es fs) [] [] [.ptr 0 []] (slbB γ δ n m room used es fs) [] [] (.v (.int .i64 (used : Int))) := by
  have hn := slbNone_v γ δ n m room used es fs h
  refine mE Tryz.func38 ?_; intro N w0 a w hN hR H
  refine mW ?_; clear H; intro a w H
  refine mCall [0, 1, 2] [] (hn) H ?_; clear H; intro a w H; try refine wpList_nil ?_
  refine mW ?_; clear H; intro a w H
  refine mC H (fun hb => ?_) (fun hb => ?_)
  · exact absurd hb (by decide)
  · clear hb
    refine mW ?_; clear H; intro a w H
    refine wp_ret ?_; exact mEnd [0, 1, 2] [] [.tmp 2] [_] hN hR H
set_option maxRecDepth 20000 in
theorem stoOcc_v (s : Slb) (hs : s.wf) : VX Tryz.prog 8 s.sx [] [] [.ptr 0 []] s.sx [] [] (.v (.int .i64 (s.used : Int))) := by
  have hn := stoNone_v s.γ s.δ s.sl.length s.m s.room s.used (s.sl.map slA) (s.fs.map inA)
  have hl := slbLen_v s.γ s.δ s.sl.length s.m s.room s.used (s.sl.map slA) (s.fs.map inA) hs.room.1
  simp only [Slb.sx]
  generalize s.sl.map slA = es at *
  generalize s.fs.map inA = fs at *
  refine mE Tryz.func8 ?_; intro N w0 a w hN hR H
  refine mW ?_; clear H; intro a w H
  refine mCall [0, 1, 2, 3] [] (hn) H ?_; clear H; intro a w H; try refine wpList_nil ?_
  refine mW ?_; clear H; intro a w H
  refine mC H (fun hb => ?_) (fun hb => ?_)
  · exact absurd hb (by decide)
  · clear hb
    refine mW ?_; clear H; intro a w H
    refine mCall [1, 2, 3] [] (hl) H ?_; clear H; intro a w H; try refine wpList_nil ?_
    refine mW ?_; clear H; intro a w H
    refine wp_ret ?_; exact mEnd [0, 1, 2, 3] [] [.tmp 2] [_] hN hR H
set_option maxRecDepth 20000 in
theorem stoValueV_v (s : Slb) (hs : s.wf) (h : Int) (hl : (s.get_ h).val.length ≤ 100000) : VX Tryz.prog 54 s.sx [] [] [.ptr 0 [], .v (.int .i64 h)] (s.sx ++ [(.vc 5 .sc, .vb 1 (s.get_ h).val)]) [] [] (.vw 4 1 (s.get_ h).val.length) := by
  have hg := stoGet_v s hs h
  obtain ⟨x1, x2, x3⟩ := Slb.get_wf hs h
  generalize s.get_ h = n at *
  simp only [Slb.sx, SN.av] at hg
  simp only [Slb.sx]
  refine mE Tryz.func54 ?_; intro N w0 a w hN hR H
  have hX := And.intro @x1 (And.intro @x2 (@x3))
  refine mW ?_; clear H; intro a w H
  refine mCall [0, 1, 2, 3] [] (hg) H ?_; clear H; intro a w H; try refine wpList_nil ?_
  (try refine wp_region_lit ?_); refine mN 6 hN H ?_; clear H; intro a w H
  (try refine wpList_nil ?_)
  refine mS ?_
  (try refine wp_region_lit ?_); refine mN 2 hN H ?_; clear H; intro a w H
  refine v_appN tab_ok H rfl rfl (by rfl) (by rfl) (by simp; omega) ?_; clear H; intro a w H; replace H := nf H
  refine mW ?_; clear H; intro a w H
  refine wp_ret ?_; exact mEnd [0, 1, 2, 3, 5] [] [.tmp 4] [_] hN hR H
set_option maxRecDepth 20000 in
theorem findYV_v (s : Slb) (hs : s.wf) (key : List UInt8) (hk : key.length = 32) (h E : Int) (n : Nat) (L : List AV) (hh : VX Tryz.prog 41 s.sx [] [] [.ptr 0 [], .v (.int .i64 h), .ba key] s.sx [] [(3, n)] (.tup [.sl .sc L (some 0), .v (.int .i64 E), errv 0])) (hE : (s.get_ E).k = 1 ∧ (s.get_ E).key = key) (hv : (s.get_ E).val.length ≤ 100000) :
    VX Tryz.prog 15 s.sx [] [] [.ptr 0 [], .v (.int .i64 h), .ba key] (s.sx ++ [(.vc 5 .sc, .vb 1 (s.get_ E).val)]) [] [] (.tup [.vw 4 1 (s.get_ E).val.length, .v (.bool true), errv 0]) := by
  have h1 := stoKind_v s hs E
  have h2 := stoKey_v s hs E
  have h4 := stoValueV_v s hs E hv
  obtain ⟨e1, e2⟩ := hE
  rw [e1] at h1
  rw [e2] at h2
  generalize (s.get_ E).val = vv at *
  simp only [Slb.sx] at h1 h2 h4 hh ⊢
  generalize s.sl.map slA = es at *
  generalize s.fs.map inA = fs at *
  refine mE Tryz.func15 ?_; intro N w0 a w hN hR H
  have hX := And.intro @hk (@hv)
  refine mW ?_; clear H; intro a w H
  refine mCall [0, 1, 2, 3] [] (hh) H ?_; clear H; intro a w H; try refine wpList_nil ?_
  refine mW ?_; clear H; intro a w H
  replace H := mK [0, 5, 8, 10] 5 0 hN hR H
  replace H := v_ref H 5 4 (Nat.le_trans hN (Nat.le_of_ble_eq_true rfl)) rfl rfl rfl
  simp only [nilT, strip, Nat.reduceEqDiff, reduceIte, List.set_cons_succ, List.set_cons_zero, List.length_cons, List.length_nil, Nat.reduceAdd, List.cons_append, List.nil_append] at H
  refine mS ?_; refine mD 0 [5, 11] [12] H ?_; clear H; intro gS H
  refine mTN 5 hN H ?_; clear H; intro a w H; simp only [List.drop_succ_cons, List.drop_zero, List.drop_nil]
  refine mCallTG [0, 1, 2, 3] [] (h1) H ?_; clear H; intro a w H
  refine mTN 3 hN H ?_; clear H; intro a w H; simp only [List.drop_succ_cons, List.drop_zero, List.drop_nil]
  refine mTN 2 hN H ?_; clear H; intro a w H; simp only [List.drop_succ_cons, List.drop_zero, List.drop_nil]
  refine mCallTG [0, 1, 2, 3] [] (h2) H ?_; clear H; intro a w H
  refine mTN 1 hN H ?_; clear H; intro a w H; simp only [List.drop_succ_cons, List.drop_zero, List.drop_nil]
  refine mTN 1 hN H ?_; clear H; intro a w H; simp only [List.drop_succ_cons, List.drop_zero, List.drop_nil]
  refine mTN 1 hN H ?_; clear H; intro a w H; simp only [List.drop_succ_cons, List.drop_zero, List.drop_nil]
  refine v_drawNil H ?_; clear H; intro H
  refine mC H (fun hb => ?_) (fun hb => ?_)
  · simp at hb
  · clear hb
    refine mW ?_; clear H; intro a w H
    refine mCall [0, 1, 2, 3] [] (h4) H ?_; clear H; intro a w H; try refine wpList_nil ?_
    refine mW ?_; clear H; intro a w H
    refine wp_ret ?_; exact mEnd [0, 1, 2, 3, 5] [] [.tmp 6, .tmp 7, .tmp 8] [_, _, _] hN hR H
end Go.Proofs.YtgffimanhmpohaaGreat
/- The statement WalkWays, in values. -/
namespace Go.Proofs.YtgffimanhmpohaaGreat
open Go Go.RowKit
theorem lookP_get {F : List Pr} (hd : Dis F) (i : Nat) (hi : i < F.length) : lookP F F[i].1 = some F[i].2 := by
  cases h : lookP F F[i].1 with
  | none => exact absurd rfl ((lookP_none _ _).1 h _ (List.getElem_mem hi))
  | some v =>
    unfold lookP at h
    rw [Option.map_eq_some_iff] at h
    obtain ⟨y, hy1, hy2⟩ := h
    have hyk : y.1 = F[i].1 := by have := List.find?_some hy1; exact of_decide_eq_true this
    obtain ⟨j, hj, rfl⟩ := List.getElem_of_mem (List.mem_of_find?_eq_some hy1)
    rcases Nat.lt_trichotomy i j with h1 | h1 | h1
    · exact absurd hyk.symm (List.pairwise_iff_getElem.1 hd i j hi hj h1)
    · subst h1; rw [hy2]
    · exact absurd hyk (List.pairwise_iff_getElem.1 hd j i hj hi h1)
attribute [local irreducible] wpT
set_option maxRecDepth 20000 in
set_option maxHeartbeats 8000000 in
theorem walkWays_v (l : List Pr) (hK : K32 l) (hl : l.length ≤ 34359730000) (hv : ∀ x ∈ l, x.2.length ≤ 34359730000) (key : List UInt8) (hk : key.length = 32) : VC Tryz.prog 3 [.sl prT (l.map prA) none, .ba key] [] (.v (.bool true)) := by
  obtain ⟨F, k1, k2, k3, k4, hfew⟩ := few_v l hK hl hv
  have hsep := sep_of F k1 k2 0 (fun x _ y _ t ht => absurd ht (Nat.not_lt_zero t))
  have hnew := stoNew_v 8192 (by decide) (by decide)
  obtain ⟨t, h, B, A, C⟩ := build_v 256 0 F (Slb.new 8192) rfl hsep k1 k4 (by omega) (new_wf (by decide) (by decide)) (all_new _) rfl rfl (by show 0 + F.length * 257 ≤ 8192; omega)
  have hw := ways t key 256 0 F h rfl hsep B.is
  have hroot := B.is.root hsep
  have hh := handles_v t B.wf key hk h hroot hw.ends
  have hF : (F.map prA).length = F.length := List.length_map ..
  unfold bldC at C
  obtain ⟨w1, w2, w3, m, m1, m2, m3, m4, m5⟩ := hw
  have hle := look_end k2 m1 m2 m3 m4
  have hnd : t.nd (t.endH key 256 h) = endA key 256 0 (dgs F) := by rw [m5]; exact endB_nd m1 m2
  obtain ⟨q1, q2⟩ := wayE_of F k1 k2 key
  obtain ⟨q3, q4⟩ := wayE_wf F k1 k2 key
  have hWl : (t.wayH key 256 h).length = (wayE F key).s.length := by rw [q1, ← w2]; unfold Slb.dsH; rw [List.length_map]
  have hWle : (t.wayH key 256 h).length ≤ 256 := by rw [hWl, q1]; exact wayA_le key 256 0 (dgs F)
  have herr : errP F = 0 := (errP_iff F).2 ⟨by omega, k2, k4⟩
  have hwr := nway_v F k1 (by omega) key hk herr
  have hup := up_v key hk (wayE F key) q3 q4
  have htp := wayE_top F k1 k2 key
  have hrt := nroot0_v F k1 (by omega)
  rw [rootE_ok F k1 herr] at hrt
  have hdg := stoDigest_v t B.wf h
  rw [B.is.dig hsep rfl] at hdg
  rw [htp] at hup
  have hRl : (rootA 256 0 (dgs F)).length = 32 := rootA_len _ _ _
  have hoc := stoOcc_v t B.wf
  have hget := fun i hi => lookP_get k2 i hi
  rw [← q2] at hnd
  rw [← q1] at w2
  generalize t.wayH key 256 h = W at *
  generalize t.endH key 256 h = E at *
  have hwv := way_v t B.wf key hk h E W hWle hh
  rw [w2, hnd] at hwv
  simp only [Slb.sx] at hwv hdg hoc
  have hfdN := find_v t B.wf key hk h E _ _ hh
  have hfdY := findY_v t B.wf key hk h E _ _ hh
  have hfdV := findYV_v t B.wf key hk h E _ _ hh
  simp only [Slb.sx] at hnew C hh
  generalize rootA 256 0 (dgs F) = R at *
  dsimp only at hrt
  clear htp herr
  refine mE Tryz.func3 ?_; intro N w0 a w hN hR H
  have hX := And.intro @hk (@hF)
  refine mW ?_; clear H; intro a w H
  refine mCall [] [] (hfew) H ?_; clear H; intro a w H; try refine wpList_nil ?_
  refine mW ?_; clear H; intro a w H
  refine mCall [] [] (hnew) H ?_; clear H; intro a w H; try refine wpList_nil ?_
  refine mW ?_; clear H; intro a w H
  refine mC H (fun hb => ?_) (fun hb => ?_)
  · simp at hb
  · clear hb
    refine mW ?_; clear H; intro a w H
    refine mCall [1, 2, 3, 4] [] (C) H ?_; clear H; intro a w H; try refine wpList_nil ?_
    refine mW ?_; clear H; intro a w H
    refine mC H (fun hb => ?_) (fun hb => ?_)
    · simp at hb
    · clear hb
      replace H := mK [0, 3, 4, 5, 7] 5 1 hN hR H
      replace H := v_sub H 0 (x := .sl prT (F.map prA) (some 0)) (y := .sl prT (F.map prA) none) ⟨rfl, rfl⟩ rfl (fun az h => by cases h) rfl
      simp only [nilT, Nat.reduceEqDiff, reduceIte] at H
      replace H := v_ref H 3 0 (Nat.le_trans hN (Nat.le_of_ble_eq_true rfl)) rfl rfl rfl
      simp only [nilT, strip, Nat.reduceEqDiff, reduceIte] at H
      replace H := mK [0, 3, 4, 5, 7] 5 0 hN hR H
      obtain ⟨n1, n2, n3, n4⟩ := q3.e
      have hWm : (W.map inA).length = (wayE F key).s.length := by rw [List.length_map]; exact hWl
      have hsp := sameP_v (wayE F key) (wayE F key) q3 q3 (by omega)
      rw [decide_eq_true rfl] at hsp
      generalize wayE F key = Q at *
      have hbs := bas_len Q.s
      simp only [Pf.av, Nd.av] at hwv hwr hup hsp
      clear hX; have hX := And.intro @hk (And.intro @hF (And.intro @hWm (And.intro @hbs (And.intro @n1 (And.intro @n2 (And.intro @n3 (And.intro @n4 (@hRl))))))))
      refine mW ?_; clear H; intro a w H
      refine mCall [1, 2, 3, 4] [] (hoc) H ?_; clear H; intro a w H; try refine wpList_nil ?_
      refine mW ?_; clear H; intro a w H
      refine mCall [1, 2, 3, 4] [] (hdg) H ?_; clear H; intro a w H; try refine wpList_nil ?_
      refine mW ?_; clear H; intro a w H
      refine mCall [1, 2, 3, 4] [] (hwv) H ?_; clear H; intro a w H; try refine wpList_nil ?_
      refine mW ?_; clear H; intro a w H
      refine mCall [] [] (hwr) H ?_; clear H; intro a w H; try refine wpList_nil ?_
      refine mW ?_; clear H; intro a w H
      refine mCall [] [] (hup) H ?_; clear H; intro a w H; try refine wpList_nil ?_
      refine mW ?_; clear H; intro a w H
      refine mCall [] [] (hrt) H ?_; clear H; intro a w H; try refine wpList_nil ?_
      refine mW ?_; clear H; intro a w H
      replace H := v_known H 89 false rfl
      simp only [unG, gdEq, Nat.reduceBEq, cond_true, cond_false] at H
      refine mG H ?_
      refine mCall [] [] (hsp) H ?_; clear H; intro a w H; try refine wpList_nil ?_
      refine mW ?_; clear H; intro a w H
      refine mC H (fun hb => ?_) (fun hb => ?_)
      · simp at hb
      · clear hb hsp hwr hup hrt hwv
        clear hX; have hX := And.intro @hk (And.intro @hF (@hRl))
        replace H := mK [0, 3, 5, 7, 9, 10] 6 0 hN hR H
        replace H := v_fz H
        simp only [List.length_cons, List.length_nil, Nat.reduceAdd, List.filter_cons, List.filter_nil, Nat.reduceLT, decide_true, decide_false, if_true, if_false, Bool.false_eq_true] at H
        revert a w
        apply cutG7 (R := fun a w => Rel Tryz.prog w0 N Tryz.f3.ntmps ⟨[(0, none, .sl prT (F.map prA) none), (3, none, .ref (.ba 32) (.ba key)), (5, none, .ptr 1 []), (7, none, .v (.int .i64 h)), (9, none, .v (.int .i64 (t.used : Int))), (10, none, .ptr 5 []), (20, none, .v (.bool (lookP F key).isSome)), (21, none, errv 0), (22, none, .bs ((lookP F key).getD []) (some 0)), (23, none, .v (.bool (lookP F key).isSome)), (24, none, errv 0)],
          [(.ba 32, .ba key), (stoT, .st [.ptr 2 []]), (slbT, .st [.vw 3 t.γ t.sl.length, .vw 4 t.δ t.m, .v (.int .i64 (t.room : Int)), .v (.int .i64 (t.used : Int))]), (.vc 148 sltT, .vc t.γ (t.sl.map slA)), (.vc 3 .sc, .vc t.δ (t.fs.map inA)), (.ba 32, .ba R)], [0], [(5, ((lookP F key).getD []).length)]⟩ a w)
        · intro key1 a w H
          cases ho : lookP F key with
          | none =>
            have hE : ¬ ((t.get_ E).k = 1 ∧ (t.get_ E).key = key) := fun e => by rw [hle, if_pos e] at ho; cases ho
            have hfd := hfdN hE
            simp only [Slb.sx] at hfd
            refine mW ?_; clear H; intro a w H
            refine mCall [1, 2, 3, 4] [] (hfd) H ?_; clear H; intro a w H; try refine wpList_nil ?_
            refine mW ?_; clear H; intro a w H
            refine mCall [] [] (overN_v) H ?_; clear H; intro a w H; try refine wpList_nil ?_
            refine mW ?_; clear H; intro a w H
            refine mCall [1, 2, 3, 4] [] (hfd) H ?_; clear H; intro a w H; try refine wpList_nil ?_
            (try refine wp_region_lit ?_); refine mN 7 hN H ?_; clear H; intro a w H
            refine mS ?_
            replace H := v_nilB tab_ok H 22 5 (j := ti5) rfl (by decide) rfl
            simp only [nilT, Nat.reduceEqDiff, reduceIte] at H
            exact key1 _ _ (H.to 6 1 ⟨Nat.le_trans hN (Nat.le_of_ble_eq_true rfl), Nat.le_trans hR (Nat.zero_le _)⟩ ⟨rfl, rfl, rfl, rfl, rfl, rfl, (by rw [ho]; rfl), rfl, (by rw [ho]; rfl), (by rw [ho]; rfl), rfl, trivial⟩ rfl (by rw [ho]; rfl) rfl rfl rfl)
          | some v =>
            have hE : (t.get_ E).k = 1 ∧ (t.get_ E).key = key := by
              by_cases e : (t.get_ E).k = 1 ∧ (t.get_ E).key = key
              · exact e
              · rw [hle, if_neg e] at ho; cases ho
            have ho2 := ho
            rw [hle, if_pos hE] at ho2
            have hvv : (t.get_ E).val = v := by injection ho2
            have hvl : v.length ≤ 100000 := by
              by_cases e : v.length ≤ 100000
              · exact e
              · exfalso
                unfold lookP at ho
                rw [Option.map_eq_some_iff] at ho
                obtain ⟨y, hy1, hy2⟩ := ho
                have := k4 y (List.mem_of_find?_eq_some hy1)
                rw [hy2] at this; omega
            have hfd := hfdY hE (by rw [hvv]; exact hvl)
            have hfe := hfdV hE (by rw [hvv]; exact hvl)
            rw [hvv] at hfd hfe
            simp only [Slb.sx, List.cons_append, List.nil_append] at hfd hfe
            have hov := over_v v 1
            refine mW ?_; clear H; intro a w H
            refine mCall [1, 2, 3, 4] [] (hfe) H ?_; clear H; intro a w H; try refine wpList_nil ?_
            refine mW ?_; clear H; intro a w H
            refine mCall [6] [] (hov) H ?_; clear H; intro a w H; try refine wpList_nil ?_
            refine mW ?_; clear H; intro a w H
            refine mCall [1, 2, 3, 4] [] (hfd) H ?_; clear H; intro a w H; try refine wpList_nil ?_
            (try refine wp_region_lit ?_); refine mN 7 hN H ?_; clear H; intro a w H
            refine mS ?_
            exact key1 _ _ (H.to 6 1 ⟨Nat.le_trans hN (Nat.le_of_ble_eq_true rfl), Nat.le_trans hR (Nat.zero_le _)⟩ ⟨rfl, rfl, rfl, rfl, rfl, rfl, (by rw [ho]; rfl), rfl, (by rw [ho]; rfl), (by rw [ho]; rfl), rfl, trivial⟩ rfl (by rw [ho]; rfl) rfl rfl rfl)
        intro a w H
        clear hfdN hfdY hfdV hle hnew C hfew
        have hV : ∀ i (hi : i < F.length), F[i].1 = key → (lookP F key).isSome = true ∧ (lookP F key).getD [] = F[i].2 := fun i hi e => by
          have := hget i hi
          rw [e] at this
          rw [this]; exact ⟨rfl, rfl⟩
        have hg1 := prA_get F
        generalize (lookP F key).getD [] = V at *
        generalize (lookP F key).isSome = b at *
        generalize F.map prA = es at *
        replace H := v_sub H 22 (x := .bs V (some 0)) (y := .bs V none) rfl rfl (fun az h => by cases h) rfl
        simp only [nilT, Nat.reduceEqDiff, reduceIte] at H
        refine mW ?_; clear H; intro a w H
        refine v_loop (fun i : Nat => ⟨[(25, none, .v (.int .i64 (i : Int))), (0, none, .sl prT es none), (3, none, .ref (.ba 32) (.ba key)), (5, none, .ptr 1 []), (7, none, .v (.int .i64 h)), (9, none, .v (.int .i64 (t.used : Int))), (10, none, .ptr 5 []), (20, none, .v (.bool b)), (21, none, errv 0), (22, none, .bs V none), (23, none, .v (.bool b)), (24, none, errv 0)],
          [(.ba 32, .ba key), (stoT, .st [.ptr 2 []]), (slbT, .st [.vw 3 t.γ t.sl.length, .vw 4 t.δ t.m, .v (.int .i64 (t.room : Int)), .v (.int .i64 (t.used : Int))]), (.vc 148 sltT, .vc t.γ (t.sl.map slA)), (.vc 3 .sc, .vc t.δ (t.fs.map inA)), (.ba 32, .ba R)], [0], []⟩)
          (fun i => i ≤ F.length) (fun i => F.length - i) 0 (Nat.zero_le _)
          (H.to 6 0 ⟨Nat.le_trans hN (Nat.le_of_ble_eq_true rfl), Nat.le_trans hR (Nat.zero_le _)⟩ ⟨rfl, rfl, rfl, rfl, rfl, rfl, rfl, rfl, rfl, rfl, rfl, rfl, trivial⟩ rfl rfl rfl rfl rfl) ?_
        clear H
        intro i a w hi H
        refine mW ?_; clear H; intro a w H
        refine mC H (fun hb => ?_) (fun hb => ?_)
        · have hlt : i < F.length := by rw [decide_eq_true_eq] at hb; omega
          clear hb
          have hg := hg1 i hlt
          have hz := k1 _ (List.getElem_mem hlt)
          have hVi := hV i hlt
          have hsm := same_v F[i].2 F[i].2
          rw [beq_self_eq_true] at hsm
          generalize F[i] = z at *
          obtain ⟨zk, zv⟩ := z
          dsimp only at hg hz hVi hsm
          by_cases hzk : zk = key
          · obtain ⟨hb1, hv1⟩ := hVi hzk
            have hde : decide (zk = key) = true := decide_eq_true hzk
            subst hb1 hv1
            clear hX; have hX := And.intro @hk (And.intro @hF (And.intro @hRl (And.intro @hg (And.intro @hz (@hde)))))
            refine mS ?_; refine mD 0 [17] [] H ?_; clear H; intro gS H
            refine mTN 3 hN H ?_; clear H; intro a w H; simp only [List.drop_succ_cons, List.drop_zero, List.drop_nil]
            refine mTN 3 hN H ?_; clear H; intro a w H; simp only [List.drop_succ_cons, List.drop_zero, List.drop_nil]
            refine mTN 1 hN H ?_; clear H; intro a w H; simp only [List.drop_succ_cons, List.drop_zero, List.drop_nil]
            refine mTN 1 hN H ?_; clear H; intro a w H; simp only [List.drop_succ_cons, List.drop_zero, List.drop_nil]
            refine mTN 2 hN H ?_; clear H; intro a w H; simp only [List.drop_succ_cons, List.drop_zero, List.drop_nil]
            refine mTN 1 hN H ?_; clear H; intro a w H; simp only [List.drop_succ_cons, List.drop_zero, List.drop_nil]
            replace H := v_knownT H 136 true (by rfl)
            simp only [unG, gdEq, Nat.reduceBEq, cond_true, cond_false] at H
            replace H := ntf H
            refine mTN 4 hN H ?_; clear H; intro a w H; simp only [List.drop_succ_cons, List.drop_zero, List.drop_nil]
            refine mTN 2 hN H ?_; clear H; intro a w H; simp only [List.drop_succ_cons, List.drop_zero, List.drop_nil]
            replace H := v_knownT H 139 false (by rfl)
            simp only [unG, gdEq, Nat.reduceBEq, cond_true, cond_false] at H
            replace H := ntf H
            refine v_guardT H (by rfl) (by rfl) (by rfl) ?_
            refine mCallT [] [] (hsm) H ?_; clear H; intro a w H
            refine mTN 1 hN H ?_; clear H; intro a w H; simp only [List.drop_succ_cons, List.drop_zero, List.drop_nil]
            refine mTN 1 hN H ?_; clear H; intro a w H; simp only [List.drop_succ_cons, List.drop_zero, List.drop_nil]
            refine mTN 1 hN H ?_; clear H; intro a w H; simp only [List.drop_succ_cons, List.drop_zero, List.drop_nil]
            refine mT ?_; clear H; intro a w H
            refine v_drawNil H ?_; clear H; intro H
            refine mC H (fun hb => ?_) (fun hb => ?_)
            · simp at hb
            · clear hb
              refine mS ?_
              clear hX; have hX := And.intro @hk (And.intro @hF (@hRl))
              refine mW ?_; clear H; intro a w H
              rw [show (i : Int) + 1 = ((i + 1 : Nat) : Int) by omega] at H
              exact ⟨i + 1, hlt, by omega, H.to 6 0 ⟨Nat.le_trans hN (Nat.le_of_ble_eq_true rfl), Nat.le_trans hR (Nat.zero_le _)⟩ ⟨rfl, rfl, rfl, rfl, rfl, rfl, rfl, rfl, rfl, rfl, rfl, rfl, trivial⟩ rfl rfl rfl rfl rfl⟩
          · have hde : decide (zk = key) = false := decide_eq_false hzk
            clear hX; have hX := And.intro @hk (And.intro @hF (And.intro @hRl (And.intro @hg (And.intro @hz (@hde)))))
            refine mS ?_; refine mD 0 [17] [] H ?_; clear H; intro gS H
            refine mTN 3 hN H ?_; clear H; intro a w H; simp only [List.drop_succ_cons, List.drop_zero, List.drop_nil]
            refine mTN 3 hN H ?_; clear H; intro a w H; simp only [List.drop_succ_cons, List.drop_zero, List.drop_nil]
            refine mTN 1 hN H ?_; clear H; intro a w H; simp only [List.drop_succ_cons, List.drop_zero, List.drop_nil]
            refine mTN 1 hN H ?_; clear H; intro a w H; simp only [List.drop_succ_cons, List.drop_zero, List.drop_nil]
            refine mSkT .any H ?_; clear H; intro a w H
            refine mSkT .any H ?_; clear H; intro a w H
            refine mSkT .any H ?_; clear H; intro a w H
            refine mSkT2 .any H ?_; clear H; intro a w H
            refine mSkT2 .any H ?_; clear H; intro a w H
            refine mSkT2 .any H ?_; clear H; intro a w H
            refine mSkT2 .any H ?_; clear H; intro a w H
            refine mSkT2 .any H ?_; clear H; intro a w H
            refine mSkT2 .any H ?_; clear H; intro a w H
            refine mSkT2 .any H ?_; clear H; intro a w H
            refine mSkT2 .any H ?_; clear H; intro a w H
            refine mSkT (.v (.bool false)) H ?_; clear H; intro a w H
            refine mT ?_; clear H; intro a w H
            refine v_drawNil H ?_; clear H; intro H
            refine mC H (fun hb => ?_) (fun hb => ?_)
            · cases hb
            · clear hb
              refine mS ?_
              clear hX; have hX := And.intro @hk (And.intro @hF (@hRl))
              refine mW ?_; clear H; intro a w H
              rw [show (i : Int) + 1 = ((i + 1 : Nat) : Int) by omega] at H
              exact ⟨i + 1, hlt, by omega, H.to 6 0 ⟨Nat.le_trans hN (Nat.le_of_ble_eq_true rfl), Nat.le_trans hR (Nat.zero_le _)⟩ ⟨rfl, rfl, rfl, rfl, rfl, rfl, rfl, rfl, rfl, rfl, rfl, rfl, trivial⟩ rfl rfl rfl rfl rfl⟩
        · clear hb
          have hbb : (b == b) = true := beq_self_eq_true b
          have huu : decide ((t.used : Int) = (t.used : Int)) = true := decide_eq_true rfl
          have hRR : decide (R = R) = true := decide_eq_true rfl
          replace H := v_ref H 10 5 (Nat.le_trans hN (Nat.le_of_ble_eq_true rfl)) rfl rfl rfl
          simp only [nilT, strip, Nat.reduceEqDiff, reduceIte] at H
          refine mS ?_; refine mD 0 [13, 20] [14, 21] H ?_; clear H; intro gS H
          refine mTN 2 hN H ?_; clear H; intro a w H; simp only [List.drop_succ_cons, List.drop_zero, List.drop_nil]
          try simp only [decide_true] at H
          refine mTN 1 hN H ?_; clear H; intro a w H; simp only [List.drop_succ_cons, List.drop_zero, List.drop_nil]
          replace H := v_knownT H 152 true (by rfl)
          simp only [unG, gdEq, Nat.reduceBEq, cond_true, cond_false] at H
          replace H := ntf H
          refine mTN 2 hN H ?_; clear H; intro a w H; simp only [List.drop_succ_cons, List.drop_zero, List.drop_nil]
          try simp only [decide_true] at H
          refine mTN 1 hN H ?_; clear H; intro a w H; simp only [List.drop_succ_cons, List.drop_zero, List.drop_nil]
          refine mTN 1 hN H ?_; clear H; intro a w H; simp only [List.drop_succ_cons, List.drop_zero, List.drop_nil]
          replace H := v_knownT H 156 true (by rfl)
          simp only [unG, gdEq, Nat.reduceBEq, cond_true, cond_false] at H
          replace H := ntf H
          refine mTN 3 hN H ?_; clear H; intro a w H; simp only [List.drop_succ_cons, List.drop_zero, List.drop_nil]
          try simp only [hbb] at H
          refine mTN 1 hN H ?_; clear H; intro a w H; simp only [List.drop_succ_cons, List.drop_zero, List.drop_nil]
          refine mTN 1 hN H ?_; clear H; intro a w H; simp only [List.drop_succ_cons, List.drop_zero, List.drop_nil]
          replace H := v_knownT H 161 true (by rfl)
          simp only [unG, gdEq, Nat.reduceBEq, cond_true, cond_false] at H
          replace H := ntf H
          refine mTN 1 hN H ?_; clear H; intro a w H; simp only [List.drop_succ_cons, List.drop_zero, List.drop_nil]
          replace H := v_knownT H 161 true (by rfl)
          simp only [unG, gdEq, Nat.reduceBEq, cond_true, cond_false] at H
          replace H := ntf H
          refine v_guardT H (by rfl) (by rfl) (by rfl) ?_
          refine mCallT [1, 2, 3, 4] [] (hoc) H ?_; clear H; intro a w H
          refine mTN 2 hN H ?_; clear H; intro a w H; simp only [List.drop_succ_cons, List.drop_zero, List.drop_nil]
          try simp only [huu] at H
          refine mTN 1 hN H ?_; clear H; intro a w H; simp only [List.drop_succ_cons, List.drop_zero, List.drop_nil]
          refine mTN 1 hN H ?_; clear H; intro a w H; simp only [List.drop_succ_cons, List.drop_zero, List.drop_nil]
          replace H := v_knownT H 167 true (by rfl)
          simp only [unG, gdEq, Nat.reduceBEq, cond_true, cond_false] at H
          replace H := ntf H
          refine mTN 2 hN H ?_; clear H; intro a w H; simp only [List.drop_succ_cons, List.drop_zero, List.drop_nil]
          replace H := v_knownT H 167 true (by rfl)
          simp only [unG, gdEq, Nat.reduceBEq, cond_true, cond_false] at H
          replace H := ntf H
          refine v_guardT H (by rfl) (by rfl) (by rfl) ?_
          refine mCallT [1, 2, 3, 4] [] (hdg) H ?_; clear H; intro a w H
          refine mTN 2 hN H ?_; clear H; intro a w H; simp only [List.drop_succ_cons, List.drop_zero, List.drop_nil]
          try simp only [hRR] at H
          refine mTN 1 hN H ?_; clear H; intro a w H; simp only [List.drop_succ_cons, List.drop_zero, List.drop_nil]
          refine mT ?_; clear H; intro a w H
          refine v_drawNil H ?_; clear H; intro H
          refine mW ?_; clear H; intro a w H
          refine wp_ret ?_; exact mEnd [] [] [.tmp 4] [_] hN hR H
end Go.Proofs.YtgffimanhmpohaaGreat
/- Nodes among the arguments. -/
namespace Go.Proofs.YtgffimanhmpohaaGreat
open Go Go.RowKit
end Go.Proofs.YtgffimanhmpohaaGreat
/- Entries among the arguments. -/
namespace Go.Proofs.YtgffimanhmpohaaGreat
open Go Go.RowKit
theorem pair_sh {M d : Nat} {a : AV} (h : Sh tab M (d + 2) 53 a) : ∃ p : Pr, a = prA p ∧ p.1.length = 32 ∧ p.2.length ≤ M := by
  obtain ⟨az, rfl, hs⟩ := h.rcd rfl rfl
  clear h; have h := hs; clear hs; dsimp only [List.map] at h
  obtain ⟨a0, r, rfl, h0, h⟩ := shl_cons h
  obtain ⟨a1, r, rfl, h1, h⟩ := shl_cons h
  obtain rfl := shl_nil h
  obtain ⟨k, rfl, hk⟩ := h0.arr rfl rfl
  obtain ⟨v, rfl, hv⟩ := h1.bytes rfl rfl rfl
  exact ⟨(k, v), rfl, hk, hv⟩
theorem pairs_sh {M d : Nat} {a : AV} (h : Sh tab M (d + 3) 22 a) : ∃ l : List Pr, a = .sl prT (l.map prA) none ∧ K32 l ∧ l.length ≤ M ∧ ∀ x ∈ l, x.2.length ≤ M := by
  obtain ⟨es, rfl, hl, he⟩ := h.slc rfl rfl rfl
  obtain ⟨ys, rfl, hy⟩ := sh_list (q := fun p : Pr => p.1.length = 32 ∧ p.2.length ≤ M) (f := prA) (fun x hx => pair_sh hx) he
  exact ⟨ys, rfl, fun x hx => (hy x hx).1, by simpa using hl, fun x hx => (hy x hx).2⟩
end Go.Proofs.YtgffimanhmpohaaGreat
/- WalkWays, of all arguments of its types. -/
namespace Go.Proofs.YtgffimanhmpohaaGreat
open Go Go.RowKit
theorem walkWays_az (az : List AV) (h : ShL (Sh tab 1048576 6) [22, 24] az) : VC Tryz.prog 3 az [] (.v (.bool true)) := by
  obtain ⟨a0, r, rfl, h0, h⟩ := shl_cons h
  obtain ⟨a1, r, rfl, h1, h⟩ := shl_cons h
  obtain rfl := shl_nil h
  obtain ⟨m, rfl, k1, k2, k3⟩ := pairs_sh h0
  obtain ⟨key, rfl, q0⟩ := h1.arr rfl rfl
  exact walkWays_v m k1 (Nat.le_trans k2 (by decide)) (fun x hx => Nat.le_trans (k3 x hx) (by decide)) key q0
end Go.Proofs.YtgffimanhmpohaaGreat
