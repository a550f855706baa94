/- mpack.kinds. -/
import Derived.Test.YtigmpdhnhkdeiaaSel
import Derived.Test.YtigmpdhnhkdeiaaSk
import Derived.Test.YtigmpdhnhkdeiaaFrz
set_option linter.unusedSimpArgs false
set_option linter.unusedVariables false
namespace Go.Proofs.Ytigmpdhnhkdeiaa
open Go Go.RowKit
theorem cnt_ok {b : List UInt8} {n : Nat} (hn : n ≤ (kinds b).length) (hr : runD [0] ((kinds b).take n) = some []) (hp : ∀ j, j < n → ∃ s', runD [0] ((kinds b).take j) = some s' ∧ s' ≠ []) : cntK b = some n := by
  cases h : cntK b with
  | none =>
    exfalso
    obtain ⟨m, s', h1, h2, h3, h4, h5⟩ := cntK_none h
    rcases Nat.lt_trichotomy n m with e | e | e
    · obtain ⟨s2, q1, q2⟩ := h4 n e
      rw [hr] at q1; injection q1 with q1; exact q2 q1.symm
    · subst e; rw [hr] at h2; injection h2 with h2; exact h3 h2.symm
    · rcases h5 with h5 | ⟨h5, h6⟩
      · omega
      · have h7 : runD [0] ((kinds b).take (m + 1)) = none := by
          rw [List.take_succ_eq_append_getElem h5, runD_snoc, h2, Option.bind_some, if_neg (by rw [h6]; decide)]
        have h8 := runD_pre (((kinds b).take n).drop (m + 1)) _ h7
        have e2 : (kinds b).take (m + 1) = ((kinds b).take n).take (m + 1) := by rw [List.take_take, Nat.min_eq_left (by omega)]
        rw [e2, List.take_append_drop, hr] at h8; cases h8
  | some m =>
    obtain ⟨h1, h2, h3, h4⟩ := cntK_some h
    rcases Nat.lt_trichotomy n m with e | e | e
    · exfalso
      obtain ⟨s2, q1, q2⟩ := h4 n e
      rw [hr] at q1; injection q1 with q1; exact q2 q1.symm
    · rw [e]
    · exfalso
      obtain ⟨s2, q1, q2⟩ := hp m e
      rw [h3] at q1; injection q1 with q1; exact q2 q1.symm
theorem cnt_no {b : List UInt8} {n : Nat} {s : List Nat} (hr : runD [0] ((kinds b).take n) = some s) (hs : s ≠ []) (hp : ∀ j, j < n → ∃ s', runD [0] ((kinds b).take j) = some s' ∧ s' ≠ [])
    (hc : (kinds b).length ≤ n ∨ ∃ h : n < (kinds b).length, (takeD s (kinds b)[n]).1 = false) : cntK b = none := by
  cases h : cntK b with
  | none => rfl
  | some m =>
    exfalso
    obtain ⟨h1, h2, h3, h4⟩ := cntK_some h
    rcases Nat.lt_trichotomy n m with e | e | e
    · rcases hc with hc | ⟨hc, h6⟩
      · rw [kinds_len] at hc; omega
      · have h7 : runD [0] ((kinds b).take (n + 1)) = none := by
          rw [List.take_succ_eq_append_getElem hc, runD_snoc, hr, Option.bind_some, if_neg (by rw [h6]; decide)]
        have h8 := runD_pre (((kinds b).take m).drop (n + 1)) _ h7
        have e2 : (kinds b).take (n + 1) = ((kinds b).take m).take (n + 1) := by rw [List.take_take, Nat.min_eq_left (by omega)]
        rw [e2, List.take_append_drop, h3] at h8; cases h8
    · subst e; rw [hr] at h3; injection h3 with h3; exact hs h3
    · obtain ⟨s2, q1, q2⟩ := hp m e
      rw [h3] at q1; injection q1 with q1; exact q2 q1.symm
attribute [local irreducible] wpT
set_option maxRecDepth 20000 in
set_option maxHeartbeats 4000000 in
theorem mkinds_v (b : List UInt8) (hl : b.length ≤ 16000) : VC Try.prog 168 [.bs b none] (match cntK b with | some n => [(51, n)] | none => [])
    (match cntK b with | some n => .tup [.bs ((kinds b).take n) (some 0), .v (.int .i64 (((n + 3) / 4 : Nat) : Int))] | none => .tup [.v (.slice none 0 0), .v (.int .i64 0)]) := by
  have hkl := kinds_len b
  refine mE Try.func168 ?_; intro N w0 a w hN hR H
  refine mS ?_
  (try refine wp_region_lit ?_); refine mN 2 hN H ?_; clear H; intro a w H
  refine wpList_nil ?_
  refine mS ?_
  (try refine wp_region_lit ?_); refine mN 1 hN H ?_; clear H; intro a w H
  refine wpList_nil ?_
  replace H := v_nilB tab_ok H 4 51 (j := ti51) rfl (by decide) rfl
  simp only [nilT, Nat.reduceEqDiff, reduceIte] at H
  refine mS ?_
  refine wp_region_lit ?_
  refine v_bsV (i := ti340) (j := ti3) (n := 1) (ps := [(0, .const (.int .i64 0))]) tab_ok rfl rfl rfl (by decide) (by decide) H rfl ⟨by trivial, trivial⟩ (by decide) ?_
  clear H; intro a w H; replace H := nf H
  refine mW ?_; clear H; intro a w H
  refine v_loop (fun i : Nat × Nat × List AV × List Nat => ⟨[(5, none, .ptr 1 []), (4, none, .bs ((kinds b).take i.1) (some 0)), (3, none, .v (.int .i64 0)), (2, none, .v (.slice none 0 0)), (0, none, .bs b none)], [(dpT, .vc i.2.1 i.2.2.1), (.sc, .vw 0 i.2.1 i.2.2.2.length)], [], [(51, i.1)]⟩)
    (fun i => i.1 ≤ (kinds b).length ∧ Stk i.2.2.1 i.2.2.2 ∧ runD [0] ((kinds b).take i.1) = some i.2.2.2 ∧ ∀ j, j < i.1 → ∃ s', runD [0] ((kinds b).take j) = some s' ∧ s' ≠ []) (fun i => (kinds b).length - i.1) (0, 0, [.v (.int .i64 0)], [0]) ⟨Nat.zero_le _, Stk.init, rfl, fun j hj => absurd hj (Nat.not_lt_zero j)⟩
    (H.to 2 1 ⟨Nat.le_trans hN (Nat.le_of_ble_eq_true rfl), Nat.le_trans hR (Nat.le_of_ble_eq_true rfl)⟩ ⟨rfl, rfl, rfl, rfl, rfl, trivial⟩ rfl rfl rfl rfl rfl) ?_
  clear H
  rintro ⟨n, γ, es, s⟩ a w ⟨hn, hst, hrun, hpr⟩ H
  dsimp only at hn hst hrun hpr H
  have htl : ((kinds b).take n).length = n := by rw [List.length_take]; omega
  have hsl : s.length ≤ 65537 := by
    have := runD_len _ _ _ hrun
    rw [htl] at this
    simp only [List.length_cons, List.length_nil] at this
    omega
  have hsd := runD_le _ _ _ (fun d hd => by rw [List.mem_singleton.1 hd]; omega) hrun
  have hd4 := div4 n
  have hX := And.intro @hkl (@htl)
  refine mW ?_; clear H; intro a w H
  refine mC H (fun hb => ?_) (fun hb => ?_)
  · rw [decide_eq_true_eq] at hb
    have hs0 : s ≠ [] := fun e => by rw [e] at hb; simp at hb
    clear hb
    have hno := cnt_no hrun hs0 hpr
    refine mW ?_; clear H; intro a w H
    refine mC H (fun hb => ?_) (fun hb => ?_)
    · have hge : (kinds b).length ≤ n := by
        cases hd : decide ((b.length : Int) ≤ (n : Int) / 4)
        · rw [hd] at hb
          have : decide ((65536 : Int) ≤ (n : Int)) = true := hb
          rw [decide_eq_true_eq] at this; omega
        · rw [decide_eq_true_eq] at hd; omega
      have e := hno (.inl hge)
      clear hb
      simp only [e]
      refine mW ?_; clear H; intro a w H
      refine wp_ret ?_; exact mEnd [] [] [.tmp 2, .tmp 3] [_, _] hN hR H
    · have hlt : n < (kinds b).length := by
        cases hd : decide ((b.length : Int) ≤ (n : Int) / 4)
        · rw [decide_eq_false_iff_not] at hd; omega
        · rw [hd] at hb; cases hb
      clear hb
      obtain ⟨k, hk⟩ : ∃ k, k = kOf (b.getD (n / 4) 0) n := ⟨_, rfl⟩
      have hkg : (kinds b)[n] = k := by rw [hk]; exact kinds_get b n hlt
      have hos := and_shr (b.getD (n / 4) 0) n
      rw [show (b.getD (n / 4) 0 >>> UInt8.ofNat (6 - 2 * (n % 4))) &&& 3 = k from hk.symm] at hos
      have htk : (kinds b).take (n + 1) = (kinds b).take n ++ [k] := by rw [List.take_succ_eq_append_getElem hlt, hkg]
      have hnok : (takeD s k).1 = false → cntK b = none := fun h => hno (.inr ⟨hlt, by rw [hkg]; exact h⟩)
      have hrun2 : (takeD s k).1 = true → runD [0] ((kinds b).take (n + 1)) = some (takeD s k).2 := fun h => by
        rw [htk, runD_snoc, hrun, Option.bind_some, if_pos h]
      have hpr2 : ∀ j, j < n + 1 → ∃ s', runD [0] ((kinds b).take j) = some s' ∧ s' ≠ [] := fun j hj => by
        by_cases e : j < n
        · exact hpr j e
        · have : j = n := by omega
          subst this; exact ⟨s, hrun, hs0⟩
      have hlt4 : n / 4 < b.length := by omega
      have hkr : 0 ≤ (k.toNat : Int) ∧ (k.toNat : Int) ≤ 255 := by have := k.toNat_lt; omega
      clear hno hk hkg
      clear hX; have hX := And.intro @hkl (And.intro @htl (And.intro @hd4 (And.intro @hos (And.intro @hlt4 (@hkr)))))
      refine mW ?_; clear H; intro a w H
      cases s with
      | nil => exact absurd rfl hs0
      | cons d s =>
        simp only [List.length_cons] at H hsl
        by_cases hk2 : k = 2
        · have hd6 := hsd d List.mem_cons_self
          have ht := take_in γ s.length d es hst.l hst.get (by omega) (by omega)
          rw [hk2] at H hnok hrun2 htk
          rw [takeD_cons, if_pos rfl] at hnok hrun2
          refine mCall [1, 0] [] (ht) H ?_; clear H; intro a w H; try refine wpList_nil ?_
          by_cases hlt2 : d < 256
          · have hr2 := hrun2 (decide_eq_true hlt2)
            rw [decide_eq_true hlt2] at H
            refine mW ?_; clear H; intro a w H
            refine mC H (fun hb => ?_) (fun hb => ?_)
            · exact absurd hb (by decide)
            · clear hb
              refine mW ?_; clear H; intro a w H
              rw [← htk] at H
              replace H := mK [0, 2, 3, 4, 5] 3 1 hN hR H
              replace H := v_selB [0, 2] [0] [] ⟨Nat.le_trans hN (Nat.zero_le 0), Nat.le_trans hR (Nat.zero_le 0)⟩ H
              simp only [pickB, List.filterMap_cons, List.filterMap_nil, List.getElem?_cons_zero, List.getElem?_cons_succ, Option.map_some, List.map_cons, List.map_nil, ren, idx?, List.idxOf_cons, List.length_cons, List.length_nil, Nat.reduceAdd, Nat.reduceBEq, cond_true, cond_false, Nat.reduceLT, if_true, Option.some.injEq] at H
              exact ⟨(n + 1, γ + 1, es.take s.length ++ [.v (.int .i64 ((d + 1 : Nat) : Int)), .v (.int .i64 ((d + 1 : Nat) : Int))], (d + 1) :: (d + 1) :: s), ⟨hlt, hst.push, hr2, hpr2⟩, by dsimp only; omega, H.to 2 1 ⟨Nat.le_trans hN (Nat.le_of_ble_eq_true rfl), Nat.le_trans hR (Nat.le_of_ble_eq_true rfl)⟩ ⟨rfl, rfl, rfl, rfl, rfl, trivial⟩ rfl rfl rfl rfl rfl⟩
          · have e := hnok (decide_eq_false hlt2)
            rw [decide_eq_false hlt2] at H
            refine mW ?_; clear H; intro a w H
            refine mC H (fun hb => ?_) (fun hb => ?_)
            · clear hb
              simp only [e]
              refine mW ?_; clear H; intro a w H
              refine wp_ret ?_; exact mEnd [] [] [.tmp 2, .tmp 3] [_, _] hN hR H
            · exact absurd hb (by decide)
        · rw [takeD_cons, if_neg hk2] at hnok hrun2
          have hr2 := hrun2 rfl
          refine mCall [1, 0] [] ((take_pop γ s.length d es k hk2 hst.l hst.get (by omega))) H ?_; clear H; intro a w H; try refine wpList_nil ?_
          refine mW ?_; clear H; intro a w H
          refine mC H (fun hb => ?_) (fun hb => ?_)
          · exact absurd hb (by decide)
          · clear hb
            refine mW ?_; clear H; intro a w H
            rw [← htk] at H
            replace H := mK [0, 2, 3, 4, 5] 3 1 hN hR H
            replace H := v_selB [0, 2] [0] [] ⟨Nat.le_trans hN (Nat.zero_le 0), Nat.le_trans hR (Nat.zero_le 0)⟩ H
            simp only [pickB, List.filterMap_cons, List.filterMap_nil, List.getElem?_cons_zero, List.getElem?_cons_succ, Option.map_some, List.map_cons, List.map_nil, ren, idx?, List.idxOf_cons, List.length_cons, List.length_nil, Nat.reduceAdd, Nat.reduceBEq, cond_true, cond_false, Nat.reduceLT, if_true, Option.some.injEq] at H
            exact ⟨(n + 1, γ, es, s), ⟨hlt, hst.pop, hr2, hpr2⟩, by dsimp only; omega, H.to 2 1 ⟨Nat.le_trans hN (Nat.le_of_ble_eq_true rfl), Nat.le_trans hR (Nat.le_of_ble_eq_true rfl)⟩ ⟨rfl, rfl, rfl, rfl, rfl, trivial⟩ rfl rfl rfl rfl rfl⟩
  · rw [decide_eq_false_iff_not] at hb
    have hs0 : s = [] := List.length_eq_zero_iff.1 (by omega)
    clear hb
    subst hs0
    have e := cnt_ok hn hrun hpr
    simp only [e]
    refine mW ?_; clear H; intro a w H
    rw [show ((n : Int) + 4 - 1) / 4 = (((n + 3) / 4 : Nat) : Int) by omega] at H
    refine wp_ret ?_; exact mEnd [] [0] [.tmp 2, .tmp 3] [_, _] hN hR H
end Go.Proofs.Ytigmpdhnhkdeiaa
/- ref21.read, ref21.Decode. -/
namespace Go.Proofs.Ytigmpdhnhkdeiaa
open Go Go.RowKit
/-- Parts read until there are too few bytes; were there enough? -/
def mrdA : List UInt8 → List UInt8 → List Br × Bool
  | [], _ => ([], true)
  | k :: t, l => match partB k l with
    | none => ([], false)
    | some (b, r) => (b :: (mrdA t r).1, (mrdA t r).2)
theorem mrdA_some : ∀ {ks l r : List UInt8} {p : List Br}, mrdB ks l = some (p, r) → mrdA ks l = (p, true)
  | [], l, r, p, h => by
    simp only [mrdB, Option.some.injEq, Prod.mk.injEq] at h
    rw [mrdA, h.1]
  | k :: t, l, r, p, h => by
    rw [mrdB] at h
    obtain ⟨⟨b, l1⟩, h1, h2⟩ := Option.bind_eq_some_iff.1 h
    obtain ⟨⟨p1, r1⟩, h3, h4⟩ := Option.map_eq_some_iff.1 h2
    simp only [Prod.mk.injEq] at h4
    obtain ⟨rfl, rfl⟩ := h4
    rw [mrdA, h1]
    dsimp only at h3 ⊢
    rw [mrdA_some h3]
theorem mrdA_none : ∀ {ks l : List UInt8}, mrdB ks l = none → (mrdA ks l).2 = false
  | [], l, h => by cases h
  | k :: t, l, h => by
    rw [mrdB] at h
    cases hp : partB k l with
    | none => rw [mrdA, hp]
    | some x =>
      obtain ⟨b, l1⟩ := x
      rw [hp, Option.bind_some, Option.map_eq_none_iff] at h
      rw [mrdA, hp]
      exact mrdA_none h
theorem mrdA_app : ∀ {ks ms l r : List UInt8} {p : List Br}, mrdB ks l = some (p, r) → mrdA (ks ++ ms) l = (p ++ (mrdA ms r).1, (mrdA ms r).2)
  | [], ms, l, r, p, h => by
    simp only [mrdB, Option.some.injEq, Prod.mk.injEq] at h
    rw [List.nil_append, ← h.1, ← h.2, List.nil_append]
  | k :: t, ms, l, r, p, h => by
    rw [mrdB] at h
    obtain ⟨⟨b, l1⟩, h1, h2⟩ := Option.bind_eq_some_iff.1 h
    obtain ⟨⟨p1, r1⟩, h3, h4⟩ := Option.map_eq_some_iff.1 h2
    simp only [Prod.mk.injEq] at h4
    obtain ⟨rfl, rfl⟩ := h4
    rw [List.cons_append, mrdA, h1]
    dsimp only at h3 ⊢
    rw [mrdA_app h3]; rfl
theorem mrdA_stop {ks l r : List UInt8} {p : List Br} {j : Nat} (hj : j < ks.length) (h : mrdB (ks.take j) l = some (p, r)) (hn : partB ks[j] r = none) : mrdA ks l = (p, false) := by
  have := mrdA_app (ms := ks.drop j) h
  rw [List.take_append_drop, List.drop_eq_getElem_cons hj, mrdA, hn] at this
  rw [this, List.append_nil]
theorem slc32 (b : List UInt8) (i : Nat) : (b.take ((i : Int) + 32).toNat).drop i = (b.drop i).take 32 := by
  rw [show ((i : Int) + 32).toNat = i + 32 by omega, List.drop_take, Nat.add_sub_cancel_left]
attribute [local irreducible] wpT
set_option maxRecDepth 20000 in
set_option maxHeartbeats 4000000 in
theorem read21_v (b : List UInt8) (hl : b.length ≤ 16000) (n : Nat) (hc : cntK b = some n) (A : List Br × Bool) (hA : mrdA ((kinds b).take n) (b.drop ((n + 3) / 4)) = A) :
    VC Try.prog 171 [.bs b none] [(54, A.1.length)] (.tup [.st [.sl brT (brs A.1) (some 0)], .v (.bool A.2)]) := by
  have hkl := kinds_len b
  obtain ⟨c1, c2, c3, c4⟩ := cntK_some hc
  have hk := kinds21_v b hl
  have ht := tree_v (kinds b) (by omega) 257 0 0 rfl (Nat.zero_le _)
  have htn : treeN (kinds b) 257 0 0 = (n : Int) := by
    unfold cntK at hc
    obtain ⟨r, h1, h2⟩ := Option.map_eq_some_iff.1 hc
    unfold treeN
    rw [List.drop_zero, h1]
    dsimp only
    rw [hkl, h2]
  rw [htn] at ht
  have hktl : ((kinds b).take n).length = n := by rw [List.length_take]; omega
  have hgk : ∀ j (h : j < n), ∃ h2 : j < ((kinds b).take n).length, (kinds b).getD j 0 = ((kinds b).take n)[j] := fun j h => ⟨by omega, by rw [List.getElem_take, List.getD_eq_getElem?_getD, List.getElem?_eq_getElem (by omega)]; rfl⟩
  have hst := fun (j : Nat) (P : List Br) (r : List UInt8) => @mrdA_stop ((kinds b).take n) (b.drop ((n + 3) / 4)) r P j
  have hso := @mrdA_some ((kinds b).take n) (b.drop ((n + 3) / 4))
  rw [hA] at hso
  simp only [hA] at hst
  generalize hK : (kinds b).take n = ks at *
  have hls : ∀ (j : Nat) (P : List Br) (r : List UInt8), mrdB (ks.take j) (b.drop ((n + 3) / 4)) = some (P, r) → ∀ (h : j < ks.length) x r', partB ks[j] r = some (x, r') → mrdB (ks.take (j + 1)) (b.drop ((n + 3) / 4)) = some (P ++ [x], r') := fun j P r h1 h x r' h2 => by
    rw [List.take_succ_eq_append_getElem h, mrdB_snoc, h1, Option.bind_some, h2]; rfl
  refine mE Try.func171 ?_; intro N w0 a w hN hR H
  refine mW ?_; clear H; intro a w H
  refine mCall [] [] (hk) H ?_; clear H; intro a w H; try refine wpList_nil ?_
  have hX := @hkl
  refine mW ?_; clear H; intro a w H
  refine mCall [] [] (ht) H ?_; clear H; intro a w H; try refine wpList_nil ?_
  refine mW ?_; clear H; intro a w H
  refine mC H (fun hb => ?_) (fun hb => ?_)
  · rw [decide_eq_true_eq] at hb; omega
  · clear hb
    refine mW ?_; clear H; intro a w H
    rw [show ((n : Int) + 3) / 4 = (((n + 3) / 4 : Nat) : Int) by omega] at H
    replace H := v_sub H 5 (x := .bs (kinds b) (some 0)) (y := .bs (kinds b) none) rfl rfl (fun az h => by cases h) rfl
    simp only [nilT, Nat.reduceEqDiff, reduceIte] at H
    replace H := mK [0, 2, 3, 4, 5, 6, 7, 8] 2 1 hN hR H
    replace H := v_nilX tab_ok H 1 0 54 (j := ti54) brT rfl (by decide) rfl rfl
    simp only [List.set_cons_succ, List.set_cons_zero, List.length_cons, List.length_nil, Nat.reduceAdd, List.cons_append, List.nil_append] at H
    refine v_loop (fun i : Nat × List Br × Nat => ⟨[(8, none, .v (.int .i64 (i.1 : Int))), (7, none, .v (.int .i64 (i.2.2 : Int))), (6, none, .v (.int .i64 (n : Int))), (5, none, .bs (kinds b) none), (4, none, .ptr 1 []), (3, none, .v (.bool false)), (2, none, .ptr 0 []), (0, none, .bs b none)], [(.cn .sc .nl, .st [.v (.slice none 0 0)]), (.cn .sc .nl, .st [.sl brT (brs i.2.1) (some 1)])], [], [(51, 4 * b.length), (54, i.1)]⟩)
      (fun i => i.1 ≤ n ∧ i.2.2 ≤ b.length ∧ i.2.1.length = i.1 ∧ mrdB (ks.take i.1) (b.drop ((n + 3) / 4)) = some (i.2.1, b.drop i.2.2)) (fun i => n - i.1) (0, [], (n + 3) / 4) ⟨Nat.zero_le _, by dsimp only; omega, rfl, rfl⟩ (H.to 2 2 ⟨Nat.le_trans hN (Nat.le_of_ble_eq_true rfl), Nat.le_trans hR (Nat.zero_le _)⟩ ⟨rfl, rfl, rfl, rfl, rfl, rfl, rfl, rfl, trivial⟩ rfl rfl rfl rfl rfl) ?_
    clear H
    rintro ⟨j, P, q⟩ a w ⟨hj, hq, hPl, hmr⟩ H
    dsimp only at hj hq hPl hmr H
    have hbl := brs_len P
    rw [hPl] at hbl
    have hz2 := z32_len
    clear hX; have hX := And.intro @hkl (And.intro @hbl (@hz2))
    refine mW ?_; clear H; intro a w H
    refine mC H (fun hb => ?_) (fun hb => ?_)
    · have hlt : j < n := by rw [decide_eq_true_eq] at hb; omega
      clear hb
      obtain ⟨hjk, hg⟩ := hgk j hlt
      have hst := hst j P _ hjk hmr
      have hls := hls j P _ hmr hjk
      generalize ks[j] = k at *
      have hkr : 0 ≤ (k.toNat : Int) ∧ (k.toNat : Int) ≤ 255 := by have := k.toNat_lt; omega
      have k1 : decide ((k.toNat : Int) = 1) = decide (k = 1) := kz k 1 (by decide)
      have k3 : decide ((k.toNat : Int) = 3) = decide (k = 3) := kz k 3 (by decide)
      have hdl : (b.drop q).length = b.length - q := List.length_drop
      have sl1 := slc32 b q
      clear hX; have hX := And.intro @hkl (And.intro @hbl (And.intro @hz2 (And.intro @hg (@hkr))))
      refine mW ?_; clear H; intro a w H
      by_cases e1 : k = 1
      · rw [decide_eq_true e1] at k1
        have k3f : decide ((k.toNat : Int) = 3) = false := by rw [e1]; decide
        clear k3
        refine mC H (fun hb => ?_) (fun hb => ?_)
        · clear hb
          refine mW ?_; clear H; intro a w H
          refine mC H (fun hb => ?_) (fun hb => ?_)
          · rw [decide_eq_true_eq] at hb
            have hn := hst (by unfold partB; rw [if_pos e1, if_pos (by omega)])
            subst hn
            clear hb hso
            refine mW ?_; clear H; intro a w H
            refine wp_ret ?_; exact mEnd [] [1] [.cell 2 44, .tmp 3] [_, _] hN hR H
          · rw [decide_eq_false_iff_not] at hb
            have h32 : ((b.drop q).take 32).length = 32 := by rw [List.length_take]; omega
            have hof := ofR_v _ h32
            have hq32 : q + 32 ≤ b.length := by omega
            clear hb
            clear hX; have hX := And.intro @hkl (And.intro @hbl (And.intro @hz2 (And.intro @hg (And.intro @hkr (And.intro @sl1 (@hq32))))))
            refine mW ?_; clear H; intro a w H
            refine mCall [] [] (hof) H ?_; clear H; intro a w H; try refine wpList_nil ?_
            clear hX; have hX := And.intro @hkl (And.intro @hbl (And.intro @hz2 (And.intro @hg (And.intro @hkr (@h32)))))
            refine mW ?_; clear H; intro a w H
            rw [show (q : Int) + 32 = ((q + 32 : Nat) : Int) by omega] at H
            refine mC H (fun hb => ?_) (fun hb => ?_)
            · rw [k3f] at hb; cases hb
            · clear hb
              refine mW ?_; clear H; intro a w H
              refine mC H (fun hb => ?_) (fun hb => ?_)
              · clear hb
                refine mW ?_; clear H; intro a w H
                refine mC H (fun hb => ?_) (fun hb => ?_)
                · rw [decide_eq_true_eq] at hb
                  have hn := hst (by unfold partB; rw [if_pos e1, if_pos (by omega)])
                  subst hn
                  clear hb hso
                  refine mW ?_; clear H; intro a w H
                  refine wp_ret ?_; exact mEnd [] [1] [.cell 2 44, .tmp 3] [_, _] hN hR H
                · rw [decide_eq_false_iff_not] at hb
                  have h32' : ((b.drop (q + 32)).take 32).length = 32 := by rw [List.length_take, List.length_drop]; omega
                  have hof2 := ofR_v _ h32'
                  have hq64 : q + 32 + 32 ≤ b.length := by omega
                  have sl2 := slc32 b (q + 32)
                  have hp1 : partB k (b.drop q) = some (⟨k, (b.drop q).take 32, (b.drop (q + 32)).take 32, z32⟩, b.drop (q + 32 + 32)) := by
                    unfold partB; rw [if_pos e1, if_neg (by omega), List.drop_drop, List.drop_drop]
                  clear hb
                  clear hX; have hX := And.intro @hkl (And.intro @hbl (And.intro @hz2 (And.intro @hg (And.intro @hkr (And.intro @h32 (And.intro @sl2 (@hq64)))))))
                  refine mW ?_; clear H; intro a w H
                  refine mCall [] [] (hof2) H ?_; clear H; intro a w H; try refine wpList_nil ?_
                  clear hX; have hX := And.intro @hkl (And.intro @hbl (And.intro @hz2 (And.intro @hg (And.intro @hkr (And.intro @h32 (@h32'))))))
                  refine mW ?_; clear H; intro a w H
                  rw [show ((q + 32 : Nat) : Int) + 32 = ((q + 32 + 32 : Nat) : Int) by omega] at H
                  refine mW ?_; clear H; intro a w H
                  rw [show (j : Int) + 1 = ((j + 1 : Nat) : Int) by omega] at H
                  exact ⟨(j + 1, P ++ [⟨k, (b.drop q).take 32, (b.drop (q + 32)).take 32, z32⟩], q + 32 + 32), ⟨hlt, by dsimp only; omega, by simp [hPl], hls _ _ hp1⟩, by dsimp only; omega, H.to 2 2 ⟨Nat.le_trans hN (Nat.le_of_ble_eq_true rfl), Nat.le_trans hR (Nat.zero_le _)⟩ ⟨rfl, rfl, rfl, rfl, rfl, rfl, rfl, rfl, trivial⟩ (by simp only [brs, List.map_append, List.map_cons, List.map_nil, Br.av]; rfl) (by rfl) rfl rfl rfl⟩
              · rw [k1] at hb; cases hb
        · rw [k1] at hb; cases hb
      · rw [decide_eq_false e1] at k1
        by_cases e3 : k = 3
        · rw [decide_eq_true e3] at k3
          refine mC H (fun hb => ?_) (fun hb => ?_)
          · clear hb
            refine mW ?_; clear H; intro a w H
            refine mC H (fun hb => ?_) (fun hb => ?_)
            · rw [decide_eq_true_eq] at hb
              have hn := hst (by unfold partB; rw [if_neg e1, if_pos e3, if_pos (by omega)])
              subst hn
              clear hb hso
              refine mW ?_; clear H; intro a w H
              refine wp_ret ?_; exact mEnd [] [1] [.cell 2 44, .tmp 3] [_, _] hN hR H
            · rw [decide_eq_false_iff_not] at hb
              have h32 : ((b.drop q).take 32).length = 32 := by rw [List.length_take]; omega
              have hof := ofR_v _ h32
              have hq32 : q + 32 ≤ b.length := by omega
              have hp1 : partB k (b.drop q) = some (⟨k, z32, z32, (b.drop q).take 32⟩, b.drop (q + 32)) := by
                unfold partB; rw [if_neg e1, if_pos e3, if_neg (by omega), List.drop_drop]
              clear hb
              clear hX; have hX := And.intro @hkl (And.intro @hbl (And.intro @hz2 (And.intro @hg (And.intro @hkr (And.intro @sl1 (@hq32))))))
              refine mW ?_; clear H; intro a w H
              refine mCall [] [] (hof) H ?_; clear H; intro a w H; try refine wpList_nil ?_
              clear hX; have hX := And.intro @hkl (And.intro @hbl (And.intro @hz2 (And.intro @hg (And.intro @hkr (@h32)))))
              refine mW ?_; clear H; intro a w H
              rw [show (q : Int) + 32 = ((q + 32 : Nat) : Int) by omega] at H
              refine mC H (fun hb => ?_) (fun hb => ?_)
              · clear hb
                refine mW ?_; clear H; intro a w H
                refine mC H (fun hb => ?_) (fun hb => ?_)
                · rw [k1] at hb; cases hb
                · clear hb
                  refine mW ?_; clear H; intro a w H
                  rw [show (j : Int) + 1 = ((j + 1 : Nat) : Int) by omega] at H
                  exact ⟨(j + 1, P ++ [⟨k, z32, z32, (b.drop q).take 32⟩], q + 32), ⟨hlt, by dsimp only; omega, by simp [hPl], hls _ _ hp1⟩, by dsimp only; omega, H.to 2 2 ⟨Nat.le_trans hN (Nat.le_of_ble_eq_true rfl), Nat.le_trans hR (Nat.zero_le _)⟩ ⟨rfl, rfl, rfl, rfl, rfl, rfl, rfl, rfl, trivial⟩ (by simp only [brs, List.map_append, List.map_cons, List.map_nil, Br.av]; rfl) (by rfl) rfl rfl rfl⟩
              · rw [k3] at hb; cases hb
          · rw [k1, k3] at hb; cases hb
        · rw [decide_eq_false e3] at k3
          refine mC H (fun hb => ?_) (fun hb => ?_)
          · rw [k1, k3] at hb; cases hb
          · clear hb
            have hp1 : partB k (b.drop q) = some (⟨k, z32, z32, z32⟩, b.drop q) := by
              unfold partB; rw [if_neg e1, if_neg e3]
            refine mW ?_; clear H; intro a w H
            refine mC H (fun hb => ?_) (fun hb => ?_)
            · rw [k1] at hb; cases hb
            · clear hb
              refine mW ?_; clear H; intro a w H
              rw [show (j : Int) + 1 = ((j + 1 : Nat) : Int) by omega] at H
              exact ⟨(j + 1, P ++ [⟨k, z32, z32, z32⟩], q), ⟨hlt, by dsimp only; omega, by simp [hPl], hls _ _ hp1⟩, by dsimp only; omega, H.to 2 2 ⟨Nat.le_trans hN (Nat.le_of_ble_eq_true rfl), Nat.le_trans hR (Nat.zero_le _)⟩ ⟨rfl, rfl, rfl, rfl, rfl, rfl, rfl, rfl, trivial⟩ (by simp only [brs, List.map_append, List.map_cons, List.map_nil, Br.av]; rfl) (by rfl) rfl rfl rfl⟩
    · have hge : j = n := by rw [decide_eq_false_iff_not] at hb; omega
      clear hb
      subst hge
      rw [List.take_of_length_le (by omega)] at hmr
      have hn := hso hmr
      subst hn
      refine mW ?_; clear H; intro a w H
      refine wp_ret ?_; exact mEnd [] [1] [.cell 2 44, .tmp 3] [_, _] hN hR H
end Go.Proofs.Ytigmpdhnhkdeiaa
/- ref21.Decode. -/
namespace Go.Proofs.Ytigmpdhnhkdeiaa
open Go Go.RowKit
attribute [local irreducible] wpT
set_option maxRecDepth 20000 in
theorem read21_no (b : List UInt8) (hl : b.length ≤ 16000) (hc : cntK b = none) : VC Try.prog 171 [.bs b none] [] (.tup [.st [.v (.slice none 0 0)], .v (.bool false)]) := by
  have hkl := kinds_len b
  have hk := kinds21_v b hl
  have ht := tree_v (kinds b) (by omega) 257 0 0 rfl (Nat.zero_le _)
  have htn : treeN (kinds b) 257 0 0 = -1 := by
    unfold cntK at hc
    unfold treeN
    rw [List.drop_zero, Option.map_eq_none_iff.1 hc]
  rw [htn] at ht
  refine mE Try.func171 ?_; intro N w0 a w hN hR H
  refine mW ?_; clear H; intro a w H
  refine mCall [] [] (hk) H ?_; clear H; intro a w H; try refine wpList_nil ?_
  have hX := @hkl
  refine mW ?_; clear H; intro a w H
  refine mCall [] [] (ht) H ?_; clear H; intro a w H; try refine wpList_nil ?_
  refine mW ?_; clear H; intro a w H
  refine mC H (fun hb => ?_) (fun hb => ?_)
  · refine mW ?_; clear H; intro a w H
    refine wp_ret ?_; exact mEnd [] [] [.cell 2 44, .tmp 3] [_, _] hN hR H
  · exact absurd hb (by decide)
set_option maxRecDepth 20000 in
set_option maxHeartbeats 2000000 in
theorem dec21_v (b : List UInt8) (hl : b.length ≤ 16000) : VC Try.prog 108 [.bs b none] (match decB b with | some p => [(54, p.length)] | none => [])
    (match decB b with | some p => .tup [.st [.sl brT (brs p) (some 0)], .v (.int .i64 0)] | none => .tup [.st [.v (.slice none 0 0)], .v (.int .i64 10)]) := by
  have hdec : decB b = match cntK b with
    | none => none
    | some n => match mrdB ((kinds b).take n) (b.drop ((n + 3) / 4)) with
      | some (p, _) => if okB p = true ∧ encB p = b then some p else none
      | none => none := rfl
  cases hc : cntK b with
  | none =>
    rw [hc] at hdec
    dsimp only at hdec
    simp only [hdec]
    have hr := read21_no b hl hc
    refine mE Try.func108 ?_; intro N w0 a w hN hR H
    refine mW ?_; clear H; intro a w H
    refine mCall [] [] (hr) H ?_; clear H; intro a w H; try refine wpList_nil ?_
    refine mW ?_; clear H; intro a w H
    refine mC H (fun hb => ?_) (fun hb => ?_)
    · refine mW ?_; clear H; intro a w H
      refine wp_ret ?_; exact mEnd [] [] [.cell 2 44, .tmp 3] [_, _] hN hR H
    · exact absurd hb (by decide)
  | some n =>
    rw [hc] at hdec
    dsimp only at hdec
    have hkl := kinds_len b
    obtain ⟨c1, c2, c3, c4⟩ := cntK_some hc
    have hktl : ((kinds b).take n).length = n := by rw [List.length_take]; omega
    have hr := read21_v b hl n hc
    cases hm : mrdB ((kinds b).take n) (b.drop ((n + 3) / 4)) with
    | none =>
      rw [hm] at hdec
      dsimp only at hdec
      simp only [hdec]
      have hA := mrdA_none hm
      have hr := hr _ rfl
      rw [hA] at hr
      generalize (mrdA ((kinds b).take n) (b.drop ((n + 3) / 4))).1 = P at *
      have hbl := brs_len P
      refine mE Try.func108 ?_; intro N w0 a w hN hR H
      have hX := @hbl
      refine mW ?_; clear H; intro a w H
      refine mCall [] [] (hr) H ?_; clear H; intro a w H; try refine wpList_nil ?_
      refine mW ?_; clear H; intro a w H
      refine mC H (fun hb => ?_) (fun hb => ?_)
      · refine mW ?_; clear H; intro a w H
        refine wp_ret ?_; exact mEnd [] [] [.cell 2 44, .tmp 3] [_, _] hN hR H
      · exact absurd hb (by decide)
    | some x =>
      obtain ⟨p, r⟩ := x
      rw [hm] at hdec
      dsimp only at hdec
      have hr := hr _ (mrdA_some hm)
      obtain ⟨m1, m2, m3⟩ := mrdB_k hm
      have hpn : p.length = n := by have := congrArg List.length m1; rw [List.length_map, hktl] at this; exact this
      have hbl := brs_len p
      have hen := enc21_v p m2 (by omega)
      have hcv : chkB p = if okB p = true then 0 else 2 := by unfold chkB; rw [if_neg (by omega)]
      dsimp only at hr
      by_cases hok : okB p = true
      · have hc0 : chkB p = 0 := by rw [hcv, if_pos hok]
        rw [hc0, if_pos rfl, if_pos rfl] at hen
        have hlE : (encB p).length ≤ 16000 * 65 := by
          rw [encB_len, hpn]
          rw [List.length_drop] at m3
          omega
        refine mE Try.func108 ?_; intro N w0 a w hN hR H
        have hX := @hbl
        refine mW ?_; clear H; intro a w H
        refine mCall [] [] (hr) H ?_; clear H; intro a w H; try refine wpList_nil ?_
        refine mW ?_; clear H; intro a w H
        refine mC H (fun hb => ?_) (fun hb => ?_)
        · exact absurd hb (by decide)
        · clear hb
          refine mW ?_; clear H; intro a w H
          refine mCall [] [] (hen) H ?_; clear H; intro a w H; try refine wpList_nil ?_
          refine mW ?_; clear H; intro a w H
          by_cases heq : encB p = b
          · rw [if_pos ⟨hok, heq⟩] at hdec
            simp only [hdec]
            refine mC H (fun hb => ?_) (fun hb => ?_)
            · exfalso; rw [heq] at hb; simp at hb
            · refine mW ?_; clear H; intro a w H
              refine wp_ret ?_; exact mEnd [] [0] [.cell 2 44, .tmp 3] [_, _] hN hR H
          · rw [if_neg (fun h => heq h.2)] at hdec
            simp only [hdec]
            refine mC H (fun hb => ?_) (fun hb => ?_)
            · refine mW ?_; clear H; intro a w H
              refine wp_ret ?_; exact mEnd [] [] [.cell 2 44, .tmp 3] [_, _] hN hR H
            · exfalso; simp at hb; rw [strOf_list, strOf_list] at hb; exact heq hb
      · have hc0 : chkB p = 2 := by rw [hcv, if_neg hok]
        rw [hc0, if_neg (by decide), if_neg (by decide)] at hen
        rw [if_neg (fun h => hok h.1)] at hdec
        simp only [hdec]
        refine mE Try.func108 ?_; intro N w0 a w hN hR H
        have hX := @hbl
        refine mW ?_; clear H; intro a w H
        refine mCall [] [] (hr) H ?_; clear H; intro a w H; try refine wpList_nil ?_
        refine mW ?_; clear H; intro a w H
        refine mC H (fun hb => ?_) (fun hb => ?_)
        · exact absurd hb (by decide)
        · clear hb
          refine mW ?_; clear H; intro a w H
          refine mCall [] [] (hen) H ?_; clear H; intro a w H; try refine wpList_nil ?_
          refine mW ?_; clear H; intro a w H
          refine mSk (.v (.bool true)) H ?_; clear H; intro a w H
          refine mW ?_; clear H; intro a w H
          refine mSk (.v (.bool true)) H ?_; clear H; intro a w H
          refine mW ?_; clear H; intro a w H
          refine mC H (fun hb => ?_) (fun hb => ?_)
          · refine mW ?_; clear H; intro a w H
            refine wp_ret ?_; exact mEnd [] [] [.cell 2 44, .tmp 3] [_, _] hN hR H
          · exact absurd hb (by decide)
end Go.Proofs.Ytigmpdhnhkdeiaa
/- ref24.Decode. -/
namespace Go.Proofs.Ytigmpdhnhkdeiaa
open Go Go.RowKit
def oneS (l : List UInt8) : Option (List UInt8 × List UInt8) :=
  if l.length < 2 then none else if (l.drop 2).length < num 0 (l.take 2) then none else some ((l.drop 2).take (num 0 (l.take 2)), (l.drop 2).drop (num 0 (l.take 2)))
def rdVs : Nat → List UInt8 → Option (List (List UInt8) × List UInt8)
  | 0, l => some ([], l)
  | n + 1, l => (rdVs n l).bind fun x => (oneS x.2).map fun y => (x.1 ++ [y.1], y.2)
theorem rdVs_none {l : List UInt8} {i : Nat} (h : rdVs i l = none) : ∀ k, rdVs (i + k) l = none
  | 0 => h
  | k + 1 => by rw [← Nat.add_assoc, rdVs, rdVs_none h k]; rfl
theorem oneS_len {l x r : List UInt8} (h : oneS l = some (x, r)) : x.length + r.length + 2 = l.length := by
  unfold oneS at h
  split at h
  · cases h
  · split at h
    · cases h
    · simp only [Option.some.injEq, Prod.mk.injEq] at h
      obtain ⟨rfl, rfl⟩ := h
      rename_i h1 h2
      have e1 : (l.drop 2).length = l.length - 2 := List.length_drop
      have e2 : ((l.drop 2).take (num 0 (l.take 2))).length = min (num 0 (l.take 2)) (l.drop 2).length := List.length_take
      have e3 : ((l.drop 2).drop (num 0 (l.take 2))).length = (l.drop 2).length - num 0 (l.take 2) := List.length_drop
      rw [e2, e3]
      omega
theorem rdVs_len : ∀ {n : Nat} {l r : List UInt8} {vs : List (List UInt8)}, rdVs n l = some (vs, r) → vs.length = n ∧ r.length ≤ l.length ∧ ∀ x ∈ vs, x.length ≤ l.length
  | 0, l, r, vs, h => by
    simp only [rdVs, Option.some.injEq, Prod.mk.injEq] at h
    obtain ⟨rfl, rfl⟩ := h
    exact ⟨rfl, Nat.le_refl _, fun x hx => by cases hx⟩
  | n + 1, l, r, vs, h => by
    rw [rdVs] at h
    obtain ⟨⟨v1, r1⟩, h1, h2⟩ := Option.bind_eq_some_iff.1 h
    obtain ⟨⟨x, r2⟩, h3, h4⟩ := Option.map_eq_some_iff.1 h2
    simp only [Prod.mk.injEq] at h4
    obtain ⟨rfl, rfl⟩ := h4
    obtain ⟨a1, a2, a3⟩ := rdVs_len h1
    have hl : x.length + r2.length + 2 = r1.length := oneS_len h3
    refine ⟨by rw [List.length_append, a1]; rfl, by omega, fun y hy => ?_⟩
    rw [List.mem_append, List.mem_singleton] at hy
    rcases hy with hy | rfl
    · exact a3 y hy
    · omega
/-- The span that bytes are, when its values are read and what is left. -/
def decT (b : List UInt8) (vs : List (List UInt8)) (r : List UInt8) : Option Sp := match decB r with
  | none => none
  | some p => if spCE ⟨p, vs⟩ = 0 ∧ spEB ⟨p, vs⟩ = b then some ⟨p, vs⟩ else none
/-- The span that bytes are; or none. -/
def decS (b : List UInt8) : Option Sp := if b.length < 2 then none else match rdVs (num 0 (b.take 2)) (b.drop 2) with
  | none => none
  | some (vs, r) => decT b vs r
theorem num_b2 (m : Nat) (h : m ≤ 65535) : num 0 (byt2 m) = m := by
  simp only [byt2, num, UInt8.toNat_ofNat']
  omega
theorem spEB_num {s : Sp} (h : s.v.length ≤ 65535) : num 0 ((spEB s).take 2) = s.v.length := by
  unfold spEB
  rw [List.append_assoc, List.take_append_of_le_length (by simp [byt2]), List.take_of_length_le (by simp [byt2])]
  exact num_b2 _ h
theorem decT_many {b : List UInt8} (h : 256 < num 0 (b.take 2)) (r : List UInt8) : decT b [] r = none := by
  unfold decT
  cases decB r with
  | none => rfl
  | some p =>
    dsimp only
    rw [if_neg]
    rintro ⟨_, h2⟩
    rw [← h2, spEB_num (by simp)] at h
    simp at h
theorem decS_many {b : List UInt8} (h : 256 < num 0 (b.take 2)) : decS b = none := by
  unfold decS
  split
  · rfl
  · split
    · rfl
    · rename_i vs r hr
      unfold decT
      cases decB r with
      | none => rfl
      | some p =>
        dsimp only
        rw [if_neg]
        rintro ⟨h1, _⟩
        unfold spCE at h1
        rw [if_pos (by dsimp only; rw [(rdVs_len hr).1]; exact h)] at h1
        cases h1
theorem decB_len {r : List UInt8} {p : List Br} (h : decB r = some p) : (∀ b ∈ p, b.wf) ∧ p.length ≤ 4 * r.length := by
  unfold decB at h
  split at h
  · cases h
  · rename_i n hn
    split at h
    · rename_i p' r' hm
      split at h
      · injection h with h; subst h
        obtain ⟨m1, m2, _⟩ := mrdB_k hm
        obtain ⟨_, c2, _, _⟩ := cntK_some hn
        refine ⟨m2, ?_⟩
        have := congrArg List.length m1
        rw [List.length_map, List.length_take] at this
        omega
      · cases h
    · cases h
theorem num2_at (b : List UInt8) (q : Nat) (h : q + 2 ≤ b.length) : (256 : Int) * ((b.getD q 0).toNat : Int) + ((b.getD (q + 1) 0).toNat : Int) = ((num 0 ((b.drop q).take 2) : Nat) : Int) := by
  have e : (b.drop q).take 2 = [b.getD q 0, b.getD (q + 1) 0] := by
    rw [List.drop_eq_getElem_cons (show q < b.length by omega), List.take_succ_cons, List.drop_eq_getElem_cons (show q + 1 < b.length by omega), List.take_succ_cons, List.take_zero]
    simp [List.getD_eq_getElem?_getD, show q < b.length by omega, show q + 1 < b.length by omega]
  rw [e]
  simp only [num]
  omega
attribute [local irreducible] wpT
abbrev spT1 : Ty := .cn .sc (.cn .sc .nl)
set_option maxRecDepth 20000 in
set_option maxHeartbeats 4000000 in
theorem dec24_v (b : List UInt8) (hl : b.length ≤ 6000) : VC Try.prog 18 [.bs b none] []
    (match decS b with | some s => .tup [.st [.sl brT (brs s.p) none, .sl .sc (bss s.v) none], .v (.int .i64 0)] | none => .tup [.st [.v (.slice none 0 0), .v (.slice none 0 0)], .v (.int .i64 10)]) := by
  by_cases h2 : b.length < 2
  · have e : decS b = none := by unfold decS; rw [if_pos h2]
    simp only [e]
    refine mE Try.func18 ?_; intro N w0 a w hN hR H
    refine mW ?_; clear H; intro a w H
    refine mC H (fun hb => ?_) (fun hb => ?_)
    · refine mW ?_; clear H; intro a w H
      refine wp_ret ?_; exact mEnd [] [] [.cell 2 25, .tmp 3] [_, _] hN hR H
    · exfalso; rw [decide_eq_false_iff_not] at hb; omega
  · have hds : decS b = match rdVs (num 0 (b.take 2)) (b.drop 2) with
      | none => none
      | some (vs, r) => decT b vs r := by unfold decS; rw [if_neg h2]
    have hn0 := num2_at b 0 (by omega)
    have hnlt := num2_lt (b.take 2) (by rw [List.length_take]; omega)
    have hmany := @decS_many b
    have hmanyT := @decT_many b
    rw [List.drop_zero, Nat.zero_add] at hn0
    generalize num 0 (b.take 2) = n at *
    have hx0 : 0 ≤ ((b.getD 0 0).toNat : Int) ∧ ((b.getD 0 0).toNat : Int) ≤ 255 := by have := (b.getD 0 0).toNat_lt; omega
    have hx1 : 0 ≤ ((b.getD 1 0).toNat : Int) ∧ ((b.getD 1 0).toNat : Int) ≤ 255 := by have := (b.getD 1 0).toNat_lt; omega
    have hl1 : (1 : Nat) < b.length ∧ 0 < b.length := by omega
    refine mE Try.func18 ?_; intro N w0 a w hN hR H
    have hX := And.intro @hl1 (And.intro @hx0 (@hx1))
    refine mW ?_; clear H; intro a w H
    refine mC H (fun hb => ?_) (fun hb => ?_)
    · exfalso; rw [decide_eq_true_eq] at hb; omega
    · clear hb
      refine mS ?_
      refine mS ?_; refine mD 0 [] [] H ?_; clear H; intro gS H; refine mT ?_; clear H; intro a w H
      refine v_drawNil H ?_; clear H; intro H
      rw [hn0] at H
      refine mS ?_
      replace H := v_nilX tab_ok H 1 1 26 (j := ti26) .sc rfl (by decide) rfl rfl
      simp only [List.set_cons_succ, List.set_cons_zero, List.length_cons, List.length_nil, Nat.reduceAdd, List.cons_append, List.nil_append] at H
      refine mW ?_; clear H; intro a w H
      refine v_loop (fun i : Nat × List (List UInt8) × Nat => ⟨[(7, none, .v (.int .i64 (i.1 : Int))), (6, none, .v (.int .i64 (i.2.2 : Int))), (5, none, .v (.int .i64 (n : Int))), (4, none, .ptr 1 []), (3, none, .v (.int .i64 0)), (2, none, .ptr 0 []), (0, none, .bs b none)], [(spT1, .st [.v (.slice none 0 0), .v (.slice none 0 0)]), (spT1, .st [.v (.slice none 0 0), .sl .sc (bss i.2.1) (some 0)])], [], [(26, i.1)]⟩)
        (fun i => (i.1 ≤ n ∧ (256 < n → i.1 = 0)) ∧ i.2.2 ≤ b.length ∧ rdVs i.1 (b.drop 2) = some (i.2.1, b.drop i.2.2)) (fun i => n - i.1) (0, [], 2) ⟨⟨Nat.zero_le _, fun _ => rfl⟩, by dsimp only; omega, rfl⟩ (H.to 2 1 ⟨Nat.le_trans hN (Nat.le_of_ble_eq_true rfl), Nat.le_trans hR (Nat.zero_le _)⟩ ⟨rfl, rfl, rfl, rfl, rfl, rfl, rfl, trivial⟩ rfl rfl rfl rfl rfl) ?_
      clear H hn0 hx0 hx1
      rintro ⟨i, vs, q⟩ a w ⟨⟨hi, hi0⟩, hq, hmr⟩ H
      dsimp only at hi hi0 hq hmr H
      obtain ⟨hvl, _, hvx⟩ := rdVs_len hmr
      have hbl := bss_len vs
      rw [hvl] at hbl
      have hdl : (b.drop q).length = b.length - q := List.length_drop
      have hnone := fun (h : oneS (b.drop q) = none) (hlt : i < n) => show decS b = none by
        have h1 : rdVs (i + 1) (b.drop 2) = none := by rw [rdVs, hmr, Option.bind_some, h]; rfl
        have h2 := rdVs_none h1 (n - (i + 1))
        rw [show i + 1 + (n - (i + 1)) = n by omega] at h2
        rw [hds, h2]
      have hstep := fun x r (h : oneS (b.drop q) = some (x, r)) => show rdVs (i + 1) (b.drop 2) = some (vs ++ [x], r) by rw [rdVs, hmr, Option.bind_some, h]; rfl
      clear hX; have hX := @hbl
      refine mW ?_; clear H; intro a w H
      refine mC H (fun hb => ?_) (fun hb => ?_)
      · have hin : i < n ∧ n ≤ 256 := by
          cases hd : decide ((i : Int) < (n : Int))
          · rw [hd] at hb; cases hb
          · rw [hd] at hb
            have h3 : decide ((n : Int) ≤ 256) = true := hb
            rw [decide_eq_true_eq] at h3 hd; omega
        clear hb
        refine mW ?_; clear H; intro a w H
        refine mC H (fun hb => ?_) (fun hb => ?_)
        · rw [decide_eq_true_eq] at hb
          have e := hnone (by unfold oneS; rw [if_pos (by omega)]) hin.1
          simp only [e]
          clear hb
          refine mW ?_; clear H; intro a w H
          refine wp_ret ?_; exact mEnd [] [] [.cell 2 25, .tmp 3] [_, _] hN hR H
        · have hq2 : q + 2 ≤ b.length := by rw [decide_eq_false_iff_not] at hb; omega
          clear hb
          have hk := num2_at b q hq2
          have hnl := num2_lt ((b.drop q).take 2) (by rw [List.length_take]; omega)
          have hone : oneS (b.drop q) = if ((b.drop q).drop 2).length < num 0 ((b.drop q).take 2) then none else some (((b.drop q).drop 2).take (num 0 ((b.drop q).take 2)), ((b.drop q).drop 2).drop (num 0 ((b.drop q).take 2))) := by unfold oneS; rw [if_neg (by omega)]
          generalize num 0 ((b.drop q).take 2) = m at *
          have hx0 : 0 ≤ ((b.getD q 0).toNat : Int) ∧ ((b.getD q 0).toNat : Int) ≤ 255 := by have := (b.getD q 0).toNat_lt; omega
          have hx1 : 0 ≤ ((b.getD (q + 1) 0).toNat : Int) ∧ ((b.getD (q + 1) 0).toNat : Int) ≤ 255 := by have := (b.getD (q + 1) 0).toNat_lt; omega
          have hqi : ((q : Int) + 1).toNat = q + 1 := by omega
          have hql : q < b.length ∧ q + 1 < b.length := by omega
          refine mS ?_
          clear hX; have hX := And.intro @hbl (And.intro @hx0 (And.intro @hx1 (And.intro @hqi (@hql))))
          refine mS ?_; refine mD 0 [] [] H ?_; clear H; intro gS H; refine mT ?_; clear H; intro a w H
          refine v_drawNil H ?_; clear H; intro H
          rw [hk] at H
          replace H := mK [0, 2, 3, 4, 5, 6, 7, 8] 2 1 hN hR H
          clear hx0 hx1 hk
          clear hX; have hX := @hbl
          refine mW ?_; clear H; intro a w H
          rw [show (q : Int) + 2 = ((q + 2 : Nat) : Int) by omega] at H
          have hd2 : ((b.drop q).drop 2).length = b.length - (q + 2) := by rw [List.drop_drop, List.length_drop]
          refine mC H (fun hb => ?_) (fun hb => ?_)
          · rw [decide_eq_true_eq] at hb
            have e := hnone (by rw [hone, if_pos (by omega)]) hin.1
            simp only [e]
            clear hb
            refine mW ?_; clear H; intro a w H
            refine wp_ret ?_; exact mEnd [] [] [.cell 2 25, .tmp 3] [_, _] hN hR H
          · have hq3 : q + 2 + m ≤ b.length := by rw [decide_eq_false_iff_not] at hb; omega
            clear hb
            have hone' : oneS (b.drop q) = some ((b.drop (q + 2)).take m, b.drop (q + 2 + m)) := by rw [hone, if_neg (by omega), List.drop_drop, List.drop_drop]
            have hnx := hstep _ _ hone'
            have sl2 : List.drop (q + 2) (List.take (((q + 2 : Nat) : Int) + (m : Int)).toNat b) = (b.drop (q + 2)).take m := by
              rw [show (((q + 2 : Nat) : Int) + (m : Int)).toNat = q + 2 + m by omega, List.drop_take, Nat.add_sub_cancel_left]
            have hml : ((b.drop (q + 2)).take m).length = m := by rw [List.length_take, List.length_drop]; omega
            have hq4 : (((q + 2 : Nat) : Int) + (m : Int)).toNat ≤ b.length := by omega
            refine mS ?_
            clear hX; have hX := And.intro @hbl (And.intro @sl2 (And.intro @hml (@hq4)))
            replace H := mK [0, 2, 3, 4, 5, 6, 7, 8] 2 1 hN hR H
            repeat (first | refine wp_seq ?_ | refine wp_block ?_)
            refine v_drawZ 0 [0, 3, 4, 5, 6, 7, 8, 1, 2, 9, 10, 11, 12, 13] [1, 2, 9, 10, 11, 13] [0, 3, 4, 5, 6, 7, 8] [(1, 2), (1, 9), (1, 10), (1009, 2), (1010, 9)] (by kernel_rfl) (by kernel_rfl) (by kernel_rfl) (by kernel_rfl) (by kernel_rfl) H (by rfl) ?_; clear H; intro gS H; try replace H := ntf H
            repeat' ((first | refine wpZ_q1 rfl rfl ?_ | refine wpZ_l1 rfl rfl rfl ?_ | refine wpZ_l2 rfl rfl rfl rfl rfl ?_ ?_ | refine wpZ_l3 rfl rfl rfl rfl rfl rfl rfl ?_ ?_ ?_ | refine wpZ_l4 rfl rfl rfl rfl rfl rfl rfl rfl rfl ?_ ?_ ?_ ?_) <;> ((first | (refine v_someT 1 tab_ok hN H rfl ctX ?_; clear H; intro a w H; replace H := ntf H; simp only [List.drop_succ_cons, List.drop_zero, List.drop_nil])); refine wpT_nil ?_; try dsimp only))
            all_goals (refine wpZ_nil ?_; replace H := RelT.toRel H)
            all_goals
              simp only [List.replicate_zero, List.nil_append] at H
              replace H := mK [0, 2, 3, 4, 5, 6, 7, 8] 2 1 hN hR H
              refine mW ?_; clear H; intro a w H
              rw [show ((q + 2 : Nat) : Int) + (m : Int) = ((q + 2 + m : Nat) : Int) by omega, show (i : Int) + 1 = ((i + 1 : Nat) : Int) by omega] at H
              exact ⟨(i + 1, vs ++ [(b.drop (q + 2)).take m], q + 2 + m), ⟨⟨hin.1, fun h => absurd h (by omega)⟩, hq3, hnx⟩, by dsimp only; omega, H.to 2 1 ⟨Nat.le_trans hN (Nat.le_of_ble_eq_true rfl), Nat.le_trans hR (Nat.zero_le _)⟩ ⟨rfl, rfl, rfl, rfl, rfl, rfl, rfl, trivial⟩ (by simp only [bss, List.map_append, List.map_cons, List.map_nil]; rfl) (by rfl) rfl rfl rfl⟩
      · have hT : decS b = decT b vs (b.drop q) := by
          by_cases hm : 256 < n
          · rw [hmany hm]
            have hz : i = 0 := hi0 hm
            subst hz
            have : vs = [] := List.length_eq_zero_iff.1 hvl
            subst this
            rw [hmanyT hm]
          · have hge : i = n := by
              cases hd : decide ((i : Int) < (n : Int))
              · rw [decide_eq_false_iff_not] at hd; omega
              · rw [hd] at hb
                have h3 : decide ((n : Int) ≤ 256) = false := hb
                rw [decide_eq_false_iff_not] at h3; omega
            subst hge
            rw [hds, hmr]
        clear hb hmany hmanyT hds hnone hstep hmr
        have hdc := dec21_v (b.drop q) (by omega)
        have hvw : ∀ x ∈ vs, x.length ≤ 34359730000 := fun x hx => by have := hvx x hx; rw [List.length_drop] at this; omega
        have hi6 : i ≤ 65535 := by omega
        cases hp : decB (b.drop q) with
        | none =>
          rw [hp] at hdc
          dsimp only at hdc
          have hS : decS b = none := by rw [hT]; unfold decT; rw [hp]
          simp only [hS]
          have hne : spCE ⟨[], vs⟩ ≠ 0 := by
            have h0 : chkB [] = 2 := by decide
            unfold spCE
            split
            · decide
            · split
              · rw [h0]; decide
              · decide
          have hen := enc24_v ⟨[], vs⟩ ⟨fun b hb => (by cases hb), Nat.zero_le _, by dsimp only; omega, hvw⟩
          rw [if_neg hne, if_neg hne] at hen
          have hd0 : decide (spCE ⟨[], vs⟩ = 0) = false := decide_eq_false hne
          dsimp only at hen
          generalize spCE ⟨[], vs⟩ = e at *
          refine mS ?_
          (try refine wp_region_lit ?_); refine mN 3 hN H ?_; clear H; intro a w H
          refine mCall [] [] (hdc) H ?_; clear H; intro a w H; try refine wpList_nil ?_
          (try refine wp_region_lit ?_); refine mN 3 hN H ?_; clear H; intro a w H
          (try refine wp_region_lit ?_); refine mN 3 hN H ?_; clear H; intro a w H
          refine mS ?_
          (try refine wp_region_lit ?_); refine mN 4 hN H ?_; clear H; intro a w H
          replace H := mK [0, 2, 3, 4, 10] 2 1 hN hR H
          replace H := v_nilX tab_ok H 1 0 54 (j := ti54) brT rfl (by decide) rfl rfl
          simp only [List.set_cons_succ, List.set_cons_zero, List.length_cons, List.length_nil, Nat.reduceAdd, List.cons_append, List.nil_append] at H
          refine mW ?_; clear H; intro a w H
          refine mCall [] [] (hen) H ?_; clear H; intro a w H; try refine wpList_nil ?_
          refine mW ?_; clear H; intro a w H
          refine mSk (.v (.bool true)) H ?_; clear H; intro a w H
          refine mW ?_; clear H; intro a w H
          refine mSk (.v (.bool true)) H ?_; clear H; intro a w H
          refine mW ?_; clear H; intro a w H
          refine mC H (fun hb => ?_) (fun hb => ?_)
          · refine mW ?_; clear H; intro a w H
            refine wp_ret ?_; exact mEnd [] [] [.cell 2 25, .tmp 3] [_, _] hN hR H
          · exact absurd hb (by decide)
        | some p =>
          rw [hp] at hdc
          dsimp only at hdc
          have hS : decS b = if spCE ⟨p, vs⟩ = 0 ∧ spEB ⟨p, vs⟩ = b then some ⟨p, vs⟩ else none := by rw [hT]; unfold decT; rw [hp]
          obtain ⟨hpw, hpl⟩ := decB_len hp
          have hen := enc24_v ⟨p, vs⟩ ⟨hpw, by dsimp only; omega, by dsimp only; omega, hvw⟩
          have hbp := brs_len p
          dsimp only at hen
          clear hX; have hX := And.intro @hbl (@hbp)
          refine mW ?_; clear H; intro a w H
          refine mCall [] [] (hdc) H ?_; clear H; intro a w H; try refine wpList_nil ?_
          refine mW ?_; clear H; intro a w H
          by_cases h0 : spCE ⟨p, vs⟩ = 0
          · rw [h0, if_pos rfl, if_pos rfl] at hen
            refine mCall [] [] (hen) H ?_; clear H; intro a w H; try refine wpList_nil ?_
            refine mW ?_; clear H; intro a w H
            by_cases heq : spEB ⟨p, vs⟩ = b
            · rw [if_pos ⟨h0, heq⟩] at hS
              simp only [hS]
              refine mC H (fun hb => ?_) (fun hb => ?_)
              · exfalso; rw [heq] at hb; simp at hb
              · refine mW ?_; clear H; intro a w H
                refine wp_ret ?_; exact mEnd [] [] [.cell 2 25, .tmp 3] [_, _] hN hR H
            · rw [if_neg (fun h => heq h.2)] at hS
              simp only [hS]
              refine mC H (fun hb => ?_) (fun hb => ?_)
              · refine mW ?_; clear H; intro a w H
                refine wp_ret ?_; exact mEnd [] [] [.cell 2 25, .tmp 3] [_, _] hN hR H
              · exfalso; simp at hb; rw [strOf_list, strOf_list] at hb; exact heq hb
          · rw [if_neg h0, if_neg h0] at hen
            rw [if_neg (fun h => h0 h.1)] at hS
            simp only [hS]
            have hd0 : decide (spCE ⟨p, vs⟩ = 0) = false := decide_eq_false h0
            generalize spCE ⟨p, vs⟩ = e at *
            refine mCall [] [] (hen) H ?_; clear H; intro a w H; try refine wpList_nil ?_
            refine mW ?_; clear H; intro a w H
            simp only [hd0, Bool.not_false] at H
            refine mSk (.v (.bool true)) H ?_; clear H; intro a w H
            refine mW ?_; clear H; intro a w H
            refine mSk (.v (.bool true)) H ?_; clear H; intro a w H
            refine mW ?_; clear H; intro a w H
            refine mC H (fun hb => ?_) (fun hb => ?_)
            · refine mW ?_; clear H; intro a w H
              refine wp_ret ?_; exact mEnd [] [] [.cell 2 25, .tmp 3] [_, _] hN hR H
            · exact absurd hb (by decide)
end Go.Proofs.Ytigmpdhnhkdeiaa
/- Contracts that say less: bytes whose row nobody will make longer. -/
namespace Go.Proofs.Ytigmpdhnhkdeiaa
open Go Go.RowKit
theorem VX.dropB {P : Program} {f : FuncId} {bx bx' : List (Ty × AV)} {args : List AV} {e n : Nat} {l : List UInt8} (h : VX P f bx [] [] args bx' [] [(e, n)] (.bs l (some 0))) (hl : bx.length ≤ bx'.length) (hw : bx'.all (fun x => low bx'.length 0 4 x.2) = true) :
    VX P f bx [] [] args bx' [] [] (.bs l none) := by
  refine ⟨h.1, fun w N vs HI h1 h2 => (h.2 w N vs HI h1 h2).mono ?_⟩
  rintro en w' ⟨g, v, he, HI', hv⟩
  have hnb : N.bx.length ≤ bx'.length := by rw [HI.br.len]; exact hl
  have hnr : N.rw.length ≤ 0 := by have := congrArg List.length HI.wr; rw [List.length_map] at this; rw [this]; exact Nat.le_refl _
  have HC := Inv.cut (st := ⟨[], bx', [], [(e, n)]⟩) (nb := bx'.length) (nr := 0) HI' hnb hnr (by rw [List.take_length]; exact hw)
  rw [List.take_length] at HC
  refine ⟨g.cut bx'.length 0, v, he, HC, ?_⟩
  have h1 : RV1 g (.bs l (some 0)) v := hv.rv1 rfl (fun az e => by cases e)
  exact RV.low_ (d := 3) ((h1.sub_ (d := 4) (b := .bs l none) (by first | rfl | simp [sub])).rv) rfl
theorem VX.nilB {P : Program} {f : FuncId} {bx bx' : List (Ty × AV)} {args : List AV} (h : VX P f bx [] [] args bx' [] [] (.v (.slice none 0 0))) : VX P f bx [] [] args bx' [] [] (.bs [] none) := by
  refine ⟨h.1, fun w N vs HI h1 h2 => (h.2 w N vs HI h1 h2).mono ?_⟩
  rintro en w' ⟨g, v, he, HI', hv⟩
  refine ⟨g, v, he, HI', ?_⟩
  have e : v = .slice none 0 0 := hv.v_inv
  subst e
  exact (RC.bs (l := []) (Nat.zero_le _) (Nat.zero_le _) (.inl rfl) (fun i hi => by cases hi)).rv1
end Go.Proofs.Ytigmpdhnhkdeiaa
/- mpack.Decode. -/
namespace Go.Proofs.Ytigmpdhnhkdeiaa
open Go Go.RowKit
theorem done_v (bad : Bool) (l : List UInt8) : VX Try.prog 169 [(rdT, rdv bad l)] [] [] [.ptr 0 []] [(rdT, rdv bad l)] [] [] (.v (.bool (!bad && decide (l.length = 0)))) := by
  have hg := good_v bad l
  refine mE Try.func169 ?_; intro N w0 a w hN hR H
  simp only [rdv] at H hg
  refine mW ?_; clear H; intro a w H
  refine mCall [0] [] (hg) H ?_; clear H; intro a w H; try refine wpList_nil ?_
  cases bad
  · refine mW ?_; clear H; intro a w H
    have e : decide ((l.length : Int) = 0) = decide (l.length = 0) := by rw [decide_eq_decide]; omega
    rw [← e]
    have hX := @rdv.eq_1
    refine wp_ret ?_; exact mEnd [0] [] [.tmp 2] [_] hN hR H
  · refine mW ?_; clear H; intro a w H
    have hX := @rdv.eq_1
    refine wp_ret ?_; exact mEnd [0] [] [.tmp 2] [_] hN hR H
theorem takeR_v (n : Nat) (s : Bool × List UInt8) (hl : s.2.length ≤ 34359738000) : VX Try.prog 104 [(rdT, rdv s.1 s.2)] [] [] [.ptr 0 [], .v (.int .i64 (n : Int))] [(rdT, rdv (tkR n s).2.1 (tkR n s).2.2)] [] [] (.bs (tkR n s).1 none) := by
  obtain ⟨b, l⟩ := s
  cases b
  · by_cases h : n ≤ l.length
    · rw [tk_ok h]; exact VX.dropB (take_ok l n h hl) (Nat.le_refl _) rfl
    · rw [tk_no (by omega)]; exact VX.nilB (take_bad l n (by omega))
  · rw [tkR_bad n (true, l) rfl]; exact VX.nilB (take_was l n)
theorem tkR_len (n : Nat) (s : Bool × List UInt8) : (tkR n s).1.length = 0 ∨ (tkR n s).1.length = n := by
  unfold tkR
  split
  · exact .inl rfl
  · split
    · exact .inl rfl
    · right; rw [List.length_take]; omega
theorem tkR_le (n : Nat) (s : Bool × List UInt8) : (tkR n s).2.2.length ≤ s.2.length := by
  unfold tkR
  split
  · exact Nat.le_refl _
  · split
    · exact Nat.le_refl _
    · dsimp only; rw [List.length_drop]; omega
theorem cp32 {l : List UInt8} (h : l.length = 0 ∨ l.length = 32) : l.take 32 ++ (List.replicate 32 (0 : UInt8)).drop (l.take 32).length = or32 l := by
  rcases h with h | h
  · have : l = [] := List.length_eq_zero_iff.1 h
    subst this; rfl
  · have e : l.take 32 = l := List.take_of_length_le (by omega)
    rw [or32_eq h, e, h]; simp
theorem or32_len (l : List UInt8) : (or32 l).length = 32 := by
  unfold or32
  split
  · assumption
  · exact z32_len
attribute [local irreducible] wpT
set_option maxRecDepth 20000 in
set_option maxHeartbeats 4000000 in
theorem mdecode_v (b : List UInt8) (hl : b.length ≤ 16000) : VC Try.prog 105 [.bs b none] (match decB b with | some p => [(54, p.length)] | none => [])
    (match decB b with | some p => .tup [.st [.sl brT (brs p) (some 0)], errv 0] | none => .tup [.st [.v (.slice none 0 0)], errv 10]) := by
  have hkl := kinds_len b
  have hk := mkinds_v b hl
  have hdec : decB b = match cntK b with
    | none => none
    | some n => match mrdB ((kinds b).take n) (b.drop ((n + 3) / 4)) with
      | some (p, _) => if okB p = true ∧ encB p = b then some p else none
      | none => none := rfl
  cases hc : cntK b with
  | none =>
    rw [hc] at hk hdec
    dsimp only at hk hdec
    simp only [hdec]
    have hnw := newRd_v b (by omega)
    clear hdec
    refine mE Try.func105 ?_; intro N w0 a w hN hR H
    refine mW ?_; clear H; intro a w H
    refine mCall [] [] (hk) H ?_; clear H; intro a w H; try refine wpList_nil ?_
    refine mW ?_; clear H; intro a w H
    refine mCall [] [] (hnw) H ?_; clear H; intro a w H; try refine wpList_nil ?_
    refine mW ?_; clear H; intro a w H
    refine v_loop (fun _ : Unit => ⟨[(22, none, .v (.int .i64 0)), (21, none, .v (.int .i64 0)), (4, none, .v (.slice none 0 0)), (7, none, .ptr 2 []), (6, none, .ptr 1 []), (3, none, .v (.int .i64 0)), (2, none, .ptr 0 []), (0, none, .bs b none)], [(.cn .sc .nl, .st [.v (.slice none 0 0)]), (rdT, rdv false b), (.cn .sc .nl, .st [.v (.slice none 0 0)])], [], []⟩)
      (fun _ => True) (fun _ => 0) () trivial (H.to 3 0 ⟨Nat.le_trans hN (Nat.le_of_ble_eq_true rfl), Nat.le_trans hR (Nat.zero_le _)⟩ ⟨rfl, rfl, rfl, rfl, rfl, rfl, rfl, rfl, trivial⟩ rfl rfl rfl rfl rfl) ?_
    clear H
    intro _ a w _ H
    refine mW ?_; clear H; intro a w H
    refine mC H (fun hb => ?_) (fun hb => ?_)
    · exact absurd hb (by decide)
    · clear hb
      refine mW ?_; clear H; intro a w H
      refine mSk (.v (.bool true)) H ?_; clear H; intro a w H
      refine mW ?_; clear H; intro a w H
      refine mSk (.v (.int .i64 0)) H ?_; clear H; intro a w H
      refine mW ?_; clear H; intro a w H
      refine mSk (.bs [] none) H ?_; clear H; intro a w H
      refine mW ?_; clear H; intro a w H
      refine mSk (.v (.int .i64 0)) H ?_; clear H; intro a w H
      refine mW ?_; clear H; intro a w H
      refine mC H (fun hb => ?_) (fun hb => ?_)
      · refine mW ?_; clear H; intro a w H
        refine wp_ret ?_; exact mEnd [] [] [.cell 2 44, .tmp 3] [_, _] hN hR H
      · exact absurd hb (by decide)
  | some n =>
    obtain ⟨c1, c2, c3, c4⟩ := cntK_some hc
    rw [hc] at hk hdec
    dsimp only at hk hdec
    have hdec' := hdec
    have hrS := @mrdR_some ((kinds b).take n) (b.drop ((n + 3) / 4))
    have hrN := @mrdR_none ((kinds b).take n) (b.drop ((n + 3) / 4))
    have hnw := newRd_v (b.drop ((n + 3) / 4)) (by rw [List.length_drop]; omega)
    have hktl : ((kinds b).take n).length = n := by rw [List.length_take]; omega
    obtain ⟨rdI, hI⟩ : ∃ rdI : Nat → List Br × Bool × List UInt8, rdI = fun i => mrdR (((kinds b).take n).take i) (false, b.drop ((n + 3) / 4)) := ⟨_, rfl⟩
    have hI0 : rdI 0 = ([], false, b.drop ((n + 3) / 4)) := by rw [hI]; rfl
    have hIn : rdI n = mrdR ((kinds b).take n) (false, b.drop ((n + 3) / 4)) := by rw [hI]; dsimp only; rw [List.take_of_length_le (by omega)]
    have hIs : ∀ i (h : i < ((kinds b).take n).length), rdI (i + 1) = ((rdI i).1 ++ [(partR ((kinds b).take n)[i] (rdI i).2).1], (partR ((kinds b).take n)[i] (rdI i).2).2) := fun i h => by
      rw [hI]; dsimp only; rw [List.take_succ_eq_append_getElem h, mrdR_snoc]
    have hIl : ∀ i, i ≤ n → (rdI i).1.length = i ∧ (rdI i).2.2.length ≤ 16000 := fun i h => by
      induction i with
      | zero => rw [hI0]; exact ⟨rfl, by dsimp only; rw [List.length_drop]; omega⟩
      | succ i ih =>
        obtain ⟨h1, h2⟩ := ih (by omega)
        rw [hIs i (by omega)]
        refine ⟨by dsimp only; rw [List.length_append, h1]; rfl, ?_⟩
        dsimp only
        unfold partR
        have q1 := tkR_le 32 (rdI i).2
        have q2 := tkR_le 32 (tkR 32 (rdI i).2).2
        split
        · dsimp only; omega
        · split
          · dsimp only; omega
          · exact h2
    clear hI hdec
    rw [← hIn] at hrS hrN
    have hln4 : (n + 3) / 4 ≤ b.length := by omega
    generalize hK : (kinds b).take n = ks at *
    refine mE Try.func105 ?_; intro N w0 a w hN hR H
    have hX := @hktl
    refine mW ?_; clear H; intro a w H
    refine mCall [] [] (hk) H ?_; clear H; intro a w H; try refine wpList_nil ?_
    clear hX; have hX := And.intro @hktl (@hln4)
    refine mW ?_; clear H; intro a w H
    refine mCall [] [] (hnw) H ?_; clear H; intro a w H; try refine wpList_nil ?_
    refine mW ?_; clear H; intro a w H
    replace H := v_sub H 4 (x := .bs ks (some 0)) (y := .bs ks none) rfl rfl (fun az h => by cases h) rfl
    replace H := v_sub H 20 (x := .bs ks (some 0)) (y := .bs ks none) rfl rfl (fun az h => by cases h) rfl
    simp only [nilT, Nat.reduceEqDiff, reduceIte] at H
    replace H := mK [0, 2, 3, 4, 6, 7, 20, 21, 22] 3 1 hN hR H
    replace H := v_nilX tab_ok H 2 0 54 (j := ti54) brT rfl (by decide) rfl rfl
    simp only [List.set_cons_succ, List.set_cons_zero, List.length_cons, List.length_nil, Nat.reduceAdd, List.cons_append, List.nil_append] at H
    refine v_loop (fun i : Nat => ⟨[(22, none, .v (.int .i64 (i : Int))), (21, none, .v (.int .i64 (n : Int))), (20, none, .bs ks none), (4, none, .bs ks none), (7, none, .ptr 2 []), (6, none, .ptr 1 []), (3, none, .v (.int .i64 0)), (2, none, .ptr 0 []), (0, none, .bs b none)], [(.cn .sc .nl, .st [.v (.slice none 0 0)]), (rdT, rdv (rdI i).2.1 (rdI i).2.2), (.cn .sc .nl, .st [.sl brT (brs (rdI i).1) (some 1)])], [], [(51, n), (54, i)]⟩)
      (fun i => i ≤ n) (fun i => n - i) 0 (Nat.zero_le _) (H.to 3 2 ⟨Nat.le_trans hN (Nat.le_of_ble_eq_true rfl), Nat.le_trans hR (Nat.zero_le _)⟩ ⟨rfl, rfl, rfl, rfl, rfl, rfl, rfl, rfl, rfl, trivial⟩ (by rw [hI0]; rfl) (by rfl) rfl rfl rfl) ?_
    clear H
    intro i a w hi H
    obtain ⟨i1, i2⟩ := hIl i hi
    have hbl := brs_len (rdI i).1
    rw [i1] at hbl
    clear hX; have hX := And.intro @hktl (And.intro @hln4 (@hbl))
    refine mW ?_; clear H; intro a w H
    refine mC H (fun hb => ?_) (fun hb => ?_)
    · have hlt : i < n := by rw [decide_eq_true_eq] at hb; omega
      clear hb
      have hIs := hIs i (by omega)
      have hg : ks.getD i 0 = ks[i]'(by omega) := by rw [List.getD_eq_getElem?_getD, List.getElem?_eq_getElem (by omega)]; rfl
      generalize ks[i]'(by omega) = k at *
      generalize (rdI i).1 = P0 at *
      generalize (rdI i).2 = s at *
      have hkr : 0 ≤ (k.toNat : Int) ∧ (k.toNat : Int) ≤ 255 := by have := k.toNat_lt; omega
      have k1 : decide ((k.toNat : Int) = 1) = decide (k = 1) := kz k 1 (by decide)
      have k3 : decide ((k.toNat : Int) = 3) = decide (k = 3) := kz k 3 (by decide)
      have t1 := takeR_v 32 s (by omega)
      have l1 := tkR_len 32 s
      have t2 := takeR_v 32 (tkR 32 s).2 (by have := tkR_le 32 s; omega)
      have l2 := tkR_len 32 (tkR 32 s).2
      have c1' := cp32 l1
      have c2' := cp32 l2
      have o1 := or32_len (tkR 32 s).1
      have o2 := or32_len (tkR 32 (tkR 32 s).2).1
      have hz2 := z32_len
      simp only [rdv] at t1 t2 H
      refine mS ?_
      clear hX; have hX := And.intro @hktl (And.intro @hln4 (And.intro @hbl (And.intro @hg (And.intro @hkr (@hz2)))))
      (try refine wp_region_lit ?_); refine mN 2 hN H ?_; clear H; intro a w H
      refine mW ?_; clear H; intro a w H
      refine mC H (fun hb => ?_) (fun hb => ?_)
      · rw [k1, decide_eq_true_eq] at hb
        have hp : partR k s = (⟨k, or32 (tkR 32 s).1, or32 (tkR 32 (tkR 32 s).2).1, z32⟩, (tkR 32 (tkR 32 s).2).2) := by unfold partR; rw [if_pos hb]
        rw [hp] at hIs
        clear hb hp
        generalize hs1 : (tkR 32 s).2 = s1 at *
        have hN0 := hN
        replace hN : N.bx.length ≤ 9 := Nat.le_trans hN0 (Nat.zero_le _)
        refine mS ?_; refine mD 0 [3, 4] [0, 1] H ?_; clear H; intro gS H
        refine mTN 3 hN H ?_; clear H; intro a w H; simp only [List.drop_succ_cons, List.drop_zero, List.drop_nil]
        refine mCallT [1] [] (t1) H ?_; clear H; intro a w H
        refine mTN 1 hN H ?_; clear H; intro a w H; simp only [List.drop_succ_cons, List.drop_zero, List.drop_nil]
        rw [c1'] at H
        refine v_drawNil H ?_; clear H; intro H
        replace hN := hN0
        replace H := mK [0, 2, 3, 4, 6, 7, 9, 10, 20, 21, 22] 4 2 hN hR H
        replace hN : N.bx.length ≤ 9 := Nat.le_trans hN0 (Nat.zero_le _)
        refine mS ?_; refine mD 0 [3, 4] [0, 1] H ?_; clear H; intro gS H
        refine mTN 3 hN H ?_; clear H; intro a w H; simp only [List.drop_succ_cons, List.drop_zero, List.drop_nil]
        refine mCallT [1] [] (t2) H ?_; clear H; intro a w H
        refine mTN 1 hN H ?_; clear H; intro a w H; simp only [List.drop_succ_cons, List.drop_zero, List.drop_nil]
        rw [c2'] at H
        refine v_drawNil H ?_; clear H; intro H
        replace hN := hN0
        replace H := mK [0, 2, 3, 4, 6, 7, 9, 10, 20, 21, 22] 4 2 hN hR H
        clear hX; have hX := And.intro @hktl (And.intro @hln4 (And.intro @hbl (And.intro @hg (And.intro @hkr (And.intro @hz2 (And.intro @o1 (@o2)))))))
        refine mW ?_; clear H; intro a w H
        rw [show (i : Int) + 1 = ((i + 1 : Nat) : Int) by omega] at H
        exact ⟨i + 1, hlt, by omega, H.to 3 2 ⟨Nat.le_trans hN (Nat.le_of_ble_eq_true rfl), Nat.le_trans hR (Nat.zero_le _)⟩ ⟨rfl, rfl, rfl, rfl, rfl, rfl, rfl, rfl, rfl, trivial⟩ (by rw [hIs]; simp only [brs, List.map_append, List.map_cons, List.map_nil, Br.av]; rfl) (by rfl) rfl rfl rfl⟩
      · rw [k1, decide_eq_false_iff_not] at hb
        have hk1 := hb
        clear hb
        refine mW ?_; clear H; intro a w H
        refine mC H (fun hb => ?_) (fun hb => ?_)
        · rw [k3, decide_eq_true_eq] at hb
          have hp : partR k s = (⟨k, z32, z32, or32 (tkR 32 s).1⟩, (tkR 32 s).2) := by unfold partR; rw [if_neg hk1, if_pos hb]
          rw [hp] at hIs
          clear hb hp
          have hN0 := hN
          replace hN : N.bx.length ≤ 9 := Nat.le_trans hN0 (Nat.zero_le _)
          refine mS ?_; refine mD 0 [3, 4] [0, 1] H ?_; clear H; intro gS H
          refine mTN 3 hN H ?_; clear H; intro a w H; simp only [List.drop_succ_cons, List.drop_zero, List.drop_nil]
          refine mCallT [1] [] (t1) H ?_; clear H; intro a w H
          refine mTN 1 hN H ?_; clear H; intro a w H; simp only [List.drop_succ_cons, List.drop_zero, List.drop_nil]
          rw [c1'] at H
          refine v_drawNil H ?_; clear H; intro H
          replace hN := hN0
          replace H := mK [0, 2, 3, 4, 6, 7, 9, 10, 20, 21, 22] 4 2 hN hR H
          clear hX; have hX := And.intro @hktl (And.intro @hln4 (And.intro @hbl (And.intro @hg (And.intro @hkr (And.intro @hz2 (@o1))))))
          refine mW ?_; clear H; intro a w H
          rw [show (i : Int) + 1 = ((i + 1 : Nat) : Int) by omega] at H
          exact ⟨i + 1, hlt, by omega, H.to 3 2 ⟨Nat.le_trans hN (Nat.le_of_ble_eq_true rfl), Nat.le_trans hR (Nat.zero_le _)⟩ ⟨rfl, rfl, rfl, rfl, rfl, rfl, rfl, rfl, rfl, trivial⟩ (by rw [hIs]; simp only [brs, List.map_append, List.map_cons, List.map_nil, Br.av]; rfl) (by rfl) rfl rfl rfl⟩
        · rw [k3, decide_eq_false_iff_not] at hb
          have hp : partR k s = (⟨k, z32, z32, z32⟩, s) := by unfold partR; rw [if_neg hk1, if_neg hb]
          rw [hp] at hIs
          clear hb hp
          clear hX; have hX := And.intro @hktl (And.intro @hln4 (And.intro @hbl (And.intro @hg (And.intro @hkr (And.intro @hz2 (@o1))))))
          replace H := mK [0, 2, 3, 4, 6, 7, 9, 10, 20, 21, 22] 4 2 hN hR H
          clear hX; have hX := And.intro @hktl (And.intro @hln4 (And.intro @hbl (And.intro @hg (And.intro @hkr (@hz2)))))
          refine mW ?_; clear H; intro a w H
          rw [show (i : Int) + 1 = ((i + 1 : Nat) : Int) by omega] at H
          exact ⟨i + 1, hlt, by omega, H.to 3 2 ⟨Nat.le_trans hN (Nat.le_of_ble_eq_true rfl), Nat.le_trans hR (Nat.zero_le _)⟩ ⟨rfl, rfl, rfl, rfl, rfl, rfl, rfl, rfl, rfl, trivial⟩ (by rw [hIs]; simp only [brs, List.map_append, List.map_cons, List.map_nil, Br.av]; rfl) (by rfl) rfl rfl rfl⟩
    · have hge : i = n := by rw [decide_eq_false_iff_not] at hb; omega
      clear hb
      subst hge
      have hn0 : decide ((i : Int) = 0) = false := decide_eq_false (by omega)
      refine mS ?_
      clear hX; have hX := And.intro @hktl (And.intro @hln4 (And.intro @hbl (@hn0)))
      (try refine wp_region_lit ?_); refine mN 3 hN H ?_; clear H; intro a w H
      (try refine wp_region_lit ?_); refine mN 1 hN H ?_; clear H; intro a w H
      try simp only [hn0] at H
      refine mW ?_; clear H; intro a w H
      replace H := v_known H 58 false rfl
      simp only [unG, gdEq, Nat.reduceBEq, cond_true, cond_false] at H
      cases hm : mrdB ks (b.drop ((i + 3) / 4)) with
      | none =>
        have hbad := hrN hm
        have hdn0 : decB b = none := by rw [hdec', hm]
        simp only [hdn0]
        have hdn := done_v true (rdI i).2.2
        rw [hbad] at H
        simp only [rdv] at H hdn
        refine mG H ?_
        clear hX; have hX := And.intro @hktl (And.intro @hln4 (@hbl))
        refine mCall [1] [] (hdn) H ?_; clear H; intro a w H; try refine wpList_nil ?_
        simp only [Bool.not_true, Bool.false_and] at H
        refine mW ?_; clear H; intro a w H
        refine mSk (.v (.int .i64 0)) H ?_; clear H; intro a w H
        refine mW ?_; clear H; intro a w H
        refine mSk (.bs [] none) H ?_; clear H; intro a w H
        refine mW ?_; clear H; intro a w H
        refine mSk (.v (.int .i64 0)) H ?_; clear H; intro a w H
        refine mW ?_; clear H; intro a w H
        refine mC H (fun hb => ?_) (fun hb => ?_)
        · refine mW ?_; clear H; intro a w H
          refine wp_ret ?_; exact mEnd [] [] [.cell 2 44, .tmp 3] [_, _] hN hR H
        · exact absurd hb (by decide)
      | some x =>
        obtain ⟨p, r⟩ := x
        have hS := hrS hm
        obtain ⟨m1, m2, m3⟩ := mrdB_k hm
        have hpn : p.length = i := by have := congrArg List.length m1; rw [List.length_map, hktl] at this; exact this
        rw [hS] at H hbl
        dsimp only at H hbl
        have hdn := done_v false r
        have hdr : decB b = if okB p = true ∧ encB p = b then some p else none := by rw [hdec', hm]
        have hck := mcheck_v p m2 (by omega)
        have hcv : chkB p = if okB p = true then 0 else 2 := by unfold chkB; rw [if_neg (by omega)]
        have hbl2 : (brs p).length = p.length := brs_len p
        simp only [rdv] at H hdn
        refine mG H ?_
        clear hX; have hX := And.intro @hktl (And.intro @hln4 (@hbl))
        refine mCall [1] [] (hdn) H ?_; clear H; intro a w H; try refine wpList_nil ?_
        try simp only [Bool.not_false, Bool.true_and] at H
        by_cases hr0 : r.length = 0
        · rw [decide_eq_true hr0] at H
          clear hX; have hX := And.intro @hktl (And.intro @hln4 (@hbl2))
          refine mW ?_; clear H; intro a w H
          replace H := v_known H 63 false rfl
          simp only [unG, gdEq, Nat.reduceBEq, cond_true, cond_false] at H
          refine mG H ?_
          refine mCall [] [] (hck) H ?_; clear H; intro a w H; try refine wpList_nil ?_
          by_cases hok : okB p = true
          · have hc0 : chkB p = 0 := by rw [hcv, if_pos hok]
            have hen := mencode_v p m2 (by omega)
            have hcm := compare_v (encB p) b
            have hz := cmp_zero (encB p) b
            rw [hc0] at H
            refine mW ?_; clear H; intro a w H
            replace H := v_known H 68 false rfl
            simp only [unG, gdEq, Nat.reduceBEq, cond_true, cond_false] at H
            refine mG H ?_
            refine mCall [] [] (hen) H ?_; clear H; intro a w H; try refine wpList_nil ?_
            refine mW ?_; clear H; intro a w H
            replace H := v_known H 68 false rfl
            simp only [unG, gdEq, Nat.reduceBEq, cond_true, cond_false] at H
            refine mG H ?_
            refine mCall [] [] (hcm) H ?_; clear H; intro a w H; try refine wpList_nil ?_
            by_cases heq : encB p = b
            · rw [hz.2 heq] at H
              have hdn0 : decB b = some p := by rw [hdr, if_pos ⟨hok, heq⟩]
              simp only [hdn0]
              refine mW ?_; clear H; intro a w H
              refine mC H (fun hb => ?_) (fun hb => ?_)
              · exact absurd hb (by decide)
              · refine mW ?_; clear H; intro a w H
                refine wp_ret ?_; exact mEnd [] [1] [.cell 2 44, .tmp 3] [_, _] hN hR H
            · have hdn0 : decB b = none := by rw [hdr, if_neg (fun h => heq h.2)]
              have hcz : decide (Lib.compareBytes (encB p) b = 0) = false := decide_eq_false (fun h => heq (hz.1 h))
              generalize Lib.compareBytes (encB p) b = cb at *
              simp only [hdn0]
              refine mW ?_; clear H; intro a w H
              refine mC H (fun hb => ?_) (fun hb => ?_)
              · refine mW ?_; clear H; intro a w H
                refine wp_ret ?_; exact mEnd [] [] [.cell 2 44, .tmp 3] [_, _] hN hR H
              · rw [hcz] at hb; cases hb
          · have hc0 : chkB p = 2 := by rw [hcv, if_neg hok]
            rw [hc0] at H
            have hdn0 : decB b = none := by rw [hdr, if_neg (fun h => hok h.1)]
            simp only [hdn0]
            refine mW ?_; clear H; intro a w H
            refine mSk (.bs [] none) H ?_; clear H; intro a w H
            refine mW ?_; clear H; intro a w H
            refine mSk (.v (.int .i64 0)) H ?_; clear H; intro a w H
            refine mW ?_; clear H; intro a w H
            refine mC H (fun hb => ?_) (fun hb => ?_)
            · refine mW ?_; clear H; intro a w H
              refine wp_ret ?_; exact mEnd [] [] [.cell 2 44, .tmp 3] [_, _] hN hR H
            · exact absurd hb (by decide)
        · rw [decide_eq_false hr0] at H
          have e : ¬ (okB p = true ∧ encB p = b) := fun h => by
            have h1 := congrArg List.length h.2
            rw [encB_len, hpn] at h1
            rw [List.length_drop] at m3
            omega
          have hdn0 : decB b = none := by rw [hdr, if_neg e]
          simp only [hdn0]
          clear hX; have hX := And.intro @hktl (And.intro @hln4 (@hbl2))
          refine mW ?_; clear H; intro a w H
          refine mSk (.v (.int .i64 0)) H ?_; clear H; intro a w H
          refine mW ?_; clear H; intro a w H
          refine mSk (.bs [] none) H ?_; clear H; intro a w H
          refine mW ?_; clear H; intro a w H
          refine mSk (.v (.int .i64 0)) H ?_; clear H; intro a w H
          refine mW ?_; clear H; intro a w H
          refine mC H (fun hb => ?_) (fun hb => ?_)
          · refine mW ?_; clear H; intro a w H
            refine wp_ret ?_; exact mEnd [] [] [.cell 2 44, .tmp 3] [_, _] hN hR H
          · exact absurd hb (by decide)
end Go.Proofs.Ytigmpdhnhkdeiaa
/- ApartBytes of a list that is written out, of slices on their own. -/
namespace Go.Proofs.Ytigmpdhnhkdeiaa
open Go Go.RowKit
section
variable {P : Program} {τ : Tab} {w0 w w1 w2 : World} {N N1 N2 : Gh} {g g1 gS : Gh} {st st' sq sq' : St} {nt : Nat} {a : Act} {lo : Nat} {X Y : List XR}
/-- What ApartBytes says of a list of slices that are on their own, or none. -/
theorem apartS_calls {x : Operand} {us : List Value} (hZ' : Xs lo g w X) (HI : Inv Try.prog w0 N g st.bx st.fz st.rw w) (hF : FR g nt st a) (tok : Option Nat) (hx : st.ev none x = .sl .sc (vas us) tok)
    (ix : List (Option Nat)) (hix : ix.length = us.length) (hval : ∀ k (h1 : k < ix.length) (h2 : k < us.length), (ix[k] = none ∧ us[k] = .slice none 0 0) ∨ ∃ j x, ix[k] = some j ∧ X[j]? = some x ∧ us[k] = x.v ∧ XW x) (hun : ix.Pairwise fun p q => p = none ∨ p ≠ q) (h0 : 0 < us.length) (hl : us.length ≤ 1000000) :
    Calls Try.prog 23 ([x].map a.eval).toArray w fun e w2 => e = .returned (.bool true) ∧ Below w.heap.size w w2 := by
  have hxv := ev_sound hF (c := none) trivial x
  rw [hx] at hxv
  have hxv := hxv.sl_inv
  obtain ⟨A, c, F, hval2, hr0, hFk⟩ : ∃ (A : Option Addr) (c : Nat) (F : Nat → List Value), a.eval x = .slice A (vas us).length c ∧ (vas us = [] ∨ ∃ b o, A = some ⟨b, o, none⟩ ∧ ∀ k, k < (vas us).length → ∀ j u, (F k)[j]? = some u → g.ro b (o + k * Ty.sc.size + j) = some u) ∧ ∀ k (h : k < (vas us).length), RC g.base .sc (vas us)[k] (F k) := by
    generalize hcs : [a.eval x] = cs at hxv
    cases hxv with
    | sl hc hm F hr hv ht => injection hcs with hcs _; exact ⟨_, _, F, hcs, hr, hv⟩
  rw [vas_len] at hval2
  obtain ⟨yb, yo, rfl, hro⟩ : ∃ b o, A = some ⟨b, o, none⟩ ∧ ∀ k, k < (vas us).length → ∀ j u, (F k)[j]? = some u → g.ro b (o + k * Ty.sc.size + j) = some u := by
    rcases hr0 with h | h
    · have h' : (vas us).length = 0 := by rw [h]; rfl
      rw [vas_len] at h'; omega
    · exact h
  have hcell : ∀ k (hk : k < us.length), w.cell? ⟨yb, yo + k, none⟩ = some us[k] := fun k hk => by
    have hk' : k < (vas us).length := by rw [vas_len]; exact hk
    have hr := hFk k hk'
    have hvk : (vas us)[k] = .v us[k] := by simp [vas]
    rw [hvk] at hr
    obtain ⟨_, hc1⟩ := hr.v_inv
    have := hro k hk' 0 us[k] (by rw [hc1]; rfl)
    simp only [Ty.size, Nat.mul_one, Nat.add_zero] at this
    exact HI.mem.ro _ _ _ this
  have hrow : ∀ k (hk : k < us.length), ∃ r : ARow, r.1.v = us[k] ∧ Own (byteT r.2.2.2) w 0 r.1.v r.2.1 r.2.2.1 := fun k hk => by
    rcases hval k (by omega) hk with ⟨_, h⟩ | ⟨j, x, _, h1, h2, hW⟩
    · refine ⟨((none, 0, 0), [], [], 5), h.symm, .inl ⟨rfl, rfl, rfl⟩⟩
    · have hm := List.mem_of_getElem? h1
      obtain ⟨sv, l, sp, t, q1, q2⟩ := (hZ'.ok x hm).own_ hW
      exact ⟨(sv, l, sp, t), by rw [h2]; exact q1.symm, by rw [← q1]; exact q2⟩
  obtain ⟨L, hL, hLr⟩ : ∃ L : List ARow, L.length = us.length ∧ ∀ k (h1 : k < L.length) (h2 : k < us.length), L[k].1.v = us[k] ∧ Own (byteT L[k].2.2.2) w 0 L[k].1.v L[k].2.1 L[k].2.2.1 := by
    classical
    refine ⟨(List.range us.length).map fun k => if h : k < us.length then Classical.choose (hrow k h) else ((none, 0, 0), [], [], 0), by simp, fun k h1 h2 => ?_⟩
    have := Classical.choose_spec (hrow k h2)
    simp only [List.getElem_map, List.getElem_range, dif_pos h2]
    exact this
  have hev : ([x].map a.eval).toArray = #[Value.slice (some ⟨yb, yo, none⟩) L.length c] := by rw [hL, ← hval2]; rfl
  rw [hev]
  have hown : ∀ k (h1 : k < L.length) (h2 : k < us.length), L[k].1.v.ownBlock = us[k].ownBlock := fun k h1 h2 => by rw [(hLr k h1 h2).1]
  have hP : Apart w 0 L := ⟨fun k hk => (hLr k hk (by omega)).2, fun p q hp hq hpq => by
    rw [hown p hp (by omega), hown q hq (by omega)]
    have key : ∀ p q (hp : p < us.length) (hq : q < us.length), p < q → us[p].ownBlock = none ∨ us[q].ownBlock = none ∨ us[p].ownBlock ≠ us[q].ownBlock := fun p q hp hq hlt => by
      rcases hval p (by omega) hp with ⟨_, h⟩ | ⟨j1, x1, a1, a2, a3, _⟩
      · left; rw [h]; rfl
      · rcases hval q (by omega) hq with ⟨_, h⟩ | ⟨j2, x2, b1, b2, b3, _⟩
        · right; left; rw [h]; rfl
        · have hne : j1 ≠ j2 := fun e => by
            rw [List.pairwise_iff_getElem] at hun
            rcases hun p q (by omega) (by omega) hlt with h | h
            · rw [a1] at h; cases h
            · rw [a1, b1, e] at h; exact h rfl
          rw [a3, b3, XR.own, XR.own]
          have hu := hZ'.un
          unfold XApart at hu
          rw [List.pairwise_iff_getElem] at hu
          obtain ⟨l1, g1⟩ := List.getElem?_eq_some_iff.1 a2
          obtain ⟨l2, g2⟩ := List.getElem?_eq_some_iff.1 b2
          rcases Nat.lt_or_gt_of_ne hne with h | h
          · have := hu j1 j2 l1 l2 h
            rw [g1, g2] at this
            rcases this with h | h
            · exact .inl h
            · exact .inr (.inr h)
          · have := hu j2 j1 l2 l1 h
            rw [g1, g2] at this
            rcases this with h | h
            · exact .inr (.inl h)
            · exact .inr (.inr fun e => h e.symm)
    rcases Nat.lt_or_gt_of_ne hpq with h | h
    · rcases key p q (by omega) (by omega) h with h | h | h
      · exact .inl h
      · cases hh : us[p].ownBlock with
        | none => exact .inl rfl
        | some b => exact .inr (by rw [h]; simp)
      · exact .inr h
    · rcases key q p (by omega) (by omega) h with h | h | h
      · cases hh : us[p].ownBlock with
        | none => exact .inl rfl
        | some b => exact .inr (by rw [h]; simp)
      · exact .inl h
      · exact .inr fun e => h e.symm⟩
  have hlt : yb < w.heap.size := cell_lt (hcell 0 h0)
  exact apart_any L yb yo c 0 w (fun k hk => by rw [hcell k (by omega), (hLr k hk (by omega)).1]) hlt hP (by omega) (by omega)
/-- ApartBytes of a list of such slices, there. -/
theorem v_apartST {ops : Array Oper} {Q : Exit → Act → World → Prop} {rest : List Oper} {o : Oper} {x : Operand} {us : List Value} {ats : Array TypeId} {L A : List Nat} {q : Nat} (hZ : Xs lo N w0 X) (H : RelT Try.prog w0 N nt gS sq st a w) (tok : Option Nat) (hx : st.ev none x = .sl .sc (vas us) tok)
    (ix : List (Option Nat)) (hix : ix.length = us.length) (hval : ∀ k (h1 : k < ix.length) (h2 : k < us.length), (ix[k] = none ∧ us[k] = .slice none 0 0) ∨ ∃ j x, ix[k] = some j ∧ X[j]? = some x ∧ us[k] = x.v ∧ XW x) (hun : ix.Pairwise fun p q => p = none ∨ p ≠ q) (h0 : 0 < us.length) (hl : us.length ≤ 1000000)
    (k : ∀ a w, RelT Try.prog w0 N nt gS (sq.lose o.dst) (st.put o.dst none (.v (.bool true))) a w → wpT Try.prog ops Q (Mem gS) L A rest (q + 1) a w)
    (hgd : o.guard = none ∨ ∃ t b, gdOf ops o = some (some (t, b)) ∧ st.tmp none t = .v (.bool b)) (hL : L.contains q = true := by rfl) (ho : o.op = .call ⟨.value (.func 23), #[x], ats⟩ := by rfl) (hd2 : okDst nt none o.dst = true := by rfl) : wpT Try.prog ops Q (Mem gS) L A (o :: rest) q a w := by
  obtain ⟨hM, hrw, hFq, hBq, g, HI, hF, hle, hbs⟩ := H
  have hw2 : Region.wanted o (yielded ops a.tmps) = true := by
    rcases hgd with h2 | ⟨t, b, e1, e2⟩
    · simp [Region.wanted, h2]
    · have h3 := tmp_sound hF (c := none) trivial t
      rw [e2] at h3
      exact (gdOf_wanted e1).2 h3.v_inv
  have hfok : Fok Try.prog 23 := ⟨_, Try.func23, by kernel_rfl, by kernel_rfl⟩
  unfold wpT
  rw [if_pos hw2, if_pos hL]
  unfold Oper.wp
  rw [run_callF hfok [x] ats ho, Oper.upon_enter]
  refine (apartS_calls (hZ.step HI) HI hF tok hx ix hix hval hun h0 hl).mono fun e w2 hp => ?_
  obtain ⟨rfl, hb2⟩ := hp
  have hI2 := HI.keep (fun k hk => hb2.block k hk) hb2.size hb2.os hb2.tape hb2.output
  have hM' := MemS hM hrw hI2 hle hbs
  refine ⟨hM', k _ _ ⟨hM', hrw, hFq.lose _, by rw [lose_bx]; exact hBq, g, ?_, hF.put (st := st) (st' := st) hd2 (fun _ => RV.v_of rfl) rfl (fun h => absurd trivial h), hle, hbs⟩⟩
  rw [(put_bx _ _ _ _).1, (put_bx _ _ _ _).2.1, (put_bx _ _ _ _).2.2]; exact hI2
end
/-- A slice that is none, as one on its own. -/
def xNil (e : Nat) : XR := ⟨none, 0, 0, e, [], 0⟩
theorem Xs.addNil {lo : Nat} {g : Gh} {w : World} {X : List XR} (h : Xs lo g w X) (e : Nat) : Xs lo g w (X ++ [xNil e]) := by
  refine ⟨fun x hx => ?_, ?_⟩
  · rcases List.mem_append.1 hx with hx | hx
    · exact h.ok x hx
    · obtain rfl := List.mem_singleton.1 hx
      exact ⟨⟨Nat.le_refl _, Nat.zero_le _⟩, fun _ => rfl, fun b hb => by cases hb⟩
  · unfold XApart
    rw [List.pairwise_append]
    refine ⟨h.un, List.pairwise_singleton _ _, fun x hx y hy => ?_⟩
    obtain rfl := List.mem_singleton.1 hy
    cases hA : x.A with
    | none => exact .inl rfl
    | some b => exact .inr (by rintro ⟨⟩)
theorem RelX.addNil {P : Program} {w0 w : World} {N : Gh} {nt lo : Nat} {st : St} {X : List XR} {a : Act} (H : RelX lo P w0 N nt st X a w) (e : Nat) : RelX lo P w0 N nt st (X ++ [xNil e]) a w := by
  obtain ⟨g, h1, h2, h3, h4⟩ := H
  exact ⟨g, h1, h2, h3, h4.addNil e⟩
theorem RelX.none_ {P : Program} {w0 w : World} {N : Gh} {nt lo : Nat} {st : St} {X : List XR} {a : Act} (H : RelX lo P w0 N nt st X a w) : RelX lo P w0 N nt st [] a w := by
  obtain ⟨g, h1, h2, h3, h4⟩ := H
  exact ⟨g, h1, h2, h3, Xs.nil _ _ _⟩
theorem xNil_XB : XB (xNil 5) [] := ⟨rfl, rfl, rfl, 0, rfl, rfl⟩
end Go.Proofs.Ytigmpdhnhkdeiaa
/- span.Decode: the values on their own. -/
namespace Go.Proofs.Ytigmpdhnhkdeiaa
open Go Go.RowKit
def u16S (s : Bool × List UInt8) : Nat × Bool × List UInt8 := if s.2.length < 2 then (0, true, s.2) else (num 0 (s.2.take 2), false, s.2.drop 2)
theorem u16S_v (l : List UInt8) (hl : l.length ≤ 34359738000) : VX Try.prog 102 [(rdT, rdv false l)] [] [] [.ptr 0 []] [(rdT, rdv (u16S (false, l)).2.1 (u16S (false, l)).2.2)] [] [] (.v (.int .i64 ((u16S (false, l)).1 : Int))) := by
  unfold u16S
  dsimp only
  by_cases h : l.length < 2
  · rw [if_pos h]; exact u16_bad l h
  · rw [if_neg h]; exact u16_ok l (by omega) hl
theorem oneS_some {l x r : List UInt8} (h : oneS l = some (x, r)) : 2 ≤ l.length ∧ num 0 (l.take 2) ≤ (l.drop 2).length ∧ x = (l.drop 2).take (num 0 (l.take 2)) ∧ r = (l.drop 2).drop (num 0 (l.take 2)) := by
  unfold oneS at h
  split at h
  · cases h
  · split at h
    · cases h
    · simp only [Option.some.injEq, Prod.mk.injEq] at h
      exact ⟨by omega, by omega, h.1.symm, h.2.symm⟩
theorem oneS_none {l : List UInt8} (h : oneS l = none) : (tkR (u16S (false, l)).1 (u16S (false, l)).2).2.1 = true ∧ (tkR (u16S (false, l)).1 (u16S (false, l)).2).1 = [] := by
  unfold oneS at h
  unfold u16S
  dsimp only
  split at h
  · rename_i h1
    rw [if_pos h1]; rw [tkR_bad _ _ rfl]; exact ⟨rfl, rfl⟩
  · rename_i h1
    rw [if_neg h1]
    split at h
    · rename_i h2
      dsimp only
      rw [tk_no h2]; exact ⟨rfl, rfl⟩
    · cases h
theorem XL.see {X Y : List XR} {ls : List (List UInt8)} (h : XL X ls) (hY : ∀ x ∈ X, x ∈ Y) : SeeX Y (.sl .sc (vas (X.map XR.v)) none) (.sl .sc (bss ls) none) :=
  .sl (by rw [vas_len, List.length_map, bss_len]; exact h.1) fun k k1 k2 => by
    rw [vas_len, List.length_map] at k1
    have k3 : k < ls.length := by have := h.1; omega
    have := (h.2 k k1 k3).see (X := Y) (hY _ (List.getElem_mem k1))
    simpa [vas, bss] using this
/-- What span bytes are, or the empty one; the error. -/
def dcS (b : List UInt8) : Sp := (decS b).getD ⟨[], []⟩
def dcE (b : List UInt8) : Int := if (decS b).isSome = true then 0 else 10
def DcR (b : List UInt8) (X : List XR) (bx' : List (Ty × AV)) (rw' : List (TypeId × Nat)) (res : AV) : Prop :=
  bx' = [] ∧ rw' = [] ∧ res = .tup [.st [.sl brT (brs (dcS b).p) none, .sl .sc (vas (X.map XR.v)) none], errv (dcE b)] ∧ XL X (dcS b).v
attribute [local irreducible] wpT
set_option maxRecDepth 20000 in
set_option maxHeartbeats 8000000 in
theorem spdec_E (b : List UInt8) (hl : b.length ≤ 6000) : VE Try.prog 17 [.bs b none] (DcR b) := by
  have hnw := newRd_v b (by omega)
  have hu := u16S_v b (by omega)
  have hS0 : (u16S (false, b)).2.1 = true → decS b = none ∧ (u16S (false, b)).1 = 0 := fun h => by
    unfold u16S at h ⊢
    dsimp only at h ⊢
    by_cases h2 : b.length < 2
    · rw [if_pos h2]; exact ⟨by unfold decS; rw [if_pos h2], rfl⟩
    · rw [if_neg h2] at h; cases h
  have hS1 : (u16S (false, b)).2.1 = false → (u16S (false, b)).2.2 = b.drop 2 ∧ decS b = match rdVs (u16S (false, b)).1 (b.drop 2) with
      | none => none
      | some (vs, r) => decT b vs r := fun h => by
    unfold u16S at h ⊢
    dsimp only at h ⊢
    by_cases h2 : b.length < 2
    · rw [if_pos h2] at h; cases h
    · rw [if_neg h2]; exact ⟨rfl, by unfold decS; rw [if_neg h2]; first | done | rfl⟩
  have hSl : (u16S (false, b)).2.2.length ≤ 6000 := by
    unfold u16S
    dsimp only
    split
    · exact hl
    · dsimp only; rw [List.length_drop]; omega
  have hSn : (u16S (false, b)).1 ≤ 65535 := by
    unfold u16S
    dsimp only
    split
    · exact Nat.zero_le _
    · have := num2_lt (b.take 2) (by rw [List.length_take]; omega)
      dsimp only; omega
  generalize (u16S (false, b)).1 = n at *
  generalize (u16S (false, b)).2.1 = bd0 at *
  generalize (u16S (false, b)).2.2 = l0 at *
  simp only [rdv] at hnw hu
  refine v_enterE Try.func17 rfl (by kernel_rfl) (by show 1 ≤ 65; decide) ?_
  intro N w0 a w hN hR H
  have hM : N.bx.length ≤ 0 ∧ N.rw.length ≤ 0 := ⟨hN, hR⟩
  refine mS ?_
  (try refine wp_region_lit ?_); refine mN 2 hN H ?_; clear H; intro a w H
  refine mS ?_
  (try refine wp_region_lit ?_); refine mN 1 hN H ?_; clear H; intro a w H
  refine mCall [] [] (hnw) H ?_; clear H; intro a w H; try refine wpList_nil ?_
  (try refine wp_region_lit ?_); refine mN 1 hN H ?_; clear H; intro a w H
  refine mS ?_
  (try refine wp_region_lit ?_); refine mN 1 hN H ?_; clear H; intro a w H
  refine mS ?_
  (try refine wp_region_lit ?_); refine mN 1 hN H ?_; clear H; intro a w H
  refine mCall [1] [] (hu) H ?_; clear H; intro a w H; try refine wpList_nil ?_
  (try refine wp_region_lit ?_); refine mN 1 hN H ?_; clear H; intro a w H
  replace H := v_nilX tab_ok H 2 1 26 (j := ti26) .sc rfl (by decide) rfl rfl
  simp only [List.set_cons_succ, List.set_cons_zero, List.length_cons, List.length_nil, Nat.reduceAdd, List.cons_append, List.nil_append] at H
  refine mS ?_
  refine v_loopI (fun (i : Bool × Nat) a w => ∃ (X : List XR) (es : List AV) (l : List UInt8), es.length = i.2 ∧ l.length ≤ 6000 ∧ (i.1 = true → decS b = none) ∧ (i.1 = false → bd0 = false ∧ ∃ vs, XL X vs ∧ es = vas (X.map XR.v) ∧ rdVs i.2 (b.drop 2) = some (vs, l)) ∧
      RelX w0.heap.size Try.prog w0 N Try.f17.ntmps ⟨[(6, none, .v (.int .i64 ((n - i.2 : Nat) : Int))), (5, none, .ptr 2 []), (4, none, .ptr 1 []), (3, none, .v (.int .i64 0)), (2, none, .ptr 0 []), (0, none, .bs b none)], [(spT1, .st [.v (.slice none 0 0), .v (.slice none 0 0)]), (rdT, .st [.v (.bool true), .v (.bool i.1), .bs l none]), (spT1, .st [.v (.slice none 0 0), .sl .sc es (some 0)])], [], [(26, i.2)]⟩ X a w)
    (fun i => i.2 ≤ n) (fun i => n - i.2) (bd0, 0) (Nat.zero_le _) ⟨[], [], l0, rfl, hSl, fun h => (hS0 h).1, fun h => ⟨h, [], XL.nil, rfl, by rw [(hS1 h).1]; rfl⟩, Rel.toX (by exact H.to 3 1 ⟨Nat.le_trans hN (Nat.zero_le _), Nat.le_trans hR (Nat.zero_le _)⟩ ⟨rfl, rfl, rfl, rfl, rfl, rfl, trivial⟩ rfl rfl rfl rfl rfl) _⟩ ?_
  clear H hN hR hS0 hnw hu
  rintro ⟨bd, i⟩ a w1 hi ⟨X, es, l, hel, hll, hbd, hgd, H⟩
  dsimp only at hi hel hbd hgd H
  obtain ⟨N1, hB, hZ, H, hN1, hR1⟩ := H.open_
  have hN : N1.bx.length ≤ 3 := Nat.le_of_eq hN1
  have hR : N1.rw.length ≤ 1 := Nat.le_of_eq hR1
  clear hN1 hR1
  have hbv := bad_v bd l
  simp only [rdv] at hbv
  cases bd with
  | true =>
    have hnone := hbd rfl
    clear hbd hgd
    have hlf := left_v true l
    have htw := takeR_v 0 (true, l) (by dsimp only; omega)
    rw [tkR_bad _ _ rfl] at htw
    have hmd := mdecode_v [] (Nat.zero_le _)
    have hd0 : decB [] = none := by decide
    rw [hd0] at hmd
    dsimp only at hmd htw
    simp only [rdv] at hlf htw
    refine mS ?_
    (try refine wp_region_lit ?_); refine mN 2 hN H ?_; clear H; intro a w H
    revert a w
    apply cutG9 (R := fun a w => Rel Try.prog w1 N1 Try.f17.ntmps ⟨[(5, none, .ptr 2 []), (4, none, .ptr 1 []), (3, none, .v (.int .i64 0)), (2, none, .ptr 0 []), (0, none, .bs b none)], [(spT1, .st [.v (.slice none 0 0), .v (.slice none 0 0)]), (rdT, .st [.v (.bool true), .v (.bool true), .bs l none]), (spT1, .st [.v (.slice none 0 0), .sl .sc es (some 0)])], [], [(26, i)]⟩ a w)
    · intro key1 a w H
      by_cases hin : i < n
      · have hd1 : decide ((0 : Int) < ((n - i : Nat) : Int)) = true := decide_eq_true (by omega)
        rw [hd1] at H
        (try refine wp_region_lit ?_); refine mN 1 hN H ?_; clear H; intro a w H
        (try refine wp_region_lit ?_); refine mN 1 hN H ?_; clear H; intro a w H
        replace H := v_known H 16 true rfl
        simp only [unG, gdEq, Nat.reduceBEq, cond_true, cond_false] at H
        refine mG H ?_
        refine mCall [1] [] (hbv) H ?_; clear H; intro a w H; try refine wpList_nil ?_
        refine mW ?_; clear H; intro a w H
        refine mC H (fun hb => ?_) (fun hb => ?_)
        · exact absurd hb (by decide)
        · clear hb
          refine mS ?_
          exact key1 _ _ (H.to 3 1 ⟨hN, hR⟩ ⟨rfl, rfl, rfl, rfl, rfl, trivial⟩ rfl rfl rfl rfl rfl)
      · have hd1 : decide ((0 : Int) < ((n - i : Nat) : Int)) = false := decide_eq_false (by omega)
        rw [hd1] at H
        (try refine wp_region_lit ?_); refine mN 1 hN H ?_; clear H; intro a w H
        (try refine wp_region_lit ?_); refine mN 1 hN H ?_; clear H; intro a w H
        refine mSk (.v (.bool true)) H ?_; clear H; intro a w H
        refine mW ?_; clear H; intro a w H
        refine mC H (fun hb => ?_) (fun hb => ?_)
        · exact absurd hb (by decide)
        · clear hb
          refine mS ?_
          exact key1 _ _ (H.to 3 1 ⟨hN, hR⟩ ⟨rfl, rfl, rfl, rfl, rfl, trivial⟩ rfl rfl rfl rfl rfl)
    intro a w H
    refine mW ?_; clear H; intro a w H
    refine mCall [1] [] (hlf) H ?_; clear H; intro a w H; try refine wpList_nil ?_
    refine mCall [1] [] (htw) H ?_; clear H; intro a w H; try refine wpList_nil ?_
    refine mCall [] [] (hmd) H ?_; clear H; intro a w H; try refine wpList_nil ?_
    refine mW ?_; clear H; intro a w H
    refine mCall [1] [] (hbv) H ?_; clear H; intro a w H; try refine wpList_nil ?_
    refine mW ?_; clear H; intro a w H
    refine mC H (fun hb => ?_) (fun hb => ?_)
    · clear hb
      refine mW ?_; clear H; intro a w H
      replace H := nf H
      refine wp_ret ?_
      exact v_endE (bx' := []) (rs := [.cell 2 25, .tmp 3]) (ress := [.st [.sl brT [] none, .sl .sc [] none], errv 10]) (nb := 0) (nr := 0) [] [] tab_ok hM rfl (RelX.close hB hZ H).none_ (by rfl) (by rfl) cbX (by rfl) ⟨⟨rfl, rfl, trivial⟩, sub_refl _ _, trivial⟩ rfl ⟨rfl, rfl, by unfold dcS dcE; rw [hnone]; rfl, by unfold dcS; rw [hnone]; exact XL.nil⟩
    · exact absurd hb (by decide)
  | false =>
    obtain ⟨hb0, vs, hT, hes, hrd⟩ := hgd rfl
    obtain ⟨hl0, hds⟩ := hS1 hb0
    clear hbd hgd hS1
    have hvsl := (rdVs_len hrd).1
    have hvsx := (rdVs_len hrd).2.2
    have hXl : X.length = vs.length := hT.1
    by_cases hin : i < n
    · have hd1 : decide ((0 : Int) < ((n - i : Nat) : Int)) = true := decide_eq_true (by omega)
      refine mS ?_
      have hX := @hel
      (try refine wp_region_lit ?_); refine mN 2 hN H ?_; clear H; intro a w H
      rw [hd1] at H
      (try refine wp_region_lit ?_); refine mN 1 hN H ?_; clear H; intro a w H
      (try refine wp_region_lit ?_); refine mN 1 hN H ?_; clear H; intro a w H
      replace H := v_known H 16 true rfl
      simp only [unG, gdEq, Nat.reduceBEq, cond_true, cond_false] at H
      refine mG H ?_
      refine mCall [1] [] (hbv) H ?_; clear H; intro a w H; try refine wpList_nil ?_
      refine mW ?_; clear H; intro a w H
      refine mC H (fun hb => ?_) (fun hb => ?_)
      · clear hb hbv
        cases ho : oneS l with
        | none =>
          have hdn : decS b = none := by
            have h1 : rdVs (i + 1) (b.drop 2) = none := by rw [rdVs, hrd, Option.bind_some, ho]; rfl
            have h2 := rdVs_none h1 (n - (i + 1))
            rw [show i + 1 + (n - (i + 1)) = n by omega] at h2
            rw [hds, h2]
          obtain ⟨o1, o2⟩ := oneS_none ho
          have hu := u16S_v l (by omega)
          have hul : (u16S (false, l)).2.2.length ≤ 6000 := by
            unfold u16S
            dsimp only
            split
            · exact hll
            · dsimp only; rw [List.length_drop]; omega
          have htk := takeR_v (u16S (false, l)).1 (u16S (false, l)).2 (by omega)
          have htl := tkR_le (u16S (false, l)).1 (u16S (false, l)).2
          rw [o1, o2] at htk
          generalize (tkR (u16S (false, l)).1 (u16S (false, l)).2).2.2 = lf at *
          generalize (u16S (false, l)).1 = m at *
          generalize (u16S (false, l)).2.1 = bm at *
          generalize (u16S (false, l)).2.2 = lm at *
          simp only [rdv] at hu htk
          refine mS ?_
          replace H := mK [0, 2, 3, 4, 5, 6] 3 1 hN hR H
          repeat (first | refine wp_seq ?_ | refine wp_block ?_)
          refine v_drawZ 0 [0, 2, 3, 1, 4, 5, 6, 7, 8, 9] [1, 4, 5, 6, 7, 9] [0, 2, 3] [(1, 4), (1, 5), (1, 6), (1005, 4), (1006, 5)] (by kernel_rfl) (by kernel_rfl) (by kernel_rfl) (by kernel_rfl) (by kernel_rfl) H (by rfl) ?_; clear H; intro gS H; try replace H := ntf H
          repeat' ((first | refine wpZ_q1 rfl rfl ?_ | refine wpZ_l1 rfl rfl rfl ?_ | refine wpZ_l2 rfl rfl rfl rfl rfl ?_ ?_ | refine wpZ_l3 rfl rfl rfl rfl rfl rfl rfl ?_ ?_ ?_ | refine wpZ_l4 rfl rfl rfl rfl rfl rfl rfl rfl rfl ?_ ?_ ?_ ?_) <;> ((first | (refine wpT_at 4 ?_; refine mCallT [1] [] (hu) H ?_; clear H; intro a w H) | (refine wpT_at 5 ?_; refine mCallT [1] [] (htk) H ?_; clear H; intro a w H) | (refine v_someT 1 tab_ok hN H rfl ctX ?_; clear H; intro a w H; replace H := ntf H; simp only [List.drop_succ_cons, List.drop_zero, List.drop_nil])); refine wpT_nil ?_; try dsimp only))
          all_goals (refine wpZ_nil ?_; replace H := RelT.toRel H)
          all_goals
            replace H := mK [0, 2, 3, 4, 5, 6] 3 1 hN hR H
            refine mW ?_; clear H; intro a w H
            rw [show ((n - i : Nat) : Int) - 1 = ((n - (i + 1) : Nat) : Int) by omega] at H
            replace H := RelX.close hB hZ H
            exact ⟨(true, i + 1), hin, by dsimp only; omega, X, es ++ [.bs [] none], lf, by rw [List.length_append, hel]; rfl, by omega, fun _ => hdn, fun h => (by cases h), H.to 3 1 ⟨Nat.le_trans hM.1 (Nat.zero_le _), Nat.le_trans hM.2 (Nat.zero_le _)⟩ ⟨rfl, rfl, rfl, rfl, rfl, rfl, trivial⟩ rfl (by rfl) rfl rfl rfl⟩
        | some y =>
          obtain ⟨x, r⟩ := y
          obtain ⟨s1, s2, s3, s4⟩ := oneS_some ho
          have hu := u16S_v l (by omega)
          have hue : u16S (false, l) = (num 0 (l.take 2), false, l.drop 2) := by unfold u16S; dsimp only; rw [if_neg (by omega)]
          rw [hue] at hu
          have htk := take_ok (l.drop 2) (num 0 (l.take 2)) s2 (by rw [List.length_drop]; omega)
          rw [← s3, ← s4] at htk
          have hxm : x.length = num 0 (l.take 2) := by rw [s3, List.length_take]; omega
          have hrl : r.length ≤ 6000 := by rw [s4, List.length_drop, List.length_drop]; omega
          have hrd2 : rdVs (i + 1) (b.drop 2) = some (vs ++ [x], r) := by rw [rdVs, hrd, Option.bind_some, ho]; rfl
          dsimp only at hu
          generalize num 0 (l.take 2) = m at *
          generalize l.drop 2 = lm at *
          clear hue s1 s2 s3 s4 ho
          simp only [rdv] at hu htk
          rw [← hxm] at htk
          subst hxm
          refine mS ?_
          replace H := mK [0, 2, 3, 4, 5, 6] 3 1 hN hR H
          repeat (first | refine wp_seq ?_ | refine wp_block ?_)
          refine v_drawZ 0 [0, 2, 3, 1, 4, 5, 6, 7, 8, 9] [1, 4, 5, 6, 7, 9] [0, 2, 3] [(1, 4), (1, 5), (1, 6), (1005, 4), (1006, 5)] (by kernel_rfl) (by kernel_rfl) (by kernel_rfl) (by kernel_rfl) (by kernel_rfl) H (by rfl) ?_; clear H; intro gS H; try replace H := ntf H
          repeat' ((first | refine wpZ_q1 rfl rfl ?_ | refine wpZ_l1 rfl rfl rfl ?_ | refine wpZ_l2 rfl rfl rfl rfl rfl ?_ ?_ | refine wpZ_l3 rfl rfl rfl rfl rfl rfl rfl ?_ ?_ ?_ | refine wpZ_l4 rfl rfl rfl rfl rfl rfl rfl rfl rfl ?_ ?_ ?_ ?_) <;> ((first | (refine wpT_at 4 ?_; refine mCallT [1] [] (hu) H ?_; clear H; intro a w H) | (refine wpT_at 5 ?_; refine mCallT [1] [] (htk) H ?_; clear H; intro a w H; obtain ⟨y, hy, HX⟩ := v_pubT (RelXT.close hB hZ H) (Nat.le_refl _) [0, 2, 3, 4, 5, 6, 23, 24, 25, 26, 27] 28 1 5 rfl (Nat.le_trans hM.2 (Nat.zero_le _)) rfl rfl (Nat.le_of_ble_eq_true rfl) rfl rfl; clear H hB hZ hN hR; replace HX := nfXT HX; obtain ⟨N2, hB, hZ, H, hN2, hR2⟩ := HX.open_; clear HX; have hN : N2.bx.length ≤ 3 := Nat.le_of_eq hN2; have hR : N2.rw.length ≤ 1 := Nat.le_of_eq hR2; clear hN2 hR2) | (refine v_someT 1 tab_ok hN H rfl ctX ?_; clear H; intro a w H; replace H := ntf H; simp only [List.drop_succ_cons, List.drop_zero, List.drop_nil])); refine wpT_nil ?_; try dsimp only))
          all_goals (refine wpZ_nil ?_; replace H := RelT.toRel H)
          all_goals
            replace H := mK [0, 2, 3, 4, 5, 6] 3 1 hN hR H
            refine mW ?_; clear H; intro a w H
            rw [show ((n - i : Nat) : Int) - 1 = ((n - (i + 1) : Nat) : Int) by omega] at H
            replace H := RelX.close hB hZ H
            exact ⟨(false, i + 1), hin, by dsimp only; omega, X ++ [y], es ++ [.v y.v], r, by rw [List.length_append, hel]; rfl, hrl, fun h => (by cases h), fun _ => ⟨hb0, vs ++ [x], hT.snoc hy, by rw [hes]; simp [vas], hrd2⟩, H.to 3 1 ⟨Nat.le_trans hM.1 (Nat.zero_le _), Nat.le_trans hM.2 (Nat.zero_le _)⟩ ⟨rfl, rfl, rfl, rfl, rfl, rfl, trivial⟩ rfl (by rfl) rfl rfl rfl⟩
      · exact absurd hb (by decide)
    · have hd1 : decide ((0 : Int) < ((n - i : Nat) : Int)) = false := decide_eq_false (by omega)
      have hie : i = n := by omega
      subst hie
      rw [hrd] at hds
      dsimp only at hds
      have hlf := left_v false l
      have htw := takeR_v l.length (false, l) (by dsimp only; omega)
      rw [tk_ok (Nat.le_refl _), List.take_length, List.drop_length] at htw
      have hmd := mdecode_v l (by omega)
      have hbv2 := bad_v false []
      dsimp only at htw
      simp only [rdv, Bool.false_eq_true, if_false] at hlf htw hbv2
      have hvw : ∀ x ∈ vs, x.length ≤ 34359730000 := fun x hx => by have := hvsx x hx; rw [List.length_drop] at this; omega
      refine mS ?_
      have hX := @hel
      (try refine wp_region_lit ?_); refine mN 2 hN H ?_; clear H; intro a w H
      rw [show decide ((0 : Int) < ((0 : Nat) : Int)) = false from by decide] at H
      (try refine wp_region_lit ?_); refine mN 1 hN H ?_; clear H; intro a w H
      (try refine wp_region_lit ?_); refine mN 1 hN H ?_; clear H; intro a w H
      refine mSk (.v (.bool true)) H ?_; clear H; intro a w H
      refine mW ?_; clear H; intro a w H
      refine mC H (fun hb => ?_) (fun hb => ?_)
      · exact absurd hb (by decide)
      · clear hb
        refine mS ?_
        replace H := mK [0, 2, 3, 4, 5] 3 1 hN hR H
        refine mW ?_; clear H; intro a w H
        refine mCall [1] [] (hlf) H ?_; clear H; intro a w H; try refine wpList_nil ?_
        refine mCall [1] [] (htw) H ?_; clear H; intro a w H; try refine wpList_nil ?_
        cases hp : decB l with
        | none =>
          rw [hp] at hmd
          dsimp only at hmd
          have hnone : decS b = none := by rw [hds]; unfold decT; rw [hp]
          refine mCall [] [] (hmd) H ?_; clear H; intro a w H; try refine wpList_nil ?_
          refine mW ?_; clear H; intro a w H
          refine mCall [1] [] (hbv2) H ?_; clear H; intro a w H; try refine wpList_nil ?_
          refine mW ?_; clear H; intro a w H
          refine mC H (fun hb => ?_) (fun hb => ?_)
          · clear hb
            refine mW ?_; clear H; intro a w H
            replace H := nf H
            refine wp_ret ?_
            exact v_endE (bx' := []) (rs := [.cell 2 25, .tmp 3]) (ress := [.st [.sl brT [] none, .sl .sc [] none], errv 10]) (nb := 0) (nr := 0) [] [] tab_ok hM rfl (RelX.close hB hZ H).none_ (by rfl) (by rfl) cbX (by rfl) ⟨⟨rfl, rfl, trivial⟩, sub_refl _ _, trivial⟩ rfl ⟨rfl, rfl, by unfold dcS dcE; rw [hnone]; rfl, by unfold dcS; rw [hnone]; exact XL.nil⟩
          · exact absurd hb (by decide)
        | some p =>
          rw [hp] at hmd
          dsimp only at hmd
          obtain ⟨hpw, hpl⟩ := decB_len hp
          have hS : decS b = if spCE ⟨p, vs⟩ = 0 ∧ spEB ⟨p, vs⟩ = b then some ⟨p, vs⟩ else none := by rw [hds]; unfold decT; rw [hp]
          have hen := spenc_v ⟨p, vs⟩ ⟨hpw, by dsimp only; omega, by dsimp only; omega, hvw⟩
          have hbp := brs_len p
          have hsee : SeeX X (.st [.sl brT (brs p) none, .sl .sc es none]) (.st [.sl brT (brs p) none, .sl .sc (bss vs) none]) := .st rfl fun j j1 j2 => by
            match j, j1 with
            | 0, _ => exact .refl _
            | 1, _ => rw [hes]; exact hT.see fun x hx => hx
          dsimp only at hen
          clear hX; have hX := And.intro @hel (@hbp)
          refine mCall [] [] (hmd) H ?_; clear H; intro a w H; try refine wpList_nil ?_
          refine mW ?_; clear H; intro a w H
          refine mCall [1] [] (hbv2) H ?_; clear H; intro a w H; try refine wpList_nil ?_
          refine mW ?_; clear H; intro a w H
          refine mC H (fun hb => ?_) (fun hb => ?_)
          · exact absurd hb (by decide)
          · clear hb
            refine mW ?_; clear H; intro a w H
            replace H := v_sub H 51 (x := .st [.sl brT (brs p) (some 1), .sl .sc es (some 0)]) (y := .st [.sl brT (brs p) none, .sl .sc es none]) ⟨⟨rfl, rfl⟩, ⟨rfl, rfl⟩, trivial⟩ rfl (fun az h => by cases h) rfl
            simp only [nilT, reduceIte, Nat.reduceEqDiff] at H
            replace H := v_seeX hZ H 51 _ hsee rfl
            simp only [nilT, reduceIte, Nat.reduceEqDiff] at H
            by_cases h0 : spCE ⟨p, vs⟩ = 0
            · rw [h0, if_pos rfl, if_pos rfl] at hen
              have hcm := compare_v (spEB ⟨p, vs⟩) b
              have hz := cmp_zero (spEB ⟨p, vs⟩) b
              refine mCall [] [] (hen) H ?_; clear H; intro a w H; try refine wpList_nil ?_
              refine mW ?_; clear H; intro a w H
              replace H := v_known H 57 false rfl
              simp only [unG, gdEq, Nat.reduceBEq, cond_true, cond_false] at H
              refine mG H ?_
              refine mCall [] [] (hcm) H ?_; clear H; intro a w H; try refine wpList_nil ?_
              by_cases heq : spEB ⟨p, vs⟩ = b
              · rw [hz.2 heq] at H
                rw [if_pos ⟨h0, heq⟩] at hS
                refine mW ?_; clear H; intro a w H
                refine mC H (fun hb => ?_) (fun hb => ?_)
                · exact absurd hb (by decide)
                · clear hb
                  refine mW ?_; clear H; intro a w H
                  replace H := nf H
                  refine wp_ret ?_
                  rw [hes] at H
                  exact v_endE (bx' := []) (rs := [.cell 2 25, .tmp 3]) (ress := [.st [.sl brT (brs p) none, .sl .sc (vas (X.map XR.v)) none], errv 0]) (nb := 0) (nr := 0) [] [] tab_ok hM rfl (RelX.close hB hZ H) (by rfl) (by rfl) cbX (by rfl) ⟨⟨⟨rfl, rfl⟩, ⟨rfl, rfl⟩, trivial⟩, sub_refl _ _, trivial⟩ rfl ⟨rfl, rfl, by unfold dcS dcE; rw [hS]; rfl, by unfold dcS; rw [hS]; exact hT⟩
              · have hcz : decide (Lib.compareBytes (spEB ⟨p, vs⟩) b = 0) = false := decide_eq_false (fun h => heq (hz.1 h))
                rw [if_neg (fun h => heq h.2)] at hS
                have hnone := hS
                generalize Lib.compareBytes (spEB ⟨p, vs⟩) b = cb at *
                refine mW ?_; clear H; intro a w H
                refine mC H (fun hb => ?_) (fun hb => ?_)
                · clear hb
                  refine mW ?_; clear H; intro a w H
                  replace H := nf H
                  refine wp_ret ?_
                  exact v_endE (bx' := []) (rs := [.cell 2 25, .tmp 3]) (ress := [.st [.sl brT [] none, .sl .sc [] none], errv 10]) (nb := 0) (nr := 0) [] [] tab_ok hM rfl (RelX.close hB hZ H).none_ (by rfl) (by rfl) cbX (by rfl) ⟨⟨rfl, rfl, trivial⟩, sub_refl _ _, trivial⟩ rfl ⟨rfl, rfl, by unfold dcS dcE; rw [hnone]; rfl, by unfold dcS; rw [hnone]; exact XL.nil⟩
                · rw [hcz] at hb; cases hb
            · rw [if_neg h0, if_neg h0] at hen
              rw [if_neg (fun h => h0 h.1)] at hS
              have hnone := hS
              have hd0 : decide (spCE ⟨p, vs⟩ = 0) = false := decide_eq_false h0
              generalize spCE ⟨p, vs⟩ = e at *
              refine mCall [] [] (hen) H ?_; clear H; intro a w H; try refine wpList_nil ?_
              refine mW ?_; clear H; intro a w H
              try simp only [hd0, Bool.not_false] at H
              refine mSk (.v (.int .i64 0)) H ?_; clear H; intro a w H
              refine mW ?_; clear H; intro a w H
              refine mC H (fun hb => ?_) (fun hb => ?_)
              · clear hb
                refine mW ?_; clear H; intro a w H
                replace H := nf H
                refine wp_ret ?_
                exact v_endE (bx' := []) (rs := [.cell 2 25, .tmp 3]) (ress := [.st [.sl brT [] none, .sl .sc [] none], errv 10]) (nb := 0) (nr := 0) [] [] tab_ok hM rfl (RelX.close hB hZ H).none_ (by rfl) (by rfl) cbX (by rfl) ⟨⟨rfl, rfl, trivial⟩, sub_refl _ _, trivial⟩ rfl ⟨rfl, rfl, by unfold dcS dcE; rw [hnone]; rfl, by unfold dcS; rw [hnone]; exact XL.nil⟩
              · cases hb
end Go.Proofs.Ytigmpdhnhkdeiaa
/- The statements' kit: proofs compared and copied. -/
namespace Go.Proofs.Ytigmpdhnhkdeiaa
open Go Go.RowKit
end Go.Proofs.Ytigmpdhnhkdeiaa
/- No lists share memory: ApartBytes of none. -/
namespace Go.Proofs.Ytigmpdhnhkdeiaa
open Go Go.RowKit
end Go.Proofs.Ytigmpdhnhkdeiaa
/- The statement SpanCodes, in values. -/
namespace Go.Proofs.Ytigmpdhnhkdeiaa
open Go Go.RowKit
theorem Xs.perm {lo : Nat} {g : Gh} {w : World} {X Y : List XR} (h : Xs lo g w X) (p : X.Perm Y) : Xs lo g w Y := by
  refine ⟨fun x hx => h.ok x (p.mem_iff.2 hx), ?_⟩
  have hu := h.un
  unfold XApart at hu ⊢
  refine (p.pairwise_iff ?_).1 hu
  intro x y hxy
  rcases hxy with e | e
  · cases hy : y.A with
    | none => exact .inl rfl
    | some b => exact .inr (by rw [e]; rintro ⟨⟩)
  · exact .inr fun e2 => e e2.symm
theorem dS_wf (b : List UInt8) (hb : b.length ≤ 6000) : (dcS b).wf := by
  unfold dcS
  cases h : decS b with
  | none => exact ⟨fun x hx => (by cases hx), Nat.zero_le _, Nat.zero_le _, fun x hx => (by cases hx)⟩
  | some s =>
    unfold decS at h
    split at h
    · cases h
    · split at h
      · cases h
      · rename_i h2 vs r hr
        unfold decT at h
        cases hp : decB r with
        | none => rw [hp] at h; cases h
        | some p =>
          rw [hp] at h
          dsimp only at h
          split at h
          · injection h with h; subst h
            obtain ⟨q1, q2, q3⟩ := rdVs_len hr
            obtain ⟨p1, p2⟩ := decB_len hp
            have hn := num2_lt (b.take 2) (by rw [List.length_take]; omega)
            have hd : (b.drop 2).length ≤ 6000 := by rw [List.length_drop]; omega
            exact ⟨p1, by dsimp only [Option.getD]; omega, by dsimp only [Option.getD]; omega, fun x hx => by have := q3 x hx; omega⟩
          · cases h
theorem dec24_u (b : List UInt8) (hl : b.length ≤ 6000) : VC Try.prog 18 [.bs b none] [] (.tup [.st [.sl brT (brs (dcS b).p) none, .sl .sc (bss (dcS b).v) none], .v (.int .i64 (dcE b))]) := by
  have h := dec24_v b hl
  unfold dcS dcE
  cases hd : decS b with
  | none =>
    rw [hd] at h
    exact VC.lessT h ⟨⟨rfl, rfl, trivial⟩, sub_refl _ _, trivial⟩ rfl
  | some s => rw [hd] at h; exact h
def scV (s : Sp) : List UInt8 := if spCE s = 0 then spEB s else []
attribute [local irreducible] wpT
set_option maxRecDepth 20000 in
set_option maxHeartbeats 16000000 in
theorem spanCodes_v (s : Sp) (hp : ∀ b ∈ s.p, b.wf) (hv : ∀ x ∈ s.v, x.length ≤ 34359730000) (hpl : s.p.length ≤ 1048576) (hvl : s.v.length ≤ 1048576) (b : List UInt8) (hbl : b.length ≤ 1048576) :
    VC Try.prog 3 [s.av, .bs b none] [] (.v (.bool true)) := by
  have hw1 := brs_len s.p
  have hw2 := bss_len s.v
  refine mE Try.func3 ?_; intro N w0 a w hN hR H
  simp only [Sp.av] at H
  have hX := And.intro @hw1 (@hw2)
  refine mW ?_; clear H; intro a w H
  refine mC H (fun hb => ?_) (fun hb => ?_)
  · refine mW ?_; clear H; intro a w H
    refine wp_ret ?_; exact mEnd [] [] [.tmp 4] [_] hN hR H
  · have hlen : s.p.length ≤ 3000 ∧ s.v.length ≤ 260 ∧ b.length ≤ 6000 := by
      cases hd : decide ((3000 : Int) < (s.p.length : Int))
      · rw [hd] at hb
        cases hd2 : decide ((260 : Int) < (s.v.length : Int))
        · rw [hd2] at hb
          have : decide ((6000 : Int) < (b.length : Int)) = false := hb
          rw [decide_eq_false_iff_not] at this hd hd2; omega
        · rw [hd2] at hb; cases hb
      · rw [hd] at hb; cases hb
    clear hb
    obtain ⟨g1, g2, g3⟩ := hlen
    have hs : s.wf := ⟨hp, by omega, by omega, hv⟩
    have hM : N.bx.length ≤ 0 ∧ N.rw.length ≤ 0 := ⟨hN, hR⟩
    have cL := lentS_E s hs
    have cB := lent_E b (by omega)
    have cE := spenc_v s hs
    have cF := enc24_v s hs
    have cD := spdec_E b g3
    have cG := dec24_u b g3
    have hdw := dS_wf b g3
    have cS := sameSp_v (dcS b) hdw
    have cK := keptSp_v s hs
    have cKb := kept_v b (by omega)
    have hd1 := brs_len (dcS b).p
    have hd2 := bss_len (dcS b).v
    have hdl : (dcS b).v.length ≤ 90000 := hdw.lv
    simp only [Sp.av] at cL cS cK
    refine mS ?_
    replace H := mK [1, 2, 4] 1 0 hN hR H
    refine mS ?_
    (try refine wp_region_lit ?_); refine mN 1 hN H ?_; clear H; intro a w H
    refine v_callE cL (FrX.refl _ _ _) (Nat.le_refl _) (Xs.nil _ _ _) H (by rintro Y bx' rw' res ⟨rfl, rfl, rfl, _⟩; exact ⟨by rfl, rfl⟩) ?_
    clear H
    rintro X bx' rw' res a w1 ⟨rfl, rfl, rfl, hT⟩ H
    replace H := nfX H
    clear hN hR
    rw [List.nil_append] at H
    obtain ⟨N1, hB, hZ, H, hN1, hR1⟩ := H.open_
    have hN : N1.bx.length ≤ 1 := Nat.le_of_eq hN1
    have hR : N1.rw.length ≤ 0 := Nat.le_of_eq hR1
    clear hN1 hR1
    have hXv : (vas (X.map XR.v)).length = s.v.length := by rw [vas_len, List.length_map]; exact hT.1
    have hseeV : ∀ {Y : List XR}, (∀ x ∈ X, x ∈ Y) → SeeX Y (.st [.sl brT (brs s.p) none, .sl .sc (vas (X.map XR.v)) none]) (.st [.sl brT (brs s.p) none, .sl .sc (bss s.v) none]) := fun {Y} hY => .st rfl fun i i1 i2 => by
      match i, i1 with
      | 0, _ => exact .refl _
      | 1, _ => exact hT.see hY
    generalize hLV : vas (X.map XR.v) = LV at *
    clear hX; have hX := And.intro @hw1 (And.intro @hw2 (@hXv))
    (try refine wp_region_lit ?_); refine mN 1 hN H ?_; clear H; intro a w H
    refine v_callE cB hB (Nat.le_refl _) hZ H (by rintro Y bx' rw' res ⟨rfl, rfl, x, rfl, rfl, _⟩; exact ⟨rfl, rfl⟩) ?_
    clear H
    rintro Y bx' rw' res a w2 ⟨rfl, rfl, xl, rfl, rfl, hxl⟩ H
    replace H := nfX H
    clear hN hR hB hZ
    obtain ⟨N2, hB, hZ, H, hN1, hR1⟩ := H.open_
    have hN : N2.bx.length ≤ 1 := Nat.le_of_eq hN1
    have hR : N2.rw.length ≤ 0 := Nat.le_of_eq hR1
    clear hN1 hR1
    refine mW ?_; clear H; intro a w H
    replace H := v_seeX hZ H 37 _ (hseeV (fun x hx => List.mem_append_left _ hx)) rfl
    simp only [nilT, reduceIte, Nat.reduceEqDiff] at H
    revert a w
    apply cutG9 (R := fun a w => ∃ xx : XR, XB xx (scV s) ∧ RelX w0.heap.size Try.prog w0 N Try.f3.ntmps ⟨[(47, none, .v xl.v), (7, none, .v xx.v), (9, none, .bs (scV s) none), (8, none, errv (spCE s)), (10, none, .v (.int .i64 (spCE s))), (6, none, .v xl.v), (5, none, .ptr 1 []), (4, none, .v (.bool false)), (2, none, .ptr 0 []), (1, none, .bs b none)], [(spT0, .st [.sl brT (brs s.p) none, .sl .sc (bss s.v) none]), (spT0, .st [.sl brT (brs s.p) none, .sl .sc LV none])], [], []⟩ (X ++ [xl] ++ [xx]) a w)
    · intro key1 a w H
      by_cases h0 : spCE s = 0
      · have hVe : scV s = spEB s := by unfold scV; rw [if_pos h0]
        rw [hVe] at key1
        rw [h0] at cE cF key1
        rw [if_pos rfl, if_pos rfl] at cE cF
        refine mCall [] [] (cE) H ?_; clear H; intro a w H; try refine wpList_nil ?_
        refine mW ?_; clear H; intro a w H
        obtain ⟨xx, hxx, HX⟩ := v_pub (RelX.close hB hZ H) (Nat.le_refl _) [1, 2, 4, 5, 6, 8, 42] 7 0 5 rfl (Nat.le_trans hM.2 (Nat.zero_le _)) rfl rfl (by rfl) (by rfl)
        clear H
        replace HX := nfX HX
        obtain ⟨N3, hB, hZ, H, hN1, hR1⟩ := HX.open_
        clear HX
        have hN : N3.bx.length ≤ 2 := Nat.le_of_eq hN1
        have hR : N3.rw.length ≤ 0 := Nat.le_of_eq hR1
        clear hN1 hR1
        refine mCall [] [] (cF) H ?_; clear H; intro a w H; try refine wpList_nil ?_
        refine mW ?_; clear H; intro a w H
        replace H := v_sub H 9 (x := .bs (spEB s) (some 0)) (y := .bs (spEB s) none) rfl rfl (fun az h => by cases h) rfl
        simp only [nilT, reduceIte, Nat.reduceEqDiff] at H
        exact key1 _ _ ⟨xx, hxx, (RelX.close hB hZ H).to 2 0 ⟨Nat.le_trans hM.1 (Nat.zero_le _), Nat.le_trans hM.2 (Nat.zero_le _)⟩ ⟨rfl, rfl, rfl, rfl, rfl, rfl, rfl, rfl, rfl, rfl, trivial⟩ rfl rfl rfl rfl rfl⟩
      · have hVe : scV s = [] := by unfold scV; rw [if_neg h0]
        rw [hVe] at key1
        rw [if_neg h0, if_neg h0] at cE cF
        refine mCall [] [] (cE) H ?_; clear H; intro a w H; try refine wpList_nil ?_
        refine mW ?_; clear H; intro a w H
        have HX := (RelX.close hB hZ H).addNil 5
        clear H
        obtain ⟨N3, hB, hZ, H, hN1, hR1⟩ := HX.open_
        clear HX
        have hN : N3.bx.length ≤ 2 := Nat.le_of_eq hN1
        have hR : N3.rw.length ≤ 0 := Nat.le_of_eq hR1
        clear hN1 hR1
        refine mCall [] [] (cF) H ?_; clear H; intro a w H; try refine wpList_nil ?_
        refine mW ?_; clear H; intro a w H
        replace H := v_sub H 9 (x := .v (.slice none 0 0)) (y := .bs [] none) rfl rfl (fun az h => by cases h) rfl
        simp only [nilT, reduceIte, Nat.reduceEqDiff] at H
        exact key1 _ _ ⟨xNil 5, xNil_XB, (RelX.close hB hZ H).to 2 0 ⟨Nat.le_trans hM.1 (Nat.zero_le _), Nat.le_trans hM.2 (Nat.zero_le _)⟩ ⟨rfl, rfl, rfl, rfl, rfl, rfl, rfl, rfl, rfl, rfl, trivial⟩ rfl rfl rfl rfl rfl⟩
    rintro a w3 ⟨xx, hxx, HX⟩
    obtain ⟨N3, hB, hZ, H, hN1, hR1⟩ := HX.open_
    clear HX
    have hN : N3.bx.length ≤ 2 := Nat.le_of_eq hN1
    have hR : N3.rw.length ≤ 0 := Nat.le_of_eq hR1
    clear hN1 hR1
    replace H := v_seeX hZ H 47 _ (lentX_see (List.mem_append_left _ (List.mem_append_right _ (List.mem_singleton.2 rfl))) hxl) rfl
    simp only [nilT, reduceIte, Nat.reduceEqDiff] at H
    refine v_callE cD hB (Nat.le_refl _) hZ H (by rintro Y bx' rw' res ⟨rfl, rfl, rfl, _⟩; exact ⟨by rfl, rfl⟩) ?_
    clear H
    rintro Y bx' rw' res a w4 ⟨rfl, rfl, rfl, hY⟩ H
    replace H := nfX H
    obtain ⟨N4, hB, hZ, H, hN1, hR1⟩ := H.open_
    have hN : N4.bx.length ≤ 2 := Nat.le_of_eq hN1
    have hR : N4.rw.length ≤ 0 := Nat.le_of_eq hR1
    clear hN1 hR1
    have hYv : (vas (Y.map XR.v)).length = (dcS b).v.length := by rw [vas_len, List.length_map]; exact hY.1
    have hseeY : ∀ {Z : List XR}, (∀ x ∈ Y, x ∈ Z) → SeeX Z (.st [.sl brT (brs (dcS b).p) none, .sl .sc (vas (Y.map XR.v)) none]) (.st [.sl brT (brs (dcS b).p) none, .sl .sc (bss (dcS b).v) none]) := fun {Z} hz => .st rfl fun i i1 i2 => by
      match i, i1 with
      | 0, _ => exact .refl _
      | 1, _ => exact hY.see hz
    generalize hLY : vas (Y.map XR.v) = LY at *
    clear hX; have hX := And.intro @hw1 (And.intro @hw2 (And.intro @hXv (And.intro @hYv (And.intro @hd1 (@hd2)))))
    refine mW ?_; clear H; intro a w H
    replace H := v_seeX hZ H 52 _ (lentX_see (List.mem_append_left _ (List.mem_append_left _ (List.mem_append_right _ (List.mem_singleton.2 rfl)))) hxl) rfl
    simp only [nilT, reduceIte, Nat.reduceEqDiff] at H
    refine v_callE cD hB (Nat.le_refl _) hZ H (by rintro Y bx' rw' res ⟨rfl, rfl, rfl, _⟩; exact ⟨by rfl, rfl⟩) ?_
    clear H
    rintro Q bx' rw' res a w5 ⟨rfl, rfl, rfl, hQ⟩ H
    replace H := nfX H
    obtain ⟨N5, hB, hZ, H, hN1, hR1⟩ := H.open_
    have hN : N5.bx.length ≤ 3 := Nat.le_of_eq hN1
    have hR : N5.rw.length ≤ 0 := Nat.le_of_eq hR1
    clear hN1 hR1
    have hQv : (vas (Q.map XR.v)).length = (dcS b).v.length := by rw [vas_len, List.length_map]; exact hQ.1
    have hseeQ : ∀ {Z : List XR}, (∀ x ∈ Q, x ∈ Z) → SeeX Z (.st [.sl brT (brs (dcS b).p) none, .sl .sc (vas (Q.map XR.v)) none]) (.st [.sl brT (brs (dcS b).p) none, .sl .sc (bss (dcS b).v) none]) := fun {Z} hz => .st rfl fun i i1 i2 => by
      match i, i1 with
      | 0, _ => exact .refl _
      | 1, _ => exact hQ.see hz
    generalize hLQ : vas (Q.map XR.v) = LQ at *
    clear hX; have hX := And.intro @hw1 (And.intro @hw2 (And.intro @hXv (And.intro @hYv (And.intro @hQv (And.intro @hd1 (@hd2))))))
    refine mW ?_; clear H; intro a w H
    refine mCall [] [] (cG) H ?_; clear H; intro a w H; try refine wpList_nil ?_
    refine mW ?_; clear H; intro a w H
    replace H := mK [1, 2, 4, 5, 6, 7, 8, 10, 11, 12, 13, 14, 15, 16, 61, 62] 5 0 hN hR H
    have mX2 : ∀ {z : XR}, z ∈ X → z ∈ X ++ [xl] ++ [xx] ++ Y ++ Q := fun h => by simp [h]
    have hseeC : SeeX (X ++ [xl] ++ [xx] ++ Y ++ Q) (.st [.sl brT (brs s.p) none, .sl .sc LV none]) (.st [.sl brT (brs s.p) none, .sl .sc (bcs s.v) none]) := .st rfl fun i i1 i2 => by
      match i, i1 with
      | 0, _ => exact .refl _
      | 1, _ =>
        rw [← hLV]
        refine .sl (by rw [vas_len, List.length_map, bcs_len]; exact hT.1) fun k k1 k2 => ?_
        rw [vas_len, List.length_map] at k1
        have k3 : k < s.v.length := by have := hT.1; omega
        have := lentX_seeC (X := X ++ [xl] ++ [xx] ++ Y ++ Q) (mX2 (List.getElem_mem k1)) (hT.2 k k1 k3)
        simpa [vas, bcs] using this
    have hsm := same_v (scV s) (scV s)
    rw [show (scV s == scV s) = true from beq_self_eq_true _] at hsm
    have de : decide (spCE s = spCE s) = true := decide_eq_true rfl
    have dd : decide (dcE b = dcE b) = true := decide_eq_true rfl
    generalize spCE s = e1 at *
    generalize dcE b = e2 at *
    replace H := v_seeX hZ H 61 _ (hxx.see (by simp)) rfl
    simp only [nilT, reduceIte, Nat.reduceEqDiff] at H
    clear hX; have hX := And.intro @hw1 (And.intro @hw2 (And.intro @hXv (And.intro @hYv (And.intro @hQv (And.intro @hd1 (And.intro @hd2 (And.intro @de (@dd))))))))
    refine mCall [] [] (hsm) H ?_; clear H; intro a w H; try refine wpList_nil ?_
    refine mW ?_; clear H; intro a w H
    replace H := v_known H 65 false rfl
    simp only [unG, gdEq, Nat.reduceBEq, cond_true, cond_false] at H
    refine mW ?_; clear H; intro a w H
    replace H := v_known H 70 false rfl
    simp only [unG, gdEq, Nat.reduceBEq, cond_true, cond_false] at H
    replace H := v_seeX hZ H 71 _ (hseeY (fun x hx => by simp [hx])) rfl
    simp only [nilT, reduceIte, Nat.reduceEqDiff] at H
    refine mG H ?_
    refine mCall [] [] (cS) H ?_; clear H; intro a w H; try refine wpList_nil ?_
    refine mW ?_; clear H; intro a w H
    replace H := v_known H 76 false rfl
    simp only [unG, gdEq, Nat.reduceBEq, cond_true, cond_false] at H
    replace H := v_seeX hZ H 77 _ (hseeQ (fun x hx => by simp [hx])) rfl
    simp only [nilT, reduceIte, Nat.reduceEqDiff] at H
    refine mG H ?_
    refine mCall [] [] (cS) H ?_; clear H; intro a w H; try refine wpList_nil ?_
    refine mW ?_; clear H; intro a w H
    replace H := v_known H 92 false rfl
    simp only [unG, gdEq, Nat.reduceBEq, cond_true, cond_false] at H
    replace H := v_seeX hZ H 93 _ (hseeC) rfl
    simp only [nilT, reduceIte, Nat.reduceEqDiff] at H
    refine mG H ?_
    refine mCall [] [] (cK) H ?_; clear H; intro a w H; try refine wpList_nil ?_
    refine mW ?_; clear H; intro a w H
    replace H := v_known H 98 false rfl
    simp only [unG, gdEq, Nat.reduceBEq, cond_true, cond_false] at H
    replace H := v_seeX hZ H 99 _ (lentX_seeC (by simp) hxl) rfl
    simp only [nilT, reduceIte, Nat.reduceEqDiff] at H
    refine mG H ?_
    refine mCall [] [] (cKb) H ?_; clear H; intro a w H; try refine wpList_nil ?_
    refine mW ?_; clear H; intro a w H
    refine mC H (fun hb => ?_) (fun hb => ?_)
    · exact absurd hb (by decide)
    · clear hb
      have hperm : (X ++ [xl] ++ [xx] ++ Y ++ Q).Perm ([xx, xl] ++ X ++ Y ++ Q) := by
        refine List.Perm.append_right Q (List.Perm.append_right Y ?_)
        rw [List.append_assoc]
        exact (List.perm_append_comm (l₁ := X) (l₂ := [xl] ++ [xx])).trans (List.Perm.append_right X (List.Perm.swap xx xl []))
      have hZ2 := hZ.perm hperm
      have hus : [AV.v xx.v, AV.v xl.v] ++ LV ++ LY ++ LQ = vas (([xx, xl] ++ X ++ Y ++ Q).map XR.v) := by
        rw [← hLV, ← hLY, ← hLQ]; simp [vas]
      have hwx : ∀ x ∈ [xx, xl] ++ X ++ Y ++ Q, XW x := fun x hx => by
        simp only [List.mem_append, List.mem_cons, List.not_mem_nil, or_false] at hx
        rcases hx with (((rfl | rfl) | hx) | hx) | hx
        · exact hxx.w
        · exact lentX_w hxl
        · obtain ⟨k, k1, rfl⟩ := List.getElem_of_mem hx
          exact lentX_w (hT.2 k k1 (by have := hT.1; omega))
        · obtain ⟨k, k1, rfl⟩ := List.getElem_of_mem hx
          exact (hY.2 k k1 (by have := hY.1; omega)).w
        · obtain ⟨k, k1, rfl⟩ := List.getElem_of_mem hx
          exact (hQ.2 k k1 (by have := hQ.1; omega)).w
      have hzl : ([xx, xl] ++ X ++ Y ++ Q).length = 2 + s.v.length + (dcS b).v.length + (dcS b).v.length := by
        have h1 := hT.1
        have h2 := hY.1
        have h3 := hQ.1
        simp only [List.length_append, List.length_cons, List.length_nil]; omega
      refine mS ?_
      clear hX; have hX := And.intro @hw1 (And.intro @hw2 (And.intro @hXv (And.intro @hYv (And.intro @hQv (And.intro @hd1 (@hd2))))))
      replace H := mK [1, 2, 4, 5, 6, 7, 11, 13, 15] 5 0 hN hR H
      refine mS ?_; refine mD 5 [2, 5, 8, 11, 12] [3, 4, 6, 7, 9, 10] H ?_; clear H; intro gS H
      refine mTN 3 hN H ?_; clear H; intro a w H; simp only [List.drop_succ_cons, List.drop_zero, List.drop_nil]
      refine mTN 2 hN H ?_; clear H; intro a w H; simp only [List.drop_succ_cons, List.drop_zero, List.drop_nil]
      refine mTN 1 hN H ?_; clear H; intro a w H; simp only [List.drop_succ_cons, List.drop_zero, List.drop_nil]
      refine mTN 2 hN H ?_; clear H; intro a w H; simp only [List.drop_succ_cons, List.drop_zero, List.drop_nil]
      refine mTN 1 hN H ?_; clear H; intro a w H; simp only [List.drop_succ_cons, List.drop_zero, List.drop_nil]
      refine mTN 2 hN H ?_; clear H; intro a w H; simp only [List.drop_succ_cons, List.drop_zero, List.drop_nil]
      refine mTN 1 hN H ?_; clear H; intro a w H; simp only [List.drop_succ_cons, List.drop_zero, List.drop_nil]
      have e9 : AV.v xx.v :: AV.v xl.v :: (LV ++ LY ++ LQ) = vas (([xx, xl] ++ X ++ Y ++ Q).map XR.v) := by rw [← hus]; simp
      rw [e9] at H
      clear hus e9 hperm
      generalize [xx, xl] ++ X ++ Y ++ Q = Z at *
      refine v_apartST hZ2 H (x := .tmp 115) (us := Z.map XR.v) (some 0) rfl ((List.range Z.length).map some) (by simp) ?_ ?_ (by rw [List.length_map]; omega) (by rw [List.length_map]; omega) ?_ (.inl rfl)
      · intro k k1 k2
        right
        have k3 : k < Z.length := by simpa using k2
        exact ⟨k, Z[k], by simp, List.getElem?_eq_getElem k3, by simp, hwx _ (List.getElem_mem k3)⟩
      · rw [List.pairwise_map]
        refine List.Pairwise.imp (fun {a b} hab => ?_) List.pairwise_lt_range
        right; intro e; injection e with e; omega
      clear H
      intro a w H
      replace H := ntf H
      refine mT ?_; clear H; intro a w H
      refine v_drawNil H ?_; clear H; intro H
      refine mW ?_; clear H; intro a w H
      have H := (RelX.close hB hZ H).rel
      have hN := hM.1
      have hR := hM.2
      refine wp_ret ?_; exact mEnd [] [] [.tmp 4] [_] hN hR H
end Go.Proofs.Ytigmpdhnhkdeiaa
/- Nodes among the arguments. -/
namespace Go.Proofs.Ytigmpdhnhkdeiaa
open Go Go.RowKit
end Go.Proofs.Ytigmpdhnhkdeiaa
/- Parts of sketches and spans among the arguments. -/
namespace Go.Proofs.Ytigmpdhnhkdeiaa
open Go Go.RowKit
theorem br_sh {M d : Nat} {a : AV} (h : Sh tab M (d + 2) 54 a) : ∃ b : Br, a = b.av ∧ b.wf := by
  obtain ⟨az, rfl, hs⟩ := h.rcd rfl rfl
  clear h; have h := hs; clear hs; dsimp only [List.map] at h
  obtain ⟨a0, r, rfl, h0, h⟩ := shl_cons h
  obtain ⟨a1, r, rfl, h1, h⟩ := shl_cons h
  obtain ⟨a2, r, rfl, h2, h⟩ := shl_cons h
  obtain ⟨a3, r, rfl, h3, h⟩ := shl_cons h
  obtain rfl := shl_nil h
  obtain ⟨n, rfl, hn⟩ := h0.int rfl rfl
  obtain ⟨u, hu⟩ := u8_of hn
  obtain ⟨k, rfl, hk⟩ := h1.arr rfl rfl
  obtain ⟨v, rfl, hv⟩ := h2.arr rfl rfl
  obtain ⟨g, rfl, hg⟩ := h3.arr rfl rfl
  exact ⟨⟨u, k, v, g⟩, by rw [hu]; rfl, ⟨hk, hv, hg⟩⟩
theorem brs_sh {M d : Nat} {a : AV} (h : Sh tab M (d + 3) 22 a) : ∃ l : List Br, a = .sl ti54.ty (l.map Br.av) none ∧ (∀ b ∈ l, b.wf) ∧ l.length ≤ M := by
  obtain ⟨es, rfl, hl, he⟩ := h.slc rfl rfl rfl
  obtain ⟨ys, rfl, hy⟩ := sh_list (q := Br.wf) (f := Br.av) (fun x hx => br_sh hx) he
  exact ⟨ys, rfl, hy, by simpa using hl⟩
theorem sp_sh {M d : Nat} {a : AV} (h : Sh tab M (d + 5) 25 a) : ∃ (p : List Br) (v : List (List UInt8)), a = .st [.sl ti54.ty (p.map Br.av) none, .sl .sc (bss v) none] ∧ (∀ b ∈ p, b.wf) ∧ p.length ≤ M ∧ v.length ≤ M ∧ ∀ x ∈ v, x.length ≤ M := by
  obtain ⟨az, rfl, hs⟩ := h.rcd rfl rfl
  clear h; have h := hs; clear hs; dsimp only [List.map] at h
  obtain ⟨a0, r, rfl, h0, h⟩ := shl_cons h
  obtain ⟨a1, r, rfl, h1, h⟩ := shl_cons h
  obtain rfl := shl_nil h
  obtain ⟨p, rfl, hp, hpl⟩ := brs_sh h0
  obtain ⟨es, rfl, hl, he⟩ := h1.slc rfl rfl rfl
  obtain ⟨ys, rfl, hy⟩ := sh_list (q := fun l : List UInt8 => l.length ≤ M) (f := fun l => AV.bs l none) (fun x hx => hx.bytes rfl rfl rfl) he
  exact ⟨p, ys, rfl, hp, hpl, by simpa using hl, hy⟩
end Go.Proofs.Ytigmpdhnhkdeiaa
/- SpanCodes, of all arguments of its types. -/
namespace Go.Proofs.Ytigmpdhnhkdeiaa
open Go Go.RowKit
theorem spanCodes_az (az : List AV) (h : ShL (Sh tab 1048576 6) [25, 26] az) : VC Try.prog 3 az [] (.v (.bool true)) := by
  obtain ⟨a0, r, rfl, h0, h⟩ := shl_cons h
  obtain ⟨a1, r, rfl, h1, h⟩ := shl_cons h
  obtain rfl := shl_nil h
  obtain ⟨p, v, rfl, hp, hpl, hvl, hv⟩ := sp_sh h0
  obtain ⟨b, rfl, hb⟩ := h1.bytes rfl rfl rfl
  exact spanCodes_v ⟨p, v⟩ hp (fun x hx => Nat.le_trans (hv x hx) (by decide)) hpl hvl b hb
end Go.Proofs.Ytigmpdhnhkdeiaa
