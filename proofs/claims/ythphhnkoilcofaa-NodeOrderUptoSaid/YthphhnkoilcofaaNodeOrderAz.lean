/- The statement NodeOrder, in values. -/
import Derived.Test.YthphhnkoilcofaaPick
import Derived.Test.YthphhnkoilcofaaBits
import Derived.Test.YthphhnkoilcofaaVer
set_option linter.unusedSimpArgs false
set_option linter.unusedVariables false
namespace Go.Proofs.Ythphhnkoilcofaa
open Go Go.RowKit
abbrev intA (n : Int) : AV := .v (.int .i64 n)
theorem oway_v (l : List Pr) (hk : K32 l) (hl : l.length ≤ 34359730000) (key : List UInt8) (hk32 : key.length = 32) (he : errP l = 0) :
    VC Try.prog 58 [.sl prT (l.map prA) none, .ba key] [] (.tup [(wayE l key).av, errv 0]) := by
  refine (nway_v l hk hl key hk32 he).lessT ⟨⟨⟨rfl, rfl⟩, sub_refl _ _, trivial⟩, rfl, trivial⟩ ?_
  rfl
theorem ints_get (ts : List Int) (k : Nat) (h : k < ts.length) : (ts.map intA).getD k .any = intA ts[k] := by simp [List.getD_eq_getElem?_getD, h]
set_option maxRecDepth 20000 in
set_option maxHeartbeats 8000000 in
theorem nodeOrder_v (l : List Pr) (hk : K32 l) (hl : l.length ≤ 1048576) (hlv : V0 l) (ts : List Int) (hts : ∀ x ∈ ts, -9223372036854775808 ≤ x ∧ x ≤ 9223372036854775807) (htl : ts.length ≤ 1048576) (key : List UInt8) (hk32 : key.length = 32) :
    VC Try.prog 9 [.sl prT (l.map prA) none, .sl .sc (ts.map intA) none, .ba key] [] (.v (.bool true)) := by
  have hml : (l.map prA).length = l.length := List.length_map ..
  have hk40 := hk.take 40
  have hlv40 := hlv.take 40
  have hl40 : (l.take 40).length ≤ 40 := by rw [List.length_take]; omega
  have ht40 : (l.map prA).take 40 = (l.take 40).map prA := by rw [List.map_take]
  have hsame : ¬ 40 < l.length → l.take 40 = l := fun h => List.take_of_length_le (by omega)
  generalize hm : l.take 40 = m at *
  clear hlv hk
  have htm : (ts.map intA).length = ts.length := List.length_map ..
  refine mE Try.func9 ?_; intro N w0 a w hN hR H
  have hX := @hml
  refine mW ?_; clear H; intro a w H
  clear hX
  revert a w
  apply cutH (R := fun a w => Rel Try.prog w0 N Try.f9.ntmps ⟨[(33, none, .sl prT (m.map prA) none), (5, none, .ptr 0 []), (6, none, .v (.bool false)), (0, none, .sl prT (m.map prA) none), (1, none, .sl .sc (ts.map intA) none)], [(.ba 32, .ba key)], [], []⟩ a w)
  · intro key1 a w H
    refine mC H (fun hb => ?_) (fun hb => ?_)
    · have hlt : (40 : Int) < (l.length : Int) := by rw [decide_eq_true_eq] at hb; exact hb
      have hX := And.intro @hml (@ht40)
      refine mW ?_; clear H; intro a w H
      exact key1 _ _ (H.to 1 0 ⟨Nat.le_trans hN (by decide), hR⟩ ⟨rfl, rfl, rfl, rfl, rfl, trivial⟩ rfl rfl rfl rfl rfl)
    · have h40 : ¬ 40 < l.length := by rw [decide_eq_false_iff_not] at hb; omega
      have hlm : l = m := (hsame h40).symm
      rw [hlm] at H
      have hX := And.intro @hml (@ht40)
      refine mW ?_; clear H; intro a w H
      exact key1 _ _ (H.to 1 0 ⟨Nat.le_trans hN (by decide), hR⟩ ⟨rfl, rfl, rfl, rfl, rfl, trivial⟩ rfl rfl rfl rfl rfl)
  intro a w H
  clear hm hsame ht40 hml hl
  clear l
  have c1 := nroot0_v m hk40 (by omega)
  have c2 := copyP_v m hk40 hlv40 (by omega)
  have h1l := rootE_len m 0
  have hmm : (m.map prA).length = m.length := List.length_map ..
  generalize hr1 : rootE m 0 = r1 at *
  obtain ⟨rr, re⟩ := r1
  dsimp only at c1 h1l
  have hX := @h1l
  refine mCall [] [] (c1) H ?_; clear H; intro a w H; try refine wpList_nil ?_
  refine mW ?_; clear H; intro a w H
  clear hX
  refine mCall [] [] (c2) H ?_; clear H; intro a w H; try refine wpList_nil ?_
  refine mW ?_; clear H; intro a w H
  refine v_loop (fun i : Nat × List Pr => ⟨[(10, none, .v (.int .i64 (i.1 : Int))), (9, none, .vw 2 m.length m.length), (8, none, .v (.int .i64 (re : Int))), (7, none, .ptr 1 []), (6, none, .v (.bool false)), (5, none, .ptr 0 []), (0, none, .sl prT (m.map prA) none), (1, none, .sl .sc (ts.map intA) none)], [(.ba 32, .ba key), (.ba 32, .ba rr), (.vc 62 prT, .vc m.length (i.2.map prA))], [], []⟩) (fun i => i.1 ≤ ts.length ∧ i.2.Perm m) (fun i => ts.length - i.1) (0, m) ⟨Nat.zero_le _, List.Perm.refl _⟩ (H.to 3 0 ⟨Nat.le_trans hN (by decide), hR⟩ ⟨rfl, rfl, rfl, rfl, rfl, rfl, rfl, rfl, trivial⟩ rfl rfl rfl rfl rfl) ?_
  clear H
  rintro ⟨k, o⟩ a w ⟨hk1, hperm⟩ H
  dsimp only at H hk1 hperm
  have hol : o.length = m.length := hperm.length_eq
  have hom : (o.map prA).length = m.length := by rw [List.length_map, hol]
  have hX := @htm
  refine mW ?_; clear H; intro a w H
  refine mC H (fun hb => ?_) (fun hb => ?_)
  · have hc : k < ts.length ∧ k < 100 ∧ 0 < m.length := by
      by_cases h1 : k < ts.length <;> by_cases h2 : k < 100 <;> by_cases h3 : 0 < m.length <;> simp [h1, h2, h3] at hb ⊢ <;> omega
    clear hb
    obtain ⟨hkt, _, hm0⟩ := hc
    obtain ⟨x, hx⟩ : ∃ x : Nat, (k : Int) % (m.length : Int) = (x : Int) ∧ x < m.length := ⟨k % m.length, by omega, Nat.mod_lt _ hm0⟩
    obtain ⟨y, hy⟩ : ∃ y : Nat, ts[k] % (m.length : Int) = (y : Int) ∧ y < m.length := by
      have q1 := Int.emod_nonneg ts[k] (show (m.length : Int) ≠ 0 by omega)
      have q2 := Int.emod_lt_of_pos ts[k] (show 0 < (m.length : Int) by omega)
      exact ⟨(ts[k] % (m.length : Int)).toNat, by omega, by omega⟩
    obtain ⟨hx1, hx2⟩ := hx
    obtain ⟨hy1, hy2⟩ := hy
    have hpk := pick_v ts[k] (m.length : Int) (hts _ (List.getElem_mem hkt)) (by omega) (by omega)
    rw [hy1] at hpk
    have gt := ints_get ts k hkt
    have hswap := swap_prA o x y (by omega) (by omega)
    have hsp := (swap_perm o x y (by omega) (by omega)).trans hperm
    have go1 := prA_get o x (by omega)
    have go2 := prA_get o y (by omega)
    have ko : K32 o := hk40.perm hperm
    have w1 := ko _ (List.getElem_mem (show x < o.length by omega))
    have w2 := ko _ (List.getElem_mem (show y < o.length by omega))
    generalize hoo : (o.set x (o[y]'(by omega))).set y (o[x]'(by omega)) = o2 at *
    generalize o[x]'(by omega) = p1 at *
    generalize o[y]'(by omega) = p2 at *
    obtain ⟨k1, v1⟩ := p1
    obtain ⟨k2, v2⟩ := p2
    simp only [prA] at hswap
    dsimp only at go1 go2 w1 w2
    generalize ts[k] = tk at *
    refine mS ?_
    clear hX; have hX := And.intro @htm (And.intro @gt (@hx1))
    refine mS ?_; refine mD 0 [10] [0, 1, 2, 3] H ?_; clear H; intro gS H
    refine mTN 4 hN H ?_; clear H; intro a w H; simp only [List.drop_succ_cons, List.drop_zero, List.drop_nil]
    refine mTN 3 hN H ?_; clear H; intro a w H; simp only [List.drop_succ_cons, List.drop_zero, List.drop_nil]
    refine mTN 3 hN H ?_; clear H; intro a w H; simp only [List.drop_succ_cons, List.drop_zero, List.drop_nil]
    refine mCallT [] [] (hpk) H ?_; clear H; intro a w H
    refine mT ?_; clear H; intro a w H
    refine v_drawNil H ?_; clear H; intro H
    clear hX; have hX := @htm
    refine mW ?_; clear H; intro a w H
    replace H := mK [0, 1, 5, 6, 7, 8, 9, 10, 11, 12] 3 0 hN hR H
    have hls : ∀ (es : List AV) (i : Nat) (a : AV), (es.set i a).length = es.length := fun es i a => List.length_set
    clear hX; have hX := And.intro @hom (And.intro @go1 (And.intro @go2 (And.intro @hls (@hol))))
    have hY := And.intro @w1 (@w2)
    refine mS ?_; refine mD 0 [13, 15] [2, 3] H ?_; clear H; intro gS H
    refine mTN 6 hN H ?_; clear H; intro a w H; simp only [List.drop_succ_cons, List.drop_zero, List.drop_nil]
    refine mTN 1 hN H ?_; clear H; intro a w H; simp only [List.drop_succ_cons, List.drop_zero, List.drop_nil]
    refine mTN 1 hN H ?_; clear H; intro a w H; simp only [List.drop_succ_cons, List.drop_zero, List.drop_nil]
    refine mTN 3 hN H ?_; clear H; intro a w H; simp only [List.drop_succ_cons, List.drop_zero, List.drop_nil]
    refine mTN 1 hN H ?_; clear H; intro a w H; simp only [List.drop_succ_cons, List.drop_zero, List.drop_nil]
    refine mTN 2 hN H ?_; clear H; intro a w H; simp only [List.drop_succ_cons, List.drop_zero, List.drop_nil]
    refine mTN 2 hN H ?_; clear H; intro a w H; simp only [List.drop_succ_cons, List.drop_zero, List.drop_nil]
    refine v_drawNil H ?_; clear H; intro H
    rw [hswap] at H
    clear hX; have hX := @htm
    clear hY
    refine mW ?_; clear H; intro a w H
    exact ⟨(k + 1, o2), ⟨hkt, hsp⟩, by dsimp only; omega, H.to 3 0 ⟨Nat.le_trans hN (by decide), hR⟩ ⟨rfl, rfl, rfl, rfl, rfl, rfl, rfl, rfl, trivial⟩ rfl rfl rfl rfl rfl⟩
  · have hc : ¬ (k < ts.length ∧ k < 100 ∧ 0 < m.length) := fun ⟨h1, h2, h3⟩ => by
      rw [decide_eq_true (show (k : Int) < (ts.length : Int) by omega), decide_eq_true (show (k : Int) < 100 by omega), decide_eq_true (show (0 : Int) < (m.length : Int) by omega)] at hb
      cases hb
    clear hb
    have ko : K32 o := hk40.perm hperm
    have c3 := nroot0_v o ko (by omega)
    replace H := v_frz H 9 2 (Nat.le_trans hN (by decide)) rfl (by omega) rfl
    have hft : (o.map prA).take m.length = o.map prA := List.take_of_length_le (by omega)
    rw [hft] at H
    simp only [nilT, reduceIte, Nat.reduceEqDiff] at H
    replace H := mK [0, 5, 6, 7, 8, 9] 2 0 hN hR H
    replace H := v_fz H
    simp only [List.filter_cons, List.filter_nil, List.length_cons, List.length_nil, Nat.reduceAdd, Nat.zero_add, Nat.lt_irrefl, decide_false, Bool.false_eq_true, reduceIte] at H
    have h2l := rootE_len o 0
    generalize hr2 : rootE o 0 = r2 at *
    obtain ⟨r2, re2⟩ := r2
    dsimp only at c3 h2l
    clear hX; have hX := @h2l
    refine mW ?_; clear H; intro a w H
    refine mCall [] [] (c3) H ?_; clear H; intro a w H; try refine wpList_nil ?_
    refine mW ?_; clear H; intro a w H
    by_cases he : errP m = 0
    · have hee : errP o = 0 := (errP_perm hperm).2 he
      rw [rootE_ok m hk40 he] at hr1
      rw [rootE_ok o ko hee, root_perm ko hperm hee] at hr2
      obtain ⟨rfl, rfl⟩ := Prod.mk.inj hr1
      obtain ⟨rfl, rfl⟩ := Prod.mk.inj hr2
      refine mC H (fun hb => ?_) (fun hb => ?_)
      · simp at hb
      · clear hb
        replace H := mK [0, 5, 6, 7, 8] 2 0 hN hR H
        refine mW ?_; clear H; intro a w H
        refine mC H (fun hb => ?_) (fun hb => ?_)
        · simp at hb
        · clear hb
          obtain ⟨hle, hdis, hvals⟩ := errP_ok he
          replace H := mK [0, 5, 6, 7] 2 0 hN hR H
          refine mW ?_; clear H; intro a w H
          replace H := v_nilX tab_ok H 2 0 62 (j := ti62) prT rfl (by decide) rfl rfl
          replace H := v_nilX tab_ok H 2 1 62 (j := ti62) prT rfl (by decide) rfl rfl
          simp only [List.set_cons_succ, List.set_cons_zero, List.length_cons, List.length_nil, Nat.reduceAdd, List.cons_append, List.nil_append, hz] at H
          refine v_loop (fun k : Nat => ⟨[(17, none, .v (.int .i64 (k : Int))), (16, none, .v (.bool (decide (key ∈ keysP (m.take k))))), (15, none, .ptr 2 []), (7, none, .ptr 1 []), (6, none, .v (.bool false)), (5, none, .ptr 0 []), (0, none, .sl prT (m.map prA) none)],
            [(.ba 32, .ba key), (.ba 32, .ba (rootA 256 0 (dgs m))), (.cn .sc (.cn .sc .nl), .st [.sl prT ((halfP false 0 (m.take k)).map prA) (some 0), .sl prT ((halfP true 0 (m.take k)).map prA) (some 1)])], [], [(62, (halfP false 0 (m.take k)).length), (62, (halfP true 0 (m.take k)).length)]⟩) (fun k => k ≤ m.length) (fun k => m.length - k) 0 (Nat.zero_le _) (H.to 3 2 ⟨Nat.le_trans hN (by decide), Nat.le_trans hR (by decide)⟩ ⟨rfl, rfl, rfl, rfl, rfl, rfl, rfl, trivial⟩ rfl rfl rfl rfl rfl) ?_
          clear H
          intro k a w hk2 H
          have hf1 : (halfP false 0 (m.take k)).length ≤ m.length := Nat.le_trans (halfP_le _ _ _) (List.length_take_le' _ _)
          have hf2 : (halfP true 0 (m.take k)).length ≤ m.length := Nat.le_trans (halfP_le _ _ _) (List.length_take_le' _ _)
          have hx1 : ((halfP false 0 (m.take k)).map prA).length = (halfP false 0 (m.take k)).length := List.length_map ..
          have hx2 : ((halfP true 0 (m.take k)).map prA).length = (halfP true 0 (m.take k)).length := List.length_map ..
          clear hX; have hX := @hmm
          refine mW ?_; clear H; intro a w H
          refine mC H (fun hb => ?_) (fun hb => ?_)
          · have hlt : k < m.length := by rw [decide_eq_true_eq] at hb; omega
            clear hb
            have g1 := prA_get m k hlt
            have w1 := hk40 _ (List.getElem_mem hlt)
            have hbit := bit_v m[k].1 w1 0
            have hpb : pbit m[k].1 0 = if bitN m[k].1 0 then 1 else 0 := by unfold pbit; rw [if_pos (by omega)]; rfl
            have htk : keysP (m.take (k + 1)) = keysP (m.take k) ++ [m[k].1] := by unfold keysP; rw [List.take_succ_eq_append_getElem hlt, List.map_append]; rfl
            have y0 := halfP_yes false 0 m k hlt
            have y1 := halfP_yes true 0 m k hlt
            have n0 := halfP_no false 0 m k hlt
            have n1 := halfP_no true 0 m k hlt
            have q0 := prs_app (halfP false 0 (m.take k)) m[k]
            have q1 := prs_app (halfP true 0 (m.take k)) m[k]
            generalize m[k] = q at *
            obtain ⟨kb, vb⟩ := q
            dsimp only at g1 w1 hbit hpb htk y0 y1 n0 n1 q0 q1
            have hth : (bif decide (key ∈ keysP (m.take k)) then true else decide (kb = key)) = decide (key ∈ keysP (m.take (k + 1))) := by
              rw [htk]; by_cases h1 : key ∈ keysP (m.take k) <;> by_cases h2 : kb = key <;> simp [h1, h2, eq_comm]
              exact fun e => h2 e.symm
            rw [hpb] at hbit
            clear hX
            revert a w
            apply cutH (R := fun a w => Rel Try.prog w0 N Try.f9.ntmps ⟨[(17, none, .v (.int .i64 (k : Int))), (16, none, .v (.bool (decide (key ∈ keysP (m.take k))))), (15, none, .ptr 2 []), (7, none, .ptr 1 []), (6, none, .v (.bool false)), (5, none, .ptr 0 []), (0, none, .sl prT (m.map prA) none)], [(.ba 32, .ba key), (.ba 32, .ba (rootA 256 0 (dgs m))), (.cn .sc (.cn .sc .nl), .st [.sl prT ((halfP false 0 (m.take (k + 1))).map prA) (some 0), .sl prT ((halfP true 0 (m.take (k + 1))).map prA) (some 1)])], [], [(62, (halfP false 0 (m.take (k + 1))).length), (62, (halfP true 0 (m.take (k + 1))).length)]⟩ a w)
            · intro key1 a w H
              cases hbb : bitN kb 0 with
              | true =>
                rw [hbb, if_pos rfl] at hbit
                have hbt : bits .and .i64 1 1 = 1 := by decide
                have e0 := n0 (by rw [hbb]; rfl)
                have e1 := y1 hbb
                refine mS ?_
                have hX := And.intro @hmm (And.intro @g1 (And.intro @hx1 (And.intro @hx2 (@hbt))))
                (try refine wp_region_lit ?_); refine mN 3 hN H ?_; clear H; intro a w H
                refine mW ?_; clear H; intro a w H
                refine mCall [] [] (hbit) H ?_; clear H; intro a w H; try refine wpList_nil ?_
                refine mW ?_; clear H; intro a w H
                replace H := mK [0, 5, 6, 7, 15, 16, 17, 18] 3 2 hN hR H
                have hY := @w1
                repeat (first | refine wp_seq ?_ | refine wp_block ?_)
                refine v_drawZ 0 [0, 1, 4, 5, 6, 7, 2, 3, 8, 9, 10, 11] [2, 3, 8, 9, 11] [0, 1, 4, 5, 6, 7] [(2, 8), (3, 8)] (by kernel_rfl) (by kernel_rfl) (by kernel_rfl) (by kernel_rfl) (by kernel_rfl) H (by rfl) ?_; clear H; intro gS H; try replace H := ntf H
                refine wpZ_run 2 (i := 0) (n' := 10) (pend' := [4, 5, 6, 7, 2, 3, 8, 9, 10, 11]) (by rfl) (by rfl) (by rfl) (by rfl) (by rfl) ?_
                repeat ((first | refine v_someT 3 tab_ok hN H (by rfl) ctX ?_ | refine v_someT 2 tab_ok hN H (by rfl) ctX ?_ | refine v_someT 1 tab_ok hN H (by rfl) ctX ?_); clear H; intro a w H; replace H := ntf H; simp only [List.drop_succ_cons, List.drop_zero, List.drop_nil])
                refine wpT_nil ?_
                try dsimp only
                refine wpZ_run 4 (i := 4) (n' := 6) (pend' := [2, 3, 8, 9, 10, 11]) (by rfl) (by rfl) (by rfl) (by rfl) (by rfl) ?_
                repeat ((first | refine v_someT 3 tab_ok hN H (by rfl) ctX ?_ | refine v_someT 2 tab_ok hN H (by rfl) ctX ?_ | refine v_someT 1 tab_ok hN H (by rfl) ctX ?_); clear H; intro a w H; replace H := ntf H; simp only [List.drop_succ_cons, List.drop_zero, List.drop_nil])
                refine wpT_nil ?_
                try dsimp only
                refine wpZ_two (cs := [8]) (by rfl) (by rfl) ?_
                refine all2 ?_
                refine ⟨?_, ?_⟩
                focus
                  refine wpZ_pick (pend' := [3, 8, 9, 10, 11]) (by rfl) (by rfl) ?_
                  repeat ((first | refine v_someT 3 tab_ok hN H (by rfl) ctX ?_ | refine v_someT 2 tab_ok hN H (by rfl) ctX ?_ | refine v_someT 1 tab_ok hN H (by rfl) ctX ?_); clear H; intro a w H; replace H := ntf H; simp only [List.drop_succ_cons, List.drop_zero, List.drop_nil])
                  refine wpT_nil ?_
                  try dsimp only
                  refine wpZ_two (cs := [8]) (by rfl) (by rfl) ?_
                  refine all2 ?_
                  refine ⟨?_, ?_⟩
                  focus
                    refine wpZ_pick (pend' := [8, 9, 10, 11]) (by rfl) (by rfl) ?_
                    repeat ((first | refine v_someT 3 tab_ok hN H (by rfl) ctX ?_ | refine v_someT 2 tab_ok hN H (by rfl) ctX ?_ | refine v_someT 1 tab_ok hN H (by rfl) ctX ?_); clear H; intro a w H; replace H := ntf H; simp only [List.drop_succ_cons, List.drop_zero, List.drop_nil])
                    refine wpT_nil ?_
                    try dsimp only
                    refine wpZ_two (cs := []) (by rfl) (by rfl) ?_
                    refine all1 ?_
                    refine wpZ_pick (pend' := [9, 10, 11]) (by rfl) (by rfl) ?_
                    repeat ((first | refine v_someT 3 tab_ok hN H (by rfl) ctX ?_ | refine v_someT 2 tab_ok hN H (by rfl) ctX ?_ | refine v_someT 1 tab_ok hN H (by rfl) ctX ?_); clear H; intro a w H; replace H := ntf H; simp only [List.drop_succ_cons, List.drop_zero, List.drop_nil])
                    refine wpT_nil ?_
                    try dsimp only
                    refine wpZ_two (cs := []) (by rfl) (by rfl) ?_
                    refine all1 ?_
                    refine wpZ_pick (pend' := [10, 11]) (by rfl) (by rfl) ?_
                    repeat ((first | refine v_someT 3 tab_ok hN H (by rfl) ctX ?_ | refine v_someT 2 tab_ok hN H (by rfl) ctX ?_ | refine v_someT 1 tab_ok hN H (by rfl) ctX ?_); clear H; intro a w H; replace H := ntf H; simp only [List.drop_succ_cons, List.drop_zero, List.drop_nil])
                    refine wpT_nil ?_
                    try dsimp only
                    refine wpZ_run 1 (i := 10) (n' := 1) (pend' := [11]) (by rfl) (by rfl) (by rfl) (by rfl) (by rfl) ?_
                    repeat ((first | refine v_someT 3 tab_ok hN H (by rfl) ctX ?_ | refine v_someT 2 tab_ok hN H (by rfl) ctX ?_ | refine v_someT 1 tab_ok hN H (by rfl) ctX ?_); clear H; intro a w H; replace H := ntf H; simp only [List.drop_succ_cons, List.drop_zero, List.drop_nil])
                    refine wpT_nil ?_
                    try dsimp only
                    refine wpZ_two (cs := []) (by rfl) (by rfl) ?_
                    refine all1 ?_
                    refine wpZ_pick (pend' := []) (by rfl) (by rfl) ?_
                    repeat ((first | refine v_someT 3 tab_ok hN H (by rfl) ctX ?_ | refine v_someT 2 tab_ok hN H (by rfl) ctX ?_ | refine v_someT 1 tab_ok hN H (by rfl) ctX ?_); clear H; intro a w H; replace H := ntf H; simp only [List.drop_succ_cons, List.drop_zero, List.drop_nil])
                    refine wpT_nil ?_
                    try dsimp only
                    refine wpZ_nil ?_
                    replace H := RelT.toRel H
                  rotate_left 1
                  focus
                    refine wpZ_pick (pend' := [3, 9, 10, 11]) (by rfl) (by rfl) ?_
                    repeat ((first | refine v_someT 3 tab_ok hN H (by rfl) ctX ?_ | refine v_someT 2 tab_ok hN H (by rfl) ctX ?_ | refine v_someT 1 tab_ok hN H (by rfl) ctX ?_); clear H; intro a w H; replace H := ntf H; simp only [List.drop_succ_cons, List.drop_zero, List.drop_nil])
                    refine wpT_nil ?_
                    try dsimp only
                    refine wpZ_two (cs := []) (by rfl) (by rfl) ?_
                    refine all1 ?_
                    refine wpZ_pick (pend' := [9, 10, 11]) (by rfl) (by rfl) ?_
                    repeat ((first | refine v_someT 3 tab_ok hN H (by rfl) ctX ?_ | refine v_someT 2 tab_ok hN H (by rfl) ctX ?_ | refine v_someT 1 tab_ok hN H (by rfl) ctX ?_); clear H; intro a w H; replace H := ntf H; simp only [List.drop_succ_cons, List.drop_zero, List.drop_nil])
                    refine wpT_nil ?_
                    try dsimp only
                    refine wpZ_two (cs := []) (by rfl) (by rfl) ?_
                    refine all1 ?_
                    refine wpZ_pick (pend' := [10, 11]) (by rfl) (by rfl) ?_
                    repeat ((first | refine v_someT 3 tab_ok hN H (by rfl) ctX ?_ | refine v_someT 2 tab_ok hN H (by rfl) ctX ?_ | refine v_someT 1 tab_ok hN H (by rfl) ctX ?_); clear H; intro a w H; replace H := ntf H; simp only [List.drop_succ_cons, List.drop_zero, List.drop_nil])
                    refine wpT_nil ?_
                    try dsimp only
                    refine wpZ_run 1 (i := 10) (n' := 1) (pend' := [11]) (by rfl) (by rfl) (by rfl) (by rfl) (by rfl) ?_
                    repeat ((first | refine v_someT 3 tab_ok hN H (by rfl) ctX ?_ | refine v_someT 2 tab_ok hN H (by rfl) ctX ?_ | refine v_someT 1 tab_ok hN H (by rfl) ctX ?_); clear H; intro a w H; replace H := ntf H; simp only [List.drop_succ_cons, List.drop_zero, List.drop_nil])
                    refine wpT_nil ?_
                    try dsimp only
                    refine wpZ_two (cs := []) (by rfl) (by rfl) ?_
                    refine all1 ?_
                    refine wpZ_pick (pend' := []) (by rfl) (by rfl) ?_
                    repeat ((first | refine v_someT 3 tab_ok hN H (by rfl) ctX ?_ | refine v_someT 2 tab_ok hN H (by rfl) ctX ?_ | refine v_someT 1 tab_ok hN H (by rfl) ctX ?_); clear H; intro a w H; replace H := ntf H; simp only [List.drop_succ_cons, List.drop_zero, List.drop_nil])
                    refine wpT_nil ?_
                    try dsimp only
                    refine wpZ_nil ?_
                    replace H := RelT.toRel H
                rotate_left 2
                focus
                  refine wpZ_pick (pend' := [2, 3, 9, 10, 11]) (by rfl) (by rfl) ?_
                  repeat ((first | refine v_someT 3 tab_ok hN H (by rfl) ctX ?_ | refine v_someT 2 tab_ok hN H (by rfl) ctX ?_ | refine v_someT 1 tab_ok hN H (by rfl) ctX ?_); clear H; intro a w H; replace H := ntf H; simp only [List.drop_succ_cons, List.drop_zero, List.drop_nil])
                  refine wpT_nil ?_
                  try dsimp only
                  refine wpZ_two (cs := []) (by rfl) (by rfl) ?_
                  refine all1 ?_
                  refine wpZ_pick (pend' := [3, 9, 10, 11]) (by rfl) (by rfl) ?_
                  repeat ((first | refine v_someT 3 tab_ok hN H (by rfl) ctX ?_ | refine v_someT 2 tab_ok hN H (by rfl) ctX ?_ | refine v_someT 1 tab_ok hN H (by rfl) ctX ?_); clear H; intro a w H; replace H := ntf H; simp only [List.drop_succ_cons, List.drop_zero, List.drop_nil])
                  refine wpT_nil ?_
                  try dsimp only
                  refine wpZ_two (cs := []) (by rfl) (by rfl) ?_
                  refine all1 ?_
                  refine wpZ_pick (pend' := [9, 10, 11]) (by rfl) (by rfl) ?_
                  repeat ((first | refine v_someT 3 tab_ok hN H (by rfl) ctX ?_ | refine v_someT 2 tab_ok hN H (by rfl) ctX ?_ | refine v_someT 1 tab_ok hN H (by rfl) ctX ?_); clear H; intro a w H; replace H := ntf H; simp only [List.drop_succ_cons, List.drop_zero, List.drop_nil])
                  refine wpT_nil ?_
                  try dsimp only
                  refine wpZ_two (cs := []) (by rfl) (by rfl) ?_
                  refine all1 ?_
                  refine wpZ_pick (pend' := [10, 11]) (by rfl) (by rfl) ?_
                  repeat ((first | refine v_someT 3 tab_ok hN H (by rfl) ctX ?_ | refine v_someT 2 tab_ok hN H (by rfl) ctX ?_ | refine v_someT 1 tab_ok hN H (by rfl) ctX ?_); clear H; intro a w H; replace H := ntf H; simp only [List.drop_succ_cons, List.drop_zero, List.drop_nil])
                  refine wpT_nil ?_
                  try dsimp only
                  refine wpZ_run 1 (i := 10) (n' := 1) (pend' := [11]) (by rfl) (by rfl) (by rfl) (by rfl) (by rfl) ?_
                  repeat ((first | refine v_someT 3 tab_ok hN H (by rfl) ctX ?_ | refine v_someT 2 tab_ok hN H (by rfl) ctX ?_ | refine v_someT 1 tab_ok hN H (by rfl) ctX ?_); clear H; intro a w H; replace H := ntf H; simp only [List.drop_succ_cons, List.drop_zero, List.drop_nil])
                  refine wpT_nil ?_
                  try dsimp only
                  refine wpZ_two (cs := []) (by rfl) (by rfl) ?_
                  refine all1 ?_
                  refine wpZ_pick (pend' := []) (by rfl) (by rfl) ?_
                  repeat ((first | refine v_someT 3 tab_ok hN H (by rfl) ctX ?_ | refine v_someT 2 tab_ok hN H (by rfl) ctX ?_ | refine v_someT 1 tab_ok hN H (by rfl) ctX ?_); clear H; intro a w H; replace H := ntf H; simp only [List.drop_succ_cons, List.drop_zero, List.drop_nil])
                  refine wpT_nil ?_
                  try dsimp only
                  refine wpZ_nil ?_
                  replace H := RelT.toRel H
                all_goals
                  refine mS ?_
                  exact key1 _ _ (H.to 3 2 ⟨Nat.le_trans hN (by decide), Nat.le_trans hR (by decide)⟩ ⟨rfl, rfl, rfl, rfl, rfl, rfl, rfl, trivial⟩ (by dsimp only; rw [e0, e1]; rw [q1]; rfl) (by rw [e0, e1]; rw [List.length_append]; rfl) rfl rfl rfl)
              | false =>
                rw [hbb, if_neg (by decide)] at hbit
                have hbt : bits .and .i64 0 1 = 0 := by decide
                have e0 := y0 hbb
                have e1 := n1 (by rw [hbb]; rfl)
                refine mS ?_
                have hX := And.intro @hmm (And.intro @g1 (And.intro @hx1 (And.intro @hx2 (@hbt))))
                have hY := @w1
                (try refine wp_region_lit ?_); refine mN 3 hN H ?_; clear H; intro a w H
                refine mW ?_; clear H; intro a w H
                refine mCall [] [] (hbit) H ?_; clear H; intro a w H; try refine wpList_nil ?_
                refine mW ?_; clear H; intro a w H
                replace H := mK [0, 5, 6, 7, 15, 16, 17, 18] 3 2 hN hR H
                repeat (first | refine wp_seq ?_ | refine wp_block ?_)
                refine v_drawZ 0 [0, 1, 4, 5, 6, 7, 2, 3, 8, 9, 10, 11] [2, 3, 8, 9, 11] [0, 1, 4, 5, 6, 7] [(2, 8), (3, 8)] (by kernel_rfl) (by kernel_rfl) (by kernel_rfl) (by kernel_rfl) (by kernel_rfl) H (by rfl) ?_; clear H; intro gS H; try replace H := ntf H
                refine wpZ_run 2 (i := 0) (n' := 10) (pend' := [4, 5, 6, 7, 2, 3, 8, 9, 10, 11]) (by rfl) (by rfl) (by rfl) (by rfl) (by rfl) ?_
                repeat ((first | refine v_someT 3 tab_ok hN H (by rfl) ctX ?_ | refine v_someT 2 tab_ok hN H (by rfl) ctX ?_ | refine v_someT 1 tab_ok hN H (by rfl) ctX ?_); clear H; intro a w H; replace H := ntf H; simp only [List.drop_succ_cons, List.drop_zero, List.drop_nil])
                refine wpT_nil ?_
                try dsimp only
                refine wpZ_run 4 (i := 4) (n' := 6) (pend' := [2, 3, 8, 9, 10, 11]) (by rfl) (by rfl) (by rfl) (by rfl) (by rfl) ?_
                repeat ((first | refine v_someT 3 tab_ok hN H (by rfl) ctX ?_ | refine v_someT 2 tab_ok hN H (by rfl) ctX ?_ | refine v_someT 1 tab_ok hN H (by rfl) ctX ?_); clear H; intro a w H; replace H := ntf H; simp only [List.drop_succ_cons, List.drop_zero, List.drop_nil])
                refine wpT_nil ?_
                try dsimp only
                refine wpZ_two (cs := [8]) (by rfl) (by rfl) ?_
                refine all2 ?_
                refine ⟨?_, ?_⟩
                focus
                  refine wpZ_pick (pend' := [3, 8, 9, 10, 11]) (by rfl) (by rfl) ?_
                  repeat ((first | refine v_someT 3 tab_ok hN H (by rfl) ctX ?_ | refine v_someT 2 tab_ok hN H (by rfl) ctX ?_ | refine v_someT 1 tab_ok hN H (by rfl) ctX ?_); clear H; intro a w H; replace H := ntf H; simp only [List.drop_succ_cons, List.drop_zero, List.drop_nil])
                  refine wpT_nil ?_
                  try dsimp only
                  refine wpZ_two (cs := [8]) (by rfl) (by rfl) ?_
                  refine all2 ?_
                  refine ⟨?_, ?_⟩
                  focus
                    refine wpZ_pick (pend' := [8, 9, 10, 11]) (by rfl) (by rfl) ?_
                    repeat ((first | refine v_someT 3 tab_ok hN H (by rfl) ctX ?_ | refine v_someT 2 tab_ok hN H (by rfl) ctX ?_ | refine v_someT 1 tab_ok hN H (by rfl) ctX ?_); clear H; intro a w H; replace H := ntf H; simp only [List.drop_succ_cons, List.drop_zero, List.drop_nil])
                    refine wpT_nil ?_
                    try dsimp only
                    refine wpZ_two (cs := []) (by rfl) (by rfl) ?_
                    refine all1 ?_
                    refine wpZ_pick (pend' := [9, 10, 11]) (by rfl) (by rfl) ?_
                    repeat ((first | refine v_someT 3 tab_ok hN H (by rfl) ctX ?_ | refine v_someT 2 tab_ok hN H (by rfl) ctX ?_ | refine v_someT 1 tab_ok hN H (by rfl) ctX ?_); clear H; intro a w H; replace H := ntf H; simp only [List.drop_succ_cons, List.drop_zero, List.drop_nil])
                    refine wpT_nil ?_
                    try dsimp only
                    refine wpZ_two (cs := []) (by rfl) (by rfl) ?_
                    refine all1 ?_
                    refine wpZ_pick (pend' := [10, 11]) (by rfl) (by rfl) ?_
                    repeat ((first | refine v_someT 3 tab_ok hN H (by rfl) ctX ?_ | refine v_someT 2 tab_ok hN H (by rfl) ctX ?_ | refine v_someT 1 tab_ok hN H (by rfl) ctX ?_); clear H; intro a w H; replace H := ntf H; simp only [List.drop_succ_cons, List.drop_zero, List.drop_nil])
                    refine wpT_nil ?_
                    try dsimp only
                    refine wpZ_run 1 (i := 10) (n' := 1) (pend' := [11]) (by rfl) (by rfl) (by rfl) (by rfl) (by rfl) ?_
                    repeat ((first | refine v_someT 3 tab_ok hN H (by rfl) ctX ?_ | refine v_someT 2 tab_ok hN H (by rfl) ctX ?_ | refine v_someT 1 tab_ok hN H (by rfl) ctX ?_); clear H; intro a w H; replace H := ntf H; simp only [List.drop_succ_cons, List.drop_zero, List.drop_nil])
                    refine wpT_nil ?_
                    try dsimp only
                    refine wpZ_two (cs := []) (by rfl) (by rfl) ?_
                    refine all1 ?_
                    refine wpZ_pick (pend' := []) (by rfl) (by rfl) ?_
                    repeat ((first | refine v_someT 3 tab_ok hN H (by rfl) ctX ?_ | refine v_someT 2 tab_ok hN H (by rfl) ctX ?_ | refine v_someT 1 tab_ok hN H (by rfl) ctX ?_); clear H; intro a w H; replace H := ntf H; simp only [List.drop_succ_cons, List.drop_zero, List.drop_nil])
                    refine wpT_nil ?_
                    try dsimp only
                    refine wpZ_nil ?_
                    replace H := RelT.toRel H
                  rotate_left 1
                  focus
                    refine wpZ_pick (pend' := [3, 9, 10, 11]) (by rfl) (by rfl) ?_
                    repeat ((first | refine v_someT 3 tab_ok hN H (by rfl) ctX ?_ | refine v_someT 2 tab_ok hN H (by rfl) ctX ?_ | refine v_someT 1 tab_ok hN H (by rfl) ctX ?_); clear H; intro a w H; replace H := ntf H; simp only [List.drop_succ_cons, List.drop_zero, List.drop_nil])
                    refine wpT_nil ?_
                    try dsimp only
                    refine wpZ_two (cs := []) (by rfl) (by rfl) ?_
                    refine all1 ?_
                    refine wpZ_pick (pend' := [9, 10, 11]) (by rfl) (by rfl) ?_
                    repeat ((first | refine v_someT 3 tab_ok hN H (by rfl) ctX ?_ | refine v_someT 2 tab_ok hN H (by rfl) ctX ?_ | refine v_someT 1 tab_ok hN H (by rfl) ctX ?_); clear H; intro a w H; replace H := ntf H; simp only [List.drop_succ_cons, List.drop_zero, List.drop_nil])
                    refine wpT_nil ?_
                    try dsimp only
                    refine wpZ_two (cs := []) (by rfl) (by rfl) ?_
                    refine all1 ?_
                    refine wpZ_pick (pend' := [10, 11]) (by rfl) (by rfl) ?_
                    repeat ((first | refine v_someT 3 tab_ok hN H (by rfl) ctX ?_ | refine v_someT 2 tab_ok hN H (by rfl) ctX ?_ | refine v_someT 1 tab_ok hN H (by rfl) ctX ?_); clear H; intro a w H; replace H := ntf H; simp only [List.drop_succ_cons, List.drop_zero, List.drop_nil])
                    refine wpT_nil ?_
                    try dsimp only
                    refine wpZ_run 1 (i := 10) (n' := 1) (pend' := [11]) (by rfl) (by rfl) (by rfl) (by rfl) (by rfl) ?_
                    repeat ((first | refine v_someT 3 tab_ok hN H (by rfl) ctX ?_ | refine v_someT 2 tab_ok hN H (by rfl) ctX ?_ | refine v_someT 1 tab_ok hN H (by rfl) ctX ?_); clear H; intro a w H; replace H := ntf H; simp only [List.drop_succ_cons, List.drop_zero, List.drop_nil])
                    refine wpT_nil ?_
                    try dsimp only
                    refine wpZ_two (cs := []) (by rfl) (by rfl) ?_
                    refine all1 ?_
                    refine wpZ_pick (pend' := []) (by rfl) (by rfl) ?_
                    repeat ((first | refine v_someT 3 tab_ok hN H (by rfl) ctX ?_ | refine v_someT 2 tab_ok hN H (by rfl) ctX ?_ | refine v_someT 1 tab_ok hN H (by rfl) ctX ?_); clear H; intro a w H; replace H := ntf H; simp only [List.drop_succ_cons, List.drop_zero, List.drop_nil])
                    refine wpT_nil ?_
                    try dsimp only
                    refine wpZ_nil ?_
                    replace H := RelT.toRel H
                rotate_left 2
                focus
                  refine wpZ_pick (pend' := [2, 3, 9, 10, 11]) (by rfl) (by rfl) ?_
                  repeat ((first | refine v_someT 3 tab_ok hN H (by rfl) ctX ?_ | refine v_someT 2 tab_ok hN H (by rfl) ctX ?_ | refine v_someT 1 tab_ok hN H (by rfl) ctX ?_); clear H; intro a w H; replace H := ntf H; simp only [List.drop_succ_cons, List.drop_zero, List.drop_nil])
                  refine wpT_nil ?_
                  try dsimp only
                  refine wpZ_two (cs := []) (by rfl) (by rfl) ?_
                  refine all1 ?_
                  refine wpZ_pick (pend' := [3, 9, 10, 11]) (by rfl) (by rfl) ?_
                  repeat ((first | refine v_someT 3 tab_ok hN H (by rfl) ctX ?_ | refine v_someT 2 tab_ok hN H (by rfl) ctX ?_ | refine v_someT 1 tab_ok hN H (by rfl) ctX ?_); clear H; intro a w H; replace H := ntf H; simp only [List.drop_succ_cons, List.drop_zero, List.drop_nil])
                  refine wpT_nil ?_
                  try dsimp only
                  refine wpZ_two (cs := []) (by rfl) (by rfl) ?_
                  refine all1 ?_
                  refine wpZ_pick (pend' := [9, 10, 11]) (by rfl) (by rfl) ?_
                  repeat ((first | refine v_someT 3 tab_ok hN H (by rfl) ctX ?_ | refine v_someT 2 tab_ok hN H (by rfl) ctX ?_ | refine v_someT 1 tab_ok hN H (by rfl) ctX ?_); clear H; intro a w H; replace H := ntf H; simp only [List.drop_succ_cons, List.drop_zero, List.drop_nil])
                  refine wpT_nil ?_
                  try dsimp only
                  refine wpZ_two (cs := []) (by rfl) (by rfl) ?_
                  refine all1 ?_
                  refine wpZ_pick (pend' := [10, 11]) (by rfl) (by rfl) ?_
                  repeat ((first | refine v_someT 3 tab_ok hN H (by rfl) ctX ?_ | refine v_someT 2 tab_ok hN H (by rfl) ctX ?_ | refine v_someT 1 tab_ok hN H (by rfl) ctX ?_); clear H; intro a w H; replace H := ntf H; simp only [List.drop_succ_cons, List.drop_zero, List.drop_nil])
                  refine wpT_nil ?_
                  try dsimp only
                  refine wpZ_run 1 (i := 10) (n' := 1) (pend' := [11]) (by rfl) (by rfl) (by rfl) (by rfl) (by rfl) ?_
                  repeat ((first | refine v_someT 3 tab_ok hN H (by rfl) ctX ?_ | refine v_someT 2 tab_ok hN H (by rfl) ctX ?_ | refine v_someT 1 tab_ok hN H (by rfl) ctX ?_); clear H; intro a w H; replace H := ntf H; simp only [List.drop_succ_cons, List.drop_zero, List.drop_nil])
                  refine wpT_nil ?_
                  try dsimp only
                  refine wpZ_two (cs := []) (by rfl) (by rfl) ?_
                  refine all1 ?_
                  refine wpZ_pick (pend' := []) (by rfl) (by rfl) ?_
                  repeat ((first | refine v_someT 3 tab_ok hN H (by rfl) ctX ?_ | refine v_someT 2 tab_ok hN H (by rfl) ctX ?_ | refine v_someT 1 tab_ok hN H (by rfl) ctX ?_); clear H; intro a w H; replace H := ntf H; simp only [List.drop_succ_cons, List.drop_zero, List.drop_nil])
                  refine wpT_nil ?_
                  try dsimp only
                  refine wpZ_nil ?_
                  replace H := RelT.toRel H
                all_goals
                  refine mS ?_
                  exact key1 _ _ (H.to 3 2 ⟨Nat.le_trans hN (by decide), Nat.le_trans hR (by decide)⟩ ⟨rfl, rfl, rfl, rfl, rfl, rfl, rfl, trivial⟩ (by dsimp only; rw [e0, e1]; rw [q0]; rfl) (by rw [e0, e1]; rw [List.length_append]; rfl) rfl rfl rfl)
            intro a w H
            have hX := And.intro @hmm (@g1)
            have hY := @w1
            refine mS ?_; refine mD 2 [] [] H ?_; clear H; intro gS H
            refine mTN 5 hN H ?_; clear H; intro a w H; simp only [List.drop_succ_cons, List.drop_zero, List.drop_nil]
            refine mTN 2 hN H ?_; clear H; intro a w H; simp only [List.drop_succ_cons, List.drop_zero, List.drop_nil]
            refine mTN 2 hN H ?_; clear H; intro a w H; simp only [List.drop_succ_cons, List.drop_zero, List.drop_nil]
            refine mT ?_; clear H; intro a w H
            refine v_drawNil H ?_; clear H; intro H
            rw [hth] at H
            clear hX; have hX := @hmm
            clear hY
            refine mW ?_; clear H; intro a w H
            exact ⟨k + 1, hlt, by omega, H.to 3 2 ⟨Nat.le_trans hN (by decide), Nat.le_trans hR (by decide)⟩ ⟨rfl, rfl, rfl, rfl, rfl, rfl, rfl, trivial⟩ rfl rfl rfl rfl rfl⟩
          · have hge : k = m.length := by rw [decide_eq_false_iff_not] at hb; omega
            subst hge
            rw [List.take_length] at H
            clear hf1 hf2 hx1 hx2
            have d1 := nrootAt_v (halfP false 0 m) (hk40.half _ _) (Nat.le_trans (halfP_le _ _ _) (by omega)) 1
            have d2 := nrootAt_v (halfP true 0 m) (hk40.half _ _) (Nat.le_trans (halfP_le _ _ _) (by omega)) 1
            rw [side_root m hk40 he] at d1 d2
            have s1 := rootA_len 255 1 (half false 0 (dgs m))
            have s2 := rootA_len 255 1 (half true 0 (dgs m))
            have hin := inner_v _ _ s1 s2
            have hsl := sum_length [0]
            have htwo := root_two m
            have htop := wayE_top m hk40 hdis key
            have e1 := oway_v m hk40 (by omega) key hk32 he
            obtain ⟨hpw, hpc⟩ := wayE_wf m hk40 hdis key
            have e2 := up_v key hk32 _ hpw hpc
            rw [htop] at e2
            have hth := there_iff m hk40 he key
            obtain ⟨g1, g2, g3, g4⟩ := id hpw.e
            have hpl := bas_len (wayE m key).s
            generalize wayE m key = p at *
            obtain ⟨ps, pn⟩ := p
            dsimp only at g1 g2 g3 g4 hth hpl
            simp only [Pf.av, Nd.av] at e1 e2
            generalize rootA 255 1 (half false 0 (dgs m)) = ra at *
            generalize rootA 255 1 (half true 0 (dgs m)) = rb at *
            dsimp only at d1 d2
            clear hX; have hX := And.intro @s1 (And.intro @s2 (@hmm))
            refine mW ?_; clear H; intro a w H
            refine mCall [] [] (d1) H ?_; clear H; intro a w H; try refine wpList_nil ?_
            refine mW ?_; clear H; intro a w H
            refine mCall [] [] (d2) H ?_; clear H; intro a w H; try refine wpList_nil ?_
            refine mW ?_; clear H; intro a w H
            replace H := mK [0, 5, 6, 7, 16, 19, 20, 21, 22] 5 2 hN hR H
            generalize hrr : rootA 256 0 (dgs m) = rr at *
            clear hX
            revert a w
            apply cutH (R := fun a w => Rel Try.prog w0 N Try.f9.ntmps ⟨[(172, none, .v (.bool false)), (16, none, .v (.bool (decide (key ∈ keysP m)))), (7, none, .ptr 1 []), (6, none, .v (.bool false)), (5, none, .ptr 0 []), (0, none, .sl prT (m.map prA) none)], [(.ba 32, .ba key), (.ba 32, .ba rr)], [], []⟩ a w)
            · intro key1 a w H
              by_cases h1 : 1 < m.length
              · have hd1 : decide ((1 : Int) < (m.length : Int)) = true := decide_eq_true (by omega)
                have hd0 : decide ((m.length : Int) = 0) = false := decide_eq_false (by omega)
                have hq : rr = innerH ra rb := htwo h1
                have hX := And.intro @s1 (And.intro @s2 (And.intro @hmm (And.intro @hd1 (@hd0))))
                refine mS ?_; refine mD 2 [14, 24] [11, 23] H ?_; clear H; intro gS H
                refine mTN 3 hN H ?_; clear H; intro a w H; simp only [List.drop_succ_cons, List.drop_zero, List.drop_nil]
                refine mTN 2 hN H ?_; clear H; intro a w H; simp only [List.drop_succ_cons, List.drop_zero, List.drop_nil]
                replace H := v_knownT H 147 false (by rfl)
                simp only [unG, gdEq, Nat.reduceBEq, cond_true, cond_false] at H
                replace H := ntf H
                refine mTN 2 hN H ?_; clear H; intro a w H; simp only [List.drop_succ_cons, List.drop_zero, List.drop_nil]
                refine mTN 4 hN H ?_; clear H; intro a w H; simp only [List.drop_succ_cons, List.drop_zero, List.drop_nil]
                replace H := v_knownT H 151 false (by rfl)
                simp only [unG, gdEq, Nat.reduceBEq, cond_true, cond_false] at H
                replace H := ntf H
                refine mTN 3 hN H ?_; clear H; intro a w H; simp only [List.drop_succ_cons, List.drop_zero, List.drop_nil]
                replace H := v_knownT H 155 true (by rfl)
                simp only [unG, gdEq, Nat.reduceBEq, cond_true, cond_false] at H
                replace H := ntf H
                refine v_guardT H (by rfl) (by rfl) (by rfl) ?_
                refine mCallT [] [] (hin) H ?_; clear H; intro a w H
                refine mTN 1 hN H ?_; clear H; intro a w H; simp only [List.drop_succ_cons, List.drop_zero, List.drop_nil]
                replace H := v_knownT H 155 true (by rfl)
                simp only [unG, gdEq, Nat.reduceBEq, cond_true, cond_false] at H
                replace H := ntf H
                rw [decide_eq_true hq] at H
                refine mTN 1 hN H ?_; clear H; intro a w H; simp only [List.drop_succ_cons, List.drop_zero, List.drop_nil]
                replace H := v_knownT H 151 false (by rfl)
                simp only [unG, gdEq, Nat.reduceBEq, cond_true, cond_false] at H
                replace H := ntf H
                refine mTN 2 hN H ?_; clear H; intro a w H; simp only [List.drop_succ_cons, List.drop_zero, List.drop_nil]
                refine mTN 4 hN H ?_; clear H; intro a w H; simp only [List.drop_succ_cons, List.drop_zero, List.drop_nil]
                replace H := v_knownT H 163 false (by rfl)
                simp only [unG, gdEq, Nat.reduceBEq, cond_true, cond_false] at H
                replace H := ntf H
                refine mSkT (.v (.bool false)) H ?_; clear H; intro a w H
                refine mSkT (.v (.bool false)) H ?_; clear H; intro a w H
                refine mSkT (.v (.bool false)) H ?_; clear H; intro a w H
                refine mTN 1 hN H ?_; clear H; intro a w H; simp only [List.drop_succ_cons, List.drop_zero, List.drop_nil]
                replace H := v_knownT H 163 false (by rfl)
                simp only [unG, gdEq, Nat.reduceBEq, cond_true, cond_false] at H
                replace H := ntf H
                refine mT ?_; clear H; intro a w H
                refine v_drawNil H ?_; clear H; intro H
                exact key1 _ _ (H.to 2 0 ⟨Nat.le_trans hN (by decide), hR⟩ ⟨rfl, rfl, rfl, rfl, rfl, rfl, trivial⟩ rfl rfl rfl rfl rfl)
              · have hd1 : decide ((1 : Int) < (m.length : Int)) = false := decide_eq_false (by omega)
                by_cases h0 : m.length = 0
                · have hd0 : decide ((m.length : Int) = 0) = true := decide_eq_true (by omega)
                  have hq : rr = sum [0] := by rw [← hrr, List.length_eq_zero_iff.1 h0]; exact root_none
                  have hX := And.intro @s1 (And.intro @s2 (And.intro @hmm (And.intro @hd1 (@hd0))))
                  refine mS ?_; refine mD 2 [14, 24] [11, 23] H ?_; clear H; intro gS H
                  refine mTN 3 hN H ?_; clear H; intro a w H; simp only [List.drop_succ_cons, List.drop_zero, List.drop_nil]
                  refine mTN 2 hN H ?_; clear H; intro a w H; simp only [List.drop_succ_cons, List.drop_zero, List.drop_nil]
                  replace H := v_knownT H 147 false (by rfl)
                  simp only [unG, gdEq, Nat.reduceBEq, cond_true, cond_false] at H
                  replace H := ntf H
                  refine mTN 2 hN H ?_; clear H; intro a w H; simp only [List.drop_succ_cons, List.drop_zero, List.drop_nil]
                  refine mTN 4 hN H ?_; clear H; intro a w H; simp only [List.drop_succ_cons, List.drop_zero, List.drop_nil]
                  replace H := v_knownT H 151 false (by rfl)
                  simp only [unG, gdEq, Nat.reduceBEq, cond_true, cond_false] at H
                  replace H := ntf H
                  refine mSkT (.v (.bool false)) H ?_; clear H; intro a w H
                  refine mSkT (.v (.bool false)) H ?_; clear H; intro a w H
                  refine mSkT (.v (.bool false)) H ?_; clear H; intro a w H
                  refine mSkT (.v (.bool false)) H ?_; clear H; intro a w H
                  refine mSkT (.v (.bool false)) H ?_; clear H; intro a w H
                  refine mTN 1 hN H ?_; clear H; intro a w H; simp only [List.drop_succ_cons, List.drop_zero, List.drop_nil]
                  replace H := v_knownT H 151 false (by rfl)
                  simp only [unG, gdEq, Nat.reduceBEq, cond_true, cond_false] at H
                  replace H := ntf H
                  refine mTN 2 hN H ?_; clear H; intro a w H; simp only [List.drop_succ_cons, List.drop_zero, List.drop_nil]
                  refine mTN 4 hN H ?_; clear H; intro a w H; simp only [List.drop_succ_cons, List.drop_zero, List.drop_nil]
                  replace H := v_knownT H 163 false (by rfl)
                  simp only [unG, gdEq, Nat.reduceBEq, cond_true, cond_false] at H
                  replace H := ntf H
                  refine mTN 1 hN H ?_; clear H; intro a w H; simp only [List.drop_succ_cons, List.drop_zero, List.drop_nil]
                  replace H := v_knownT H 167 true (by rfl)
                  simp only [unG, gdEq, Nat.reduceBEq, cond_true, cond_false] at H
                  replace H := ntf H
                  refine v_guardT H (by rfl) (by rfl) (by rfl) ?_
                  refine mCallT [] [] (empty_v) H ?_; clear H; intro a w H
                  refine mTN 1 hN H ?_; clear H; intro a w H; simp only [List.drop_succ_cons, List.drop_zero, List.drop_nil]
                  replace H := v_knownT H 167 true (by rfl)
                  simp only [unG, gdEq, Nat.reduceBEq, cond_true, cond_false] at H
                  replace H := ntf H
                  rw [decide_eq_true hq] at H
                  refine mTN 1 hN H ?_; clear H; intro a w H; simp only [List.drop_succ_cons, List.drop_zero, List.drop_nil]
                  replace H := v_knownT H 163 false (by rfl)
                  simp only [unG, gdEq, Nat.reduceBEq, cond_true, cond_false] at H
                  replace H := ntf H
                  refine mT ?_; clear H; intro a w H
                  refine v_drawNil H ?_; clear H; intro H
                  exact key1 _ _ (H.to 2 0 ⟨Nat.le_trans hN (by decide), hR⟩ ⟨rfl, rfl, rfl, rfl, rfl, rfl, trivial⟩ rfl rfl rfl rfl rfl)
                · have hd0 : decide ((m.length : Int) = 0) = false := decide_eq_false (by omega)
                  have hX := And.intro @s1 (And.intro @s2 (And.intro @hmm (And.intro @hd1 (@hd0))))
                  refine mS ?_; refine mD 2 [14, 24] [11, 23] H ?_; clear H; intro gS H
                  refine mTN 3 hN H ?_; clear H; intro a w H; simp only [List.drop_succ_cons, List.drop_zero, List.drop_nil]
                  refine mTN 2 hN H ?_; clear H; intro a w H; simp only [List.drop_succ_cons, List.drop_zero, List.drop_nil]
                  replace H := v_knownT H 147 false (by rfl)
                  simp only [unG, gdEq, Nat.reduceBEq, cond_true, cond_false] at H
                  replace H := ntf H
                  refine mTN 2 hN H ?_; clear H; intro a w H; simp only [List.drop_succ_cons, List.drop_zero, List.drop_nil]
                  refine mTN 4 hN H ?_; clear H; intro a w H; simp only [List.drop_succ_cons, List.drop_zero, List.drop_nil]
                  replace H := v_knownT H 151 false (by rfl)
                  simp only [unG, gdEq, Nat.reduceBEq, cond_true, cond_false] at H
                  replace H := ntf H
                  refine mSkT (.v (.bool false)) H ?_; clear H; intro a w H
                  refine mSkT (.v (.bool false)) H ?_; clear H; intro a w H
                  refine mSkT (.v (.bool false)) H ?_; clear H; intro a w H
                  refine mSkT (.v (.bool false)) H ?_; clear H; intro a w H
                  refine mSkT (.v (.bool false)) H ?_; clear H; intro a w H
                  refine mTN 1 hN H ?_; clear H; intro a w H; simp only [List.drop_succ_cons, List.drop_zero, List.drop_nil]
                  replace H := v_knownT H 151 false (by rfl)
                  simp only [unG, gdEq, Nat.reduceBEq, cond_true, cond_false] at H
                  replace H := ntf H
                  refine mTN 2 hN H ?_; clear H; intro a w H; simp only [List.drop_succ_cons, List.drop_zero, List.drop_nil]
                  refine mTN 4 hN H ?_; clear H; intro a w H; simp only [List.drop_succ_cons, List.drop_zero, List.drop_nil]
                  replace H := v_knownT H 163 false (by rfl)
                  simp only [unG, gdEq, Nat.reduceBEq, cond_true, cond_false] at H
                  replace H := ntf H
                  refine mSkT (.v (.bool false)) H ?_; clear H; intro a w H
                  refine mSkT (.v (.bool false)) H ?_; clear H; intro a w H
                  refine mSkT (.v (.bool false)) H ?_; clear H; intro a w H
                  refine mTN 1 hN H ?_; clear H; intro a w H; simp only [List.drop_succ_cons, List.drop_zero, List.drop_nil]
                  replace H := v_knownT H 163 false (by rfl)
                  simp only [unG, gdEq, Nat.reduceBEq, cond_true, cond_false] at H
                  replace H := ntf H
                  refine mT ?_; clear H; intro a w H
                  refine v_drawNil H ?_; clear H; intro H
                  exact key1 _ _ (H.to 2 0 ⟨Nat.le_trans hN (by decide), hR⟩ ⟨rfl, rfl, rfl, rfl, rfl, rfl, trivial⟩ rfl rfl rfl rfl rfl)
            intro a w H
            refine mC H (fun hb => ?_) (fun hb => ?_)
            · cases hb
            · clear hb
              have hX := @hpl
              refine mW ?_; clear H; intro a w H
              refine mCall [] [] (e1) H ?_; clear H; intro a w H; try refine wpList_nil ?_
              refine mW ?_; clear H; intro a w H
              refine mCall [] [] (e2) H ?_; clear H; intro a w H; try refine wpList_nil ?_
              refine mW ?_; clear H; intro a w H
              have hk1 := k1_iff pn.k
              have hfin : (decide (key ∈ keysP m) == bif decide ((pn.k.toNat : Int) = 1) then decide (pn.key = key) else false) = true := by
                rw [beq_iff_eq]
                by_cases q1 : key ∈ keysP m
                · obtain ⟨r1, r2⟩ := hth.1 q1
                  rw [decide_eq_true q1, decide_eq_true (hk1.2 r1), decide_eq_true r2]; rfl
                · rw [decide_eq_false q1]
                  by_cases r1 : pn.k = 1
                  · have r2 : pn.key ≠ key := fun r2 => q1 (hth.2 ⟨r1, r2⟩)
                    rw [decide_eq_true (hk1.2 r1), decide_eq_false r2]; rfl
                  · rw [decide_eq_false (fun h => r1 (hk1.1 h))]; rfl
              rw [hfin] at H
              refine wp_ret ?_; exact mEnd [] [] [.tmp 6] [_] hN hR H
    · have hee : errP o ≠ 0 := fun h => he ((errP_perm hperm).1 h)
      rw [rootE_bad m he] at hr1
      rw [rootE_bad o hee] at hr2
      obtain ⟨rfl, rfl⟩ := Prod.mk.inj hr1
      obtain ⟨rfl, rfl⟩ := Prod.mk.inj hr2
      have q1 : decide ((errP m : Int) = 0) = false := decide_eq_false (by omega)
      have q2 : decide ((errP o : Int) = 0) = false := decide_eq_false (by omega)
      refine mC H (fun hb => ?_) (fun hb => ?_)
      · rw [q1, q2] at hb; simp at hb
      · clear hb
        replace H := mK [0, 5, 6, 7, 8] 2 0 hN hR H
        refine mW ?_; clear H; intro a w H
        refine mC H (fun hb => ?_) (fun hb => ?_)
        · have hsl := sum_length [0]
          have hne : (!decide (sum [0] = List.replicate 32 0)) = true := by rw [decide_eq_false (show ¬ sum [0] = List.replicate 32 0 from e0_ne)]; rfl
          have hzl : (List.replicate 32 (0 : UInt8)).length = 32 := List.length_replicate
          clear hX
          refine mW ?_; clear H; intro a w H
          refine mCall [] [] (empty_v) H ?_; clear H; intro a w H; try refine wpList_nil ?_
          have hX := And.intro @hsl (@hzl)
          refine mW ?_; clear H; intro a w H
          rw [hne] at H
          refine wp_ret ?_; exact mEnd [] [] [.tmp 6] [_] hN hR H
        · rw [q1] at hb; simp at hb
end Go.Proofs.Ythphhnkoilcofaa
/- Nodes among the arguments. -/
namespace Go.Proofs.Ythphhnkoilcofaa
open Go Go.RowKit
end Go.Proofs.Ythphhnkoilcofaa
/- Entries among the arguments. -/
namespace Go.Proofs.Ythphhnkoilcofaa
open Go Go.RowKit
theorem pair_sh {M d : Nat} {a : AV} (h : Sh tab M (d + 2) 62 a) : ∃ p : Pr, a = prA p ∧ p.1.length = 32 ∧ p.2.length ≤ M := by
  obtain ⟨az, rfl, hs⟩ := h.rcd rfl rfl
  clear h; have h := hs; clear hs; dsimp only [List.map] at h
  obtain ⟨a0, r, rfl, h0, h⟩ := shl_cons h
  obtain ⟨a1, r, rfl, h1, h⟩ := shl_cons h
  obtain rfl := shl_nil h
  obtain ⟨k, rfl, hk⟩ := h0.arr rfl rfl
  obtain ⟨v, rfl, hv⟩ := h1.bytes rfl rfl rfl
  exact ⟨(k, v), rfl, hk, hv⟩
theorem pairs_sh {M d : Nat} {a : AV} (h : Sh tab M (d + 3) 57 a) : ∃ l : List Pr, a = .sl prT (l.map prA) none ∧ K32 l ∧ l.length ≤ M ∧ ∀ x ∈ l, x.2.length ≤ M := by
  obtain ⟨es, rfl, hl, he⟩ := h.slc rfl rfl rfl
  obtain ⟨ys, rfl, hy⟩ := sh_list (q := fun p : Pr => p.1.length = 32 ∧ p.2.length ≤ M) (f := prA) (fun x hx => pair_sh hx) he
  exact ⟨ys, rfl, fun x hx => (hy x hx).1, by simpa using hl, fun x hx => (hy x hx).2⟩
end Go.Proofs.Ythphhnkoilcofaa
/- NodeOrder, of all arguments of its types. -/
namespace Go.Proofs.Ythphhnkoilcofaa
open Go Go.RowKit
theorem nodeOrder_az (az : List AV) (h : ShL (Sh tab 1048576 6) [57, 116, 37] az) : VC Try.prog 9 az [] (.v (.bool true)) := by
  obtain ⟨a0, r, rfl, h0, h⟩ := shl_cons h
  obtain ⟨a1, r, rfl, h1, h⟩ := shl_cons h
  obtain ⟨a2, r, rfl, h2, h⟩ := shl_cons h
  obtain rfl := shl_nil h
  obtain ⟨l, rfl, hk, hl, hv⟩ := pairs_sh h0
  obtain ⟨es, rfl, htl, he⟩ := h1.slc rfl rfl rfl
  obtain ⟨ts, rfl, hts⟩ := sh_list (q := fun n : Int => -9223372036854775808 ≤ n ∧ n ≤ 9223372036854775807) (f := intA) (fun x hx => by
    obtain ⟨n, rfl, hn⟩ := hx.int rfl rfl
    exact ⟨n, rfl, hn⟩) he
  obtain ⟨key, rfl, hkey⟩ := h2.arr rfl rfl
  exact nodeOrder_v l hk hl (fun x hx => Nat.le_trans (hv x hx) (by decide)) ts hts (by simpa using htl) key hkey
end Go.Proofs.Ythphhnkoilcofaa
