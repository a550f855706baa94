/- The document's places of a span: ref24.Places, Read, Single. -/
import Derived.Test.YtigmpdhnhkdeiaaPlcR
import Derived.Test.YtigmpdhnhkdeiaaRise
import Derived.Test.YtigmpdhnhkdeiaaPack2
set_option linter.unusedSimpArgs false
set_option linter.unusedVariables false
namespace Go.Proofs.Ytigmpdhnhkdeiaa
open Go Go.RowKit
theorem within24_v (k fr to : List UInt8) (h1 : k.length = 32) (h2 : fr.length = 32) (h3 : to.length = 32) : VC Try.prog 116 [.ba k, .ba fr, .ba to] [] (.v (.bool (hasB fr to k))) := by
  have c1 := pcmpR_v fr k h2 h1
  have c2 := pcmpR_v k to h1 h3
  rw [← within_has]
  refine mE Try.func116 ?_; intro N w0 a w hN hR H
  refine mW ?_; clear H; intro a w H
  refine mCall [] [] (c1) H ?_; clear H; intro a w H; try refine wpList_nil ?_
  refine mW ?_; clear H; intro a w H
  refine mCallG [] [] (c2) H ?_; clear H; intro a w H; try refine wpList_nil ?_
  refine mW ?_; clear H; intro a w H
  refine wp_ret ?_; exact mEnd [] [] [.tmp 6] [_] hN hR H
theorem rd_plw {op : List UInt8 → Nat → Bool} : ∀ {f : Nat} {p : List UInt8} {d : Nat} {l : List Br} {t : Tr} {r : List Br}, (∀ b ∈ l, b.wf) → rdTr op f p d l = some (t, r) → ∀ (q : List UInt8) (e : Nat), ∀ x ∈ t.pl q e, x.b.wf
  | 0, p, d, l, t, r, _, h => by simp [rdTr] at h
  | f + 1, p, d, [], t, r, _, h => by simp [rdTr] at h
  | f + 1, p, d, b :: rest, t, r, hw, h => by
    have hw2 : ∀ b ∈ rest, b.wf := fun b hb => hw b (List.mem_cons_of_mem _ hb)
    have hb0 := hw b List.mem_cons_self
    intro q e x hx
    unfold rdTr at h
    split at h
    · cases h
    · split at h
      · simp only [Option.some.injEq, Prod.mk.injEq] at h; obtain ⟨rfl, rfl⟩ := h
        simp only [Tr.pl, List.mem_singleton] at hx; subst hx; exact ⟨z32_len, z32_len, z32_len⟩
      · split at h
        · split at h
          · cases h
          · simp only [Option.some.injEq, Prod.mk.injEq] at h; obtain ⟨rfl, rfl⟩ := h
            simp only [Tr.pl, List.mem_singleton] at hx; subst hx; exact ⟨z32_len, z32_len, hb0.g⟩
        · split at h
          · cases h
          · split at h
            · split at h
              · simp only [Option.some.injEq, Prod.mk.injEq] at h; obtain ⟨rfl, rfl⟩ := h
                simp only [Tr.pl, List.mem_singleton] at hx; subst hx; exact ⟨hb0.key, hb0.v, z32_len⟩
              · cases h
            · split at h
              · cases h
              · split at h
                · cases h
                · rename_i y r1 e1
                  split at h
                  · cases h
                  · rename_i z r2 e2
                    simp only [Option.some.injEq, Prod.mk.injEq] at h; obtain ⟨rfl, rfl⟩ := h
                    simp only [Tr.pl, List.mem_cons, List.mem_append] at hx
                    rcases hx with rfl | hx | hx
                    · exact ⟨z32_len, z32_len, z32_len⟩
                    · exact rd_plw hw2 e1 _ _ x hx
                    · exact rd_plw (rd_dgl hw2 e1).2 e2 _ _ x hx
attribute [local irreducible] wpT
set_option maxRecDepth 20000 in
set_option maxHeartbeats 8000000 in
theorem places24_v (fr to : List UInt8) (h1 : fr.length = 32) (h2 : to.length = 32) (s : Sp) (hs : s.wf) :
    VC Try.prog 35 [.ba fr, .ba to, s.av] [] (.tup [.sl plT (pls (spPl fr to s)) none, .sl (.ba 32) (bas (spKs fr to s)) none, .v (.int .i64 (spE fr to fr s))]) := by
  have hpl := brs_len s.p
  have hvl := bss_len s.v
  have hcm := pcmpR_v fr to h1 h2
  have hz2 : (List.replicate 32 (0 : UInt8)).length = 32 := List.length_replicate
  obtain ⟨p, v⟩ := s
  obtain ⟨w1, w2, w3, w4⟩ := id hs
  dsimp only at w1 w2 w3 w4 hpl hvl
  have hca := cmp_anti fr to
  unfold spPl spKs
  refine mE Try.func35 ?_; intro N w0 a w hN hR H
  simp only [Sp.av] at H
  have hX := And.intro @hpl (And.intro @hvl (And.intro @h1 (And.intro @h2 (@hz2))))
  refine mW ?_; clear H; intro a w H
  refine mC H (fun hb => ?_) (fun hb => ?_)
  · have e : 65536 < p.length ∨ 256 < v.length := by
      cases hd : decide ((65536 : Int) < (p.length : Int))
      · rw [hd] at hb
        have : decide ((256 : Int) < (v.length : Int)) = true := hb
        rw [decide_eq_true_eq] at this; omega
      · rw [decide_eq_true_eq] at hd; omega
    have e4 : spE fr to fr ⟨p, v⟩ = 4 := by unfold spE; rw [if_pos e]
    rw [e4, if_neg (by decide), if_neg (by decide)]
    simp only [pls, bas, List.map_nil]
    refine mW ?_; clear H; intro a w H
    refine wp_ret ?_; exact mEnd [] [] [.tmp 6, .tmp 7, .tmp 8] [_, _, _] hN hR H
  · have e : ¬ (65536 < p.length ∨ 256 < v.length) := by
      cases hd : decide ((65536 : Int) < (p.length : Int))
      · rw [hd] at hb
        have : decide ((256 : Int) < (v.length : Int)) = false := hb
        rw [decide_eq_false_iff_not] at this hd; omega
      · rw [hd] at hb; cases hb
    clear hb
    refine mS ?_
    replace H := mK [3, 4, 5, 6, 7, 8] 3 0 hN hR H
    refine mW ?_; clear H; intro a w H
    refine mCall [] [] (hcm) H ?_; clear H; intro a w H; try refine wpList_nil ?_
    refine mW ?_; clear H; intro a w H
    refine mC H (fun hb => ?_) (fun hb => ?_)
    · rw [decide_eq_true_eq] at hb
      have e4 : spE fr to fr ⟨p, v⟩ = 2 := by unfold spE; rw [if_neg e, if_pos (by omega)]
      rw [e4, if_neg (by decide), if_neg (by decide)]
      simp only [pls, bas, List.map_nil]
      refine mW ?_; clear H; intro a w H
      refine wp_ret ?_; exact mEnd [] [] [.tmp 6, .tmp 7, .tmp 8] [_, _, _] hN hR H
    · rw [decide_eq_false_iff_not] at hb
      have n2 : ¬ Lib.compareBytes to fr < 0 := by omega
      clear hb
      have hrd := read20_v [] true fr to (tchB fr to) (fun p d hp hd => openR_v fr to p h1 h2 hp d hd) h1 h2 257 (List.replicate 32 0) 0 p (by omega) (by omega) Low.zero w1 (by omega)
      unfold read20 at hrd
      simp only [askE, bas, List.map_nil] at hrd
      refine mS ?_
      replace H := mK [3, 4, 5, 6, 7, 8] 3 0 hN hR H
      cases ht : spT fr to ⟨p, v⟩ with
      | none =>
        have ht' : rdTr (tchB fr to) 257 (List.replicate 32 0) 0 p = none := ht
        have e2 := rdP_none (by omega) ht'
        have e4 : spE fr to fr ⟨p, v⟩ = 11 := by
          unfold spE; rw [if_neg e, if_neg n2, if_neg (fun h => by rw [spRS_none fr ht] at h; exact absurd h.1 (by decide))]
        rw [e4, if_neg (by decide), if_neg (by decide)]
        rw [e2] at hrd
        generalize (rdP (tchB fr to) 257 p (List.replicate 32 0) 0).1 = L at *
        refine mW ?_; clear H; intro a w H
        refine mCall [] [] (hrd) H ?_; clear H; intro a w H; try refine wpList_nil ?_
        refine mS ?_
        refine mW ?_; clear H; intro a w H
        refine mS ?_; refine mD 4 [] [] H ?_; clear H; intro gS H
        refine mTN 4 hN H ?_; clear H; intro a w H; simp only [List.drop_succ_cons, List.drop_zero, List.drop_nil]
        refine mSkT (.v (.int .i64 0)) H ?_; clear H; intro a w H
        refine mSkT (.v (.int .i64 0)) H ?_; clear H; intro a w H
        refine mSkT (.v (.int .i64 0)) H ?_; clear H; intro a w H
        refine mT ?_; clear H; intro a w H
        refine v_drawNil H ?_; clear H; intro H
        refine mC H (fun hb => ?_) (fun hb => ?_)
        · simp only [pls, bas, List.map_nil]
          refine mW ?_; clear H; intro a w H
          refine wp_ret ?_; exact mEnd [] [] [.tmp 6, .tmp 7, .tmp 8] [_, _, _] hN hR H
        · exact absurd hb (by decide)
      | some Q =>
        obtain ⟨t, r⟩ := Q
        have ht' : rdTr (tchB fr to) 257 (List.replicate 32 0) 0 p = some (t, r) := ht
        obtain ⟨a1, a2, a3⟩ := rdP_some (by omega) ht'
        have hrr := rd_rest (by omega) ht'
        obtain ⟨t1, t2, t3⟩ := t.pl_top (List.replicate 32 0) 0
        have hLl := t.pl_len (List.replicate 32 0) 0
        have hPl := pls_len (t.pl (List.replicate 32 0) 0)
        have hLf := plK_tree fr to t (List.replicate 32 0) 0
        have hnp := t.num_pos
        have hLw := rd_plw w1 ht' (List.replicate 32 0) 0
        rw [hLl] at hPl
        simp only [Pl.av] at t3
        rw [a1] at hrd
        dsimp only at hrd ⊢
        obtain ⟨_, p2, p3, p4, _, _⟩ := rd_parts ht' w1
        have hsp : spE fr to fr ⟨p, v⟩ = if r = [] ∧ spV ⟨p, v⟩ (spX fr to fr t r) = true then 0 else 11 := by
          unfold spE; rw [if_neg e, if_neg n2, spRS_some fr ht]
          by_cases h : r = [] ∧ spV ⟨p, v⟩ (spX fr to fr t r) = true
          · rw [if_pos h, if_pos ⟨rfl, h⟩]
          · rw [if_neg h, if_neg (fun q => h q.2)]
        have hks : (spRS fr to fr ⟨p, v⟩).1.ks = (plK fr to (t.pl (List.replicate 32 0) 0)).map (·.1) := by rw [spRS_some fr ht, hLf]; rfl
        have hvq := spV_q ⟨p, v⟩ (spX fr to fr t r) (plK fr to (t.pl (List.replicate 32 0) 0)) (by rw [hLf]; rfl) (by rw [hLf]; rfl)
        rw [hks, hsp]
        generalize spV ⟨p, v⟩ (spX fr to fr t r) = V at *
        clear hLf hks hsp ht
        generalize t.pl (List.replicate 32 0) 0 = L at *
        refine mW ?_; clear H; intro a w H
        refine mCall [] [] (hrd) H ?_; clear H; intro a w H; try refine wpList_nil ?_
        clear hX; have hX := And.intro @hpl (And.intro @hvl (And.intro @h1 (And.intro @h2 (And.intro @hz2 (And.intro @hPl (@t3))))))
        refine mW ?_; clear H; intro a w H
        refine mS ?_
        replace H := mK [3, 4, 5, 6, 7, 8, 10, 11] 3 0 hN hR H
        refine mS ?_; refine mD 3 [] [] H ?_; clear H; intro gS H
        refine mTN 5 hN H ?_; clear H; intro a w H; simp only [List.drop_succ_cons, List.drop_zero, List.drop_nil]
        refine mTN 2 hN H ?_; clear H; intro a w H; simp only [List.drop_succ_cons, List.drop_zero, List.drop_nil]
        refine mT ?_; clear H; intro a w H
        refine v_drawNil H ?_; clear H; intro H
        refine mC H (fun hb => ?_) (fun hb => ?_)
        · have hr : ¬ (r = [] ∧ V = true) := by
            rintro ⟨hr, _⟩
            rw [hrr.1 hr] at hb
            simp at hb
          rw [if_neg hr, if_neg (by decide), if_neg (by decide)]
          simp only [pls, bas, List.map_nil]
          refine mW ?_; clear H; intro a w H
          refine wp_ret ?_; exact mEnd [] [] [.tmp 6, .tmp 7, .tmp 8] [_, _, _] hN hR H
        · have hr : r = [] := by
            refine hrr.2 ?_
            have : (!decide ((t.num : Int) = (p.length : Int))) = false := hb
            rw [Bool.not_eq_false', decide_eq_true_eq] at this; omega
          subst hr
          clear hb hrr
          simp only [true_and]
          refine mW ?_; clear H; intro a w H
          replace H := v_nilE tab_ok H 12 52 (.ba 32) (j := ti52) rfl (by decide) rfl
          simp only [nilT, reduceIte, Nat.reduceEqDiff, List.length_nil, List.nil_append] at H
          refine v_loop (fun i : Nat => ⟨[(13, none, .v (.int .i64 (i : Int))), (12, none, .sl (.ba 32) (bas ((plK fr to (L.take i)).map (·.1))) (some 0)), (10, none, .sl plT (pls L) none), (8, none, .v (.int .i64 0)), (7, none, .v (.slice none 0 0)), (6, none, .v (.slice none 0 0)), (5, none, .ptr 2 []), (4, none, .ptr 1 []), (3, none, .ptr 0 [])],
            [(.ba 32, .ba fr), (.ba 32, .ba to), (ti25.ty, .st [.sl brT (brs p) none, .sl .sc (bss v) none])], [], [(52, (plK fr to (L.take i)).length)]⟩)
            (fun i => i ≤ L.length ∧ fitQ v (plK fr to (L.take i))) (fun i => L.length - i) 0 ⟨Nat.zero_le _, by rw [List.take_zero]; exact fitQ_nil v⟩
            (H.to 3 1 ⟨Nat.le_trans hN (Nat.zero_le _), Nat.le_trans hR (Nat.zero_le _)⟩ ⟨rfl, rfl, rfl, rfl, rfl, rfl, rfl, rfl, rfl, trivial⟩ rfl rfl rfl rfl rfl) ?_
          clear H
          rintro i a w ⟨hi, hfit⟩ H
          have hKl : (bas ((plK fr to (L.take i)).map (·.1))).length = (plK fr to (L.take i)).length := by rw [bas_len, List.length_map]
          have hfl := hfit.1
          clear hX; have hX := And.intro @hpl (And.intro @hvl (And.intro @h1 (And.intro @h2 (And.intro @hz2 (And.intro @hPl (@hKl))))))
          refine mW ?_; clear H; intro a w H
          refine mC H (fun hb => ?_) (fun hb => ?_)
          · have hlt : i < L.length := by rw [decide_eq_true_eq] at hb; omega
            clear hb
            have hg : (pls L).getD i .any = (L[i]).av := pls_get (List.getElem?_eq_getElem hlt)
            obtain ⟨b1, b2, b3⟩ := hLw _ (List.getElem_mem hlt)
            have htk := plK_take fr to L i hlt
            have hsp2 := plK_split fr to L i hlt
            generalize L[i] = x at *
            obtain ⟨⟨bk, bkey, bv, bg⟩, xg, xd, xp, xn⟩ := x
            simp only [Pl.av, Br.av] at hg
            dsimp only at b1 b2 b3 htk hsp2
            have hwi := within24_v bkey fr to b1 h1 h2
            have k1 : decide ((bk.toNat : Int) = 1) = decide (bk = 1) := kz bk 1 (by decide)
            refine mS ?_
            clear hX; have hX := And.intro @hpl (And.intro @hvl (And.intro @h1 (And.intro @h2 (And.intro @hz2 (And.intro @hPl (And.intro @hKl (And.intro @hg (And.intro @b1 (And.intro @b2 (@b3))))))))))
            (try refine wp_region_lit ?_); refine mN 3 hN H ?_; clear H; intro a w H
            refine mW ?_; clear H; intro a w H
            refine mCallG [] [] (hwi) H ?_; clear H; intro a w H; try refine wpList_nil ?_
            simp only [k1] at H
            refine mW ?_; clear H; intro a w H
            refine mC H (fun hb => ?_) (fun hb => ?_)
            · have hno : ¬ (bk = 1 ∧ hasB fr to bkey = true) := by
                rintro ⟨q1, q2⟩
                rw [q1, q2] at hb; exact absurd hb (by decide)
              rw [if_neg hno, List.append_nil] at htk
              clear hb
              refine mW ?_; clear H; intro a w H
              rw [show (i : Int) + 1 = ((i + 1 : Nat) : Int) by omega, ← htk] at H
              exact ⟨i + 1, ⟨hlt, by rw [htk]; exact hfit⟩, by omega, H.to 3 1 ⟨Nat.le_trans hN (Nat.zero_le _), Nat.le_trans hR (Nat.zero_le _)⟩ ⟨rfl, rfl, rfl, rfl, rfl, rfl, rfl, rfl, rfl, trivial⟩ rfl rfl rfl rfl rfl⟩
            · have hyes : bk = 1 ∧ hasB fr to bkey = true := by
                cases q1 : decide (bk = 1)
                · rw [q1] at hb; cases hb
                · rw [q1] at hb
                  exact ⟨of_decide_eq_true q1, by simpa using hb⟩
              rw [if_pos hyes] at htk hsp2
              clear hb
              have hVq : ∀ {R : Prop}, (V = true → plK fr to L = plK fr to (L.take i) ++ ([(bkey, bv)] ++ plK fr to (L.drop (i + 1))) → (plK fr to (L.take i)).length < v.length ∧ (v.getD (plK fr to (L.take i)).length []).length ≤ 1024 ∧ valH (v.getD (plK fr to (L.take i)).length []) = bv → R) → V = true → R := fun k hV => by
                have hq := (hvq.1 hV).2
                rw [hsp2] at hq
                exact k hV hsp2 (fitQ_not hq)
              have hbK : bas ((plK fr to (L.take (i + 1))).map (·.1)) = bas ((plK fr to (L.take i)).map (·.1)) ++ [.ba bkey] := by rw [htk]; simp [bas]
              have hbn : (plK fr to (L.take (i + 1))).length = (plK fr to (L.take i)).length + 1 := by rw [htk, List.length_append]; rfl
              have hfs := fun a b c => fitQ_snoc (v := v) (q := plK fr to (L.take i)) (k := bkey) (g := bv) hfit a b c
              rw [← htk] at hfs
              generalize plK fr to (L.take i) = q at *
              generalize hq2 : plK fr to (L.take (i + 1)) = q2 at *
              refine mS ?_
              replace H := mK [3, 4, 5, 6, 7, 8, 10, 12, 13, 14] 4 1 hN hR H
              refine mW ?_; clear H; intro a w H
              by_cases hn : v.length ≤ q.length
              · have en : decide ((v.length : Int) ≤ (q.length : Int)) = true := decide_eq_true (by omega)
                have hVf : ¬ V = true := hVq fun _ _ h => by omega
                refine mS ?_; refine mD 4 [20] [21, 22] H ?_; clear H; intro gS H
                refine mTN 5 hN H ?_; clear H; intro a w H; simp only [List.drop_succ_cons, List.drop_zero, List.drop_nil]
                simp only [en] at H
                refine mTN 1 hN H ?_; clear H; intro a w H; simp only [List.drop_succ_cons, List.drop_zero, List.drop_nil]
                refine mSkT (.v (.int .i64 0)) H ?_; clear H; intro a w H
                refine mSkT (.v (.int .i64 0)) H ?_; clear H; intro a w H
                refine mSkT (.v (.int .i64 0)) H ?_; clear H; intro a w H
                refine mSkT (.v (.int .i64 0)) H ?_; clear H; intro a w H
                refine mSkT (.v (.int .i64 0)) H ?_; clear H; intro a w H
                refine mSkT (.v (.int .i64 0)) H ?_; clear H; intro a w H
                refine mSkT (.v (.bool false)) H ?_; clear H; intro a w H
                refine mTN 2 hN H ?_; clear H; intro a w H; simp only [List.drop_succ_cons, List.drop_zero, List.drop_nil]
                refine mSkT (.v (.int .i64 0)) H ?_; clear H; intro a w H
                refine mSkT (.v (.int .i64 0)) H ?_; clear H; intro a w H
                refine mSkT (.v (.int .i64 0)) H ?_; clear H; intro a w H
                refine mSkT (.v (.int .i64 0)) H ?_; clear H; intro a w H
                refine mSkT (.v (.int .i64 0)) H ?_; clear H; intro a w H
                refine mSkT (.v (.int .i64 0)) H ?_; clear H; intro a w H
                refine mSkT (.v (.int .i64 0)) H ?_; clear H; intro a w H
                refine mSkT (.v (.int .i64 0)) H ?_; clear H; intro a w H
                refine mSkT (.v (.bool false)) H ?_; clear H; intro a w H
                refine mT ?_; clear H; intro a w H
                refine v_drawNil H ?_; clear H; intro H
                refine mC H (fun hb => ?_) (fun hb => ?_)
                · rw [if_neg hVf, if_neg (by decide)]
                  simp only [pls, bas, List.map_nil]
                  refine mW ?_; clear H; intro a w H
                  refine wp_ret ?_; exact mEnd [] [] [.tmp 6, .tmp 7, .tmp 8] [_, _, _] hN hR H
                · exact absurd hb (by decide)
              · have en : decide ((v.length : Int) ≤ (q.length : Int)) = false := decide_eq_false (by omega)
                have hql : q.length < v.length := by omega
                have hgv := bss_get v q.length hql
                have hvi : (v.getD q.length []) = v[q.length] := by rw [List.getD_eq_getElem?_getD, List.getElem?_eq_getElem hql]; rfl
                have hvw := w4 _ (List.getElem_mem hql)
                rw [hvi] at hfs hVq
                generalize v[q.length] = u at *
                by_cases hu : 1024 < u.length
                · have eu : decide ((1024 : Int) < (u.length : Int)) = true := decide_eq_true (by omega)
                  have hVf : ¬ V = true := hVq fun _ _ h => by omega
                  clear hX; have hX := And.intro @hpl (And.intro @hvl (And.intro @h1 (And.intro @h2 (And.intro @hz2 (And.intro @hPl (And.intro @hKl (And.intro @hgv (And.intro @b1 (And.intro @b2 (@b3))))))))))
                  refine mS ?_; refine mD 4 [20] [21, 22] H ?_; clear H; intro gS H
                  refine mTN 5 hN H ?_; clear H; intro a w H; simp only [List.drop_succ_cons, List.drop_zero, List.drop_nil]
                  simp only [en] at H
                  refine mTN 5 hN H ?_; clear H; intro a w H; simp only [List.drop_succ_cons, List.drop_zero, List.drop_nil]
                  refine mTN 3 hN H ?_; clear H; intro a w H; simp only [List.drop_succ_cons, List.drop_zero, List.drop_nil]
                  simp only [eu] at H
                  refine mTN 2 hN H ?_; clear H; intro a w H; simp only [List.drop_succ_cons, List.drop_zero, List.drop_nil]
                  refine mSkT (.v (.int .i64 0)) H ?_; clear H; intro a w H
                  refine mSkT (.v (.int .i64 0)) H ?_; clear H; intro a w H
                  refine mSkT (.v (.int .i64 0)) H ?_; clear H; intro a w H
                  refine mSkT (.v (.int .i64 0)) H ?_; clear H; intro a w H
                  refine mSkT (.v (.int .i64 0)) H ?_; clear H; intro a w H
                  refine mSkT (.v (.int .i64 0)) H ?_; clear H; intro a w H
                  refine mSkT (.v (.int .i64 0)) H ?_; clear H; intro a w H
                  refine mSkT (.v (.int .i64 0)) H ?_; clear H; intro a w H
                  refine mSkT (.v (.bool false)) H ?_; clear H; intro a w H
                  refine mT ?_; clear H; intro a w H
                  refine v_drawNil H ?_; clear H; intro H
                  refine mC H (fun hb => ?_) (fun hb => ?_)
                  · rw [if_neg hVf, if_neg (by decide)]
                    simp only [pls, bas, List.map_nil]
                    refine mW ?_; clear H; intro a w H
                    refine wp_ret ?_; exact mEnd [] [] [.tmp 6, .tmp 7, .tmp 8] [_, _, _] hN hR H
                  · exact absurd hb (by decide)
                · have eu : decide ((1024 : Int) < (u.length : Int)) = false := decide_eq_false (by omega)
                  have hval := valueR_v u hvw
                  have hvl2 := valH_len u
                  clear hX; have hX := And.intro @hpl (And.intro @hvl (And.intro @h1 (And.intro @h2 (And.intro @hz2 (And.intro @hPl (And.intro @hKl (And.intro @hgv (And.intro @b1 (And.intro @b2 (And.intro @b3 (@hvl2)))))))))))
                  refine mS ?_; refine mD 4 [20] [21, 22] H ?_; clear H; intro gS H
                  refine mTN 5 hN H ?_; clear H; intro a w H; simp only [List.drop_succ_cons, List.drop_zero, List.drop_nil]
                  simp only [en] at H
                  refine mTN 5 hN H ?_; clear H; intro a w H; simp only [List.drop_succ_cons, List.drop_zero, List.drop_nil]
                  refine mTN 3 hN H ?_; clear H; intro a w H; simp only [List.drop_succ_cons, List.drop_zero, List.drop_nil]
                  simp only [eu] at H
                  refine mTN 2 hN H ?_; clear H; intro a w H; simp only [List.drop_succ_cons, List.drop_zero, List.drop_nil]
                  refine mTN 4 hN H ?_; clear H; intro a w H; simp only [List.drop_succ_cons, List.drop_zero, List.drop_nil]
                  refine mTN 1 hN H ?_; clear H; intro a w H; simp only [List.drop_succ_cons, List.drop_zero, List.drop_nil]
                  refine mCallTG [] [] (hval) H ?_; clear H; intro a w H
                  refine mT ?_; clear H; intro a w H
                  refine v_drawNil H ?_; clear H; intro H
                  refine mC H (fun hb => ?_) (fun hb => ?_)
                  · have hne : valH u ≠ bv := by simpa using hb
                    have hVf : ¬ V = true := hVq fun _ _ h => hne h.2.2
                    rw [if_neg hVf, if_neg (by decide)]
                    simp only [pls, bas, List.map_nil]
                    refine mW ?_; clear H; intro a w H
                    refine wp_ret ?_; exact mEnd [] [] [.tmp 6, .tmp 7, .tmp 8] [_, _, _] hN hR H
                  · have heq : valH u = bv := by simpa using hb
                    clear hb
                    have hf2 := hfs hql (by omega) heq
                    refine mS ?_
                    replace H := mK [3, 4, 5, 6, 7, 8, 10, 12, 13, 14] 4 1 hN hR H
                    refine mW ?_; clear H; intro a w H
                    rw [← hbK, ← hbn, show (i : Int) + 1 = ((i + 1 : Nat) : Int) by omega, ← hq2] at H
                    exact ⟨i + 1, ⟨hlt, by rw [hq2]; exact hf2⟩, by omega, H.to 3 1 ⟨Nat.le_trans hN (Nat.zero_le _), Nat.le_trans hR (Nat.zero_le _)⟩ ⟨rfl, rfl, rfl, rfl, rfl, rfl, rfl, rfl, rfl, trivial⟩ rfl rfl rfl rfl rfl⟩
          · have hge : i = L.length := by rw [decide_eq_false_iff_not] at hb; omega
            subst hge
            rw [List.take_length] at H hKl hfit hfl
            clear hb
            refine mS ?_
            replace H := mK [3, 4, 5, 6, 7, 8, 10, 12] 3 1 hN hR H
            refine mW ?_; clear H; intro a w H
            refine mC H (fun hb => ?_) (fun hb => ?_)
            · have hVf : ¬ V = true := fun hV => by
                have hq := (hvq.1 hV).1
                dsimp only at hq
                rw [hKl, hq] at hb; simp at hb
              rw [if_neg hVf, if_neg (by decide)]
              simp only [pls, bas, List.map_nil]
              refine mW ?_; clear H; intro a w H
              refine wp_ret ?_; exact mEnd [] [] [.tmp 6, .tmp 7, .tmp 8] [_, _, _] hN hR H
            · have hV : V = true := hvq.2 ⟨by
                rw [hKl] at hb
                have : decide (((plK fr to L).length : Int) = (v.length : Int)) = true := by simpa using hb
                rw [decide_eq_true_eq] at this; dsimp only; omega, hfit⟩
              rw [if_pos hV, if_pos rfl, if_pos rfl]
              refine mW ?_; clear H; intro a w H
              refine wp_ret ?_; exact mEnd [] [] [.tmp 6, .tmp 7, .tmp 8] [_, _, _] hN hR H
end Go.Proofs.Ytigmpdhnhkdeiaa
/- What the document reads of a span: ref24.Read, Single. -/
namespace Go.Proofs.Ytigmpdhnhkdeiaa
open Go Go.RowKit
attribute [local irreducible] wpT
theorem spE_places {fr to : List UInt8} {s : Sp} (hs : s.wf) (he : spE fr to fr s = 0) : ∃ t, spT fr to s = some (t, []) ∧ spPl fr to s = t.pl (List.replicate 32 0) 0 ∧ spH fr to fr s = t.dg ∧ t.dg.length = 32 ∧ t.okd 0 ∧ t.num ≤ 65536 ∧ (spKs fr to s).length = s.v.length ∧ (∀ k ∈ spKs fr to s, k.length = 32) ∧ spL fr to s = (spKs fr to s).zip s.v := by
  obtain ⟨t, ht, hlen, hval⟩ := spE_zero he
  obtain ⟨_, p2, p3, p4, _, _⟩ := rd_parts ht hs.p
  have hn := (rd_num (by omega) ht).1
  have hp : s.p.length ≤ 65536 := by
    unfold spE at he
    split at he
    · cases he
    · omega
  have hk : spKs fr to s = (t.leaves.filter fun x => hasB fr to x.1).map (·.1) := by unfold spKs; rw [if_pos he, spRS_some fr ht]; rfl
  refine ⟨t, ht, ?_, ?_, p2, rd_okd hs.p ht, by omega, ?_, ?_, ?_⟩
  · unfold spPl; rw [if_pos he, ht]
  · unfold spH; rw [if_pos he, spRS_some fr ht]
  · rw [hk, List.length_map]; exact hlen
  · intro k hkm
    rw [hk] at hkm
    obtain ⟨x, hx, rfl⟩ := List.mem_map.1 hkm
    exact (p3 x (List.mem_filter.1 hx).1).1
  · rw [hk]; unfold spL; rw [spRS_some fr ht]; rfl
theorem spE_no {fr to : List UInt8} {s : Sp} (he : spE fr to fr s ≠ 0) : spPl fr to s = [] ∧ spKs fr to s = [] := by
  unfold spPl spKs; rw [if_neg he, if_neg he]; exact ⟨rfl, rfl⟩
set_option maxRecDepth 20000 in
set_option maxHeartbeats 4000000 in
theorem read24_v (root fr to : List UInt8) (hr0 : root.length = 32) (h1 : fr.length = 32) (h2 : to.length = 32) (s : Sp) (hs : s.wf) :
    VC Try.prog 41 [.ba root, .ba fr, .ba to, s.av] [] (.tup [.sl prT ((if spRE root fr to s = 0 then spL fr to s else []).map prA) none, .v (.int .i64 (spRE root fr to s))]) := by
  have hp := places24_v fr to h1 h2 s hs
  have hvl := bss_len s.v
  have hpl := brs_len s.p
  have hpc := fun he => spE_places (fr := fr) (to := to) hs he
  have hpn := fun he => spE_no (fr := fr) (to := to) (s := s) he
  have hlv := hs.lv
  unfold spRE
  generalize spE fr to fr s = e at *
  generalize spPl fr to s = L at *
  generalize spKs fr to s = K at *
  generalize spL fr to s = Z at *
  generalize spH fr to fr s = h at *
  obtain ⟨p, v⟩ := s
  dsimp only at hvl hpl hpc hlv
  simp only [Sp.av] at hp ⊢
  by_cases he : e = 0
  · obtain ⟨t, _, rfl, rfl, q2, _, q4, q5, q6, rfl⟩ := hpc he
    obtain ⟨t1, t2, t3⟩ := t.pl_top (List.replicate 32 0) 0
    have hLl := t.pl_len (List.replicate 32 0) 0
    have hPl := pls_len (t.pl (List.replicate 32 0) 0)
    have hnp := t.num_pos
    have hKl := bas_len K
    rw [hLl] at hPl
    simp only [Pl.av] at t3
    rw [if_pos he]
    subst he
    generalize t.pl (List.replicate 32 0) 0 = L at *
    refine mE Try.func41 ?_; intro N w0 a w hN hR H
    have hX := And.intro @hpl (And.intro @hvl (And.intro @h1 (And.intro @h2 (And.intro @hr0 (And.intro @hPl (And.intro @t3 (@hKl)))))))
    refine mW ?_; clear H; intro a w H
    refine mCall [] [] (hp) H ?_; clear H; intro a w H; try refine wpList_nil ?_
    refine mW ?_; clear H; intro a w H
    refine mC H (fun hb => ?_) (fun hb => ?_)
    · exact absurd hb (by decide)
    · clear hb
      refine mS ?_
      replace H := mK [4, 5, 6, 7, 8, 9, 10, 11] 4 0 hN hR H
      refine mS ?_; refine mD 4 [] [] H ?_; clear H; intro gS H
      refine mTN 2 hN H ?_; clear H; intro a w H; simp only [List.drop_succ_cons, List.drop_zero, List.drop_nil]
      refine mT ?_; clear H; intro a w H
      refine v_drawNil H ?_; clear H; intro H
      refine mC H (fun hb => ?_) (fun hb => ?_)
      · have hne : t.dg ≠ root := by simpa using hb
        rw [if_neg hne, if_neg (by decide)]
        refine mW ?_; clear H; intro a w H
        refine wp_ret ?_; exact mEnd [] [] [.tmp 8, .tmp 9] [_, _] hN hR H
      · have heq : t.dg = root := by simpa using hb
        rw [if_pos heq, if_pos rfl]
        clear hb
        refine mS ?_
        replace H := mK [4, 5, 6, 7, 8, 9, 10, 11] 4 0 hN hR H
        refine mW ?_; clear H; intro a w H
        replace H := v_nilE tab_ok H 13 120 prT (j := ti120) rfl (by decide) rfl
        simp only [nilT, reduceIte, Nat.reduceEqDiff, List.length_nil, List.nil_append] at H
        refine v_loop (fun i : Nat => ⟨[(14, none, .v (.int .i64 (i : Int))), (13, none, .sl prT (((K.zip v).take i).map prA) (some 0)), (11, none, .sl (.ba 32) (bas K) none), (7, none, .ptr 3 [])],
          [(.ba 32, .ba root), (.ba 32, .ba fr), (.ba 32, .ba to), (ti25.ty, .st [.sl brT (brs p) none, .sl .sc (bss v) none])], [], [(120, i)]⟩)
          (fun i => i ≤ K.length) (fun i => K.length - i) 0 (Nat.zero_le _)
          (H.to 4 1 ⟨Nat.le_trans hN (Nat.zero_le _), Nat.le_trans hR (Nat.zero_le _)⟩ ⟨rfl, rfl, rfl, rfl, trivial⟩ rfl rfl rfl rfl rfl) ?_
        clear H
        intro i a w hi H
        refine mW ?_; clear H; intro a w H
        refine mC H (fun hb => ?_) (fun hb => ?_)
        · have hlt : i < K.length := by rw [decide_eq_true_eq] at hb; omega
          clear hb
          have g1 := bas_get K i hlt
          have g2 := bss_get v i (by omega)
          have c1 := q6 _ (List.getElem_mem hlt)
          have hol : (((K.zip v).take i).map prA).length = i := by rw [List.length_map, List.length_take, List.length_zip]; omega
          have e2 : ((K.zip v).take (i + 1)).map prA = ((K.zip v).take i).map prA ++ [.st [.ba K[i], .bs (v[i]'(by omega)) none]] := by
            have hz : i < (K.zip v).length := by rw [List.length_zip]; omega
            rw [List.take_succ_eq_append_getElem hz, List.map_append, List.getElem_zip]; rfl
          generalize K[i] = k at *
          generalize v[i]'(by omega) = u at *
          generalize ((K.zip v).take i).map prA = o at *
          clear hX; have hX := And.intro @hpl (And.intro @hvl (And.intro @h1 (And.intro @h2 (And.intro @hr0 (And.intro @hPl (And.intro @t3 (And.intro @hKl (And.intro @g1 (And.intro @g2 (And.intro @c1 (@hol)))))))))))
          refine mS ?_; refine mD 4 [11, 12] [0] H ?_; clear H; intro gS H
          refine mTN 4 hN H ?_; clear H; intro a w H; simp only [List.drop_succ_cons, List.drop_zero, List.drop_nil]
          refine mTN 5 hN H ?_; clear H; intro a w H; simp only [List.drop_succ_cons, List.drop_zero, List.drop_nil]
          refine mT ?_; clear H; intro a w H
          refine v_drawNil H ?_; clear H; intro H
          refine mW ?_; clear H; intro a w H
          rw [← e2, show (i : Int) + 1 = ((i + 1 : Nat) : Int) by omega] at H
          exact ⟨i + 1, hlt, by omega, H.to 4 1 ⟨Nat.le_trans hN (Nat.zero_le _), Nat.le_trans hR (Nat.zero_le _)⟩ ⟨rfl, rfl, rfl, rfl, trivial⟩ rfl rfl rfl rfl rfl⟩
        · have hge : i = K.length := by rw [decide_eq_false_iff_not] at hb; omega
          subst hge
          rw [show (K.zip v).take K.length = K.zip v from List.take_of_length_le (by rw [List.length_zip]; omega)] at H
          refine mW ?_; clear H; intro a w H
          refine wp_ret ?_; exact mEnd [] [] [.tmp 8, .tmp 9] [_, _] hN hR H
  · obtain ⟨rfl, rfl⟩ := hpn he
    rw [if_neg he, if_neg he]
    have hd : (!decide (e = 0)) = true := by rw [decide_eq_false he]; rfl
    simp only [pls, bas, List.map_nil] at hp ⊢
    refine mE Try.func41 ?_; intro N w0 a w hN hR H
    have hX := And.intro @hpl (And.intro @hvl (And.intro @h1 (And.intro @h2 (@hr0))))
    refine mW ?_; clear H; intro a w H
    refine mCall [] [] (hp) H ?_; clear H; intro a w H; try refine wpList_nil ?_
    refine mW ?_; clear H; intro a w H
    refine mC H (fun hb => ?_) (fun hb => ?_)
    · refine mW ?_; clear H; intro a w H
      refine wp_ret ?_; exact mEnd [] [] [.tmp 8, .tmp 9] [_, _] hN hR H
    · rw [hd] at hb; cases hb
set_option maxRecDepth 20000 in
theorem single24_v (fr to key : List UInt8) (h1 : fr.length = 32) (h2 : to.length = 32) (h3 : key.length = 32) (s : Sp) (hs : s.wf) :
    VC Try.prog 38 [.ba fr, .ba to, s.av, .ba key] [] (.tup [(spW fr to key s).av, .v (.int .i64 (spWE fr to key s))]) := by
  have hp := places24_v fr to h1 h2 s hs
  have hvl := bss_len s.v
  have hpl := brs_len s.p
  have hwi := within24_v key fr to h3 h1 h2
  have hpc := fun he => spE_places (fr := fr) (to := to) hs he
  have hpn := fun he => spE_no (fr := fr) (to := to) (s := s) he
  unfold spW spWE
  rw [spE_key fr to key fr]
  have hway : ∀ t, spT fr to s = some (t, []) → ∀ hh : hasB fr to key = true, (∀ g, t.last key 0 ≠ .c g) ∧ (spRS fr to key s).1.sd.reverse = t.way key 0 ∧ (spRS fr to key s).1.en = t.fin key 0 Nd.zero := fun t ht hh =>
    ⟨fun g => rd_last (op := tchB fr to) (k := key) (fun top d hd hu => tch_of h1 h2 h3 hd hh hu) (by omega) Low.zero ht (und_zero _ _) g, by rw [spRS_some key ht]; simp [spX], by rw [spRS_some key ht]; rfl⟩
  generalize spE fr to fr s = e at *
  generalize spPl fr to s = L at *
  generalize spKs fr to s = K at *
  have hWl := fun (hh : hasB fr to key = true) (he : e = 0) => (spRS_wf fr to key s hs).en
  obtain ⟨p, v⟩ := s
  dsimp only at hvl hpl hpc
  simp only [Sp.av] at hp ⊢
  by_cases he : e = 0
  · obtain ⟨t, ht, rfl, _, q2, q3, q4, q5, q6, _⟩ := hpc he
    rw [if_pos he]
    by_cases hh : hasB fr to key = true
    · obtain ⟨w1, w2, w3⟩ := hway t ht hh
      have hwy := way20_v t key (List.replicate 32 0) h3 w1 q3 (by omega)
      obtain ⟨v1, v2, v3, v4⟩ := hWl hh he
      rw [if_pos ⟨he, hh⟩, if_pos hh, w2, w3]
      rw [w3] at v1 v2 v3 v4
      have hPl := pls_len (t.pl (List.replicate 32 0) 0)
      rw [t.pl_len] at hPl
      have hnp := t.num_pos
      rw [hh] at hwi
      subst he
      generalize t.pl (List.replicate 32 0) 0 = L at *
      generalize t.way key 0 = W at *
      generalize t.fin key 0 Nd.zero = F at *
      obtain ⟨fk, fkey, fv, fl, fr2⟩ := F
      dsimp only at v1 v2 v3 v4
      simp only [Pf.av, Nd.av] at hwy ⊢
      refine mE Try.func38 ?_; intro N w0 a w hN hR H
      have hX := And.intro @hpl (And.intro @hvl (And.intro @h1 (And.intro @h2 (And.intro @h3 (And.intro @v1 (And.intro @v2 (And.intro @v3 (And.intro @v4 (@hPl)))))))))
      refine mW ?_; clear H; intro a w H
      refine mCall [] [] (hp) H ?_; clear H; intro a w H; try refine wpList_nil ?_
      refine mW ?_; clear H; intro a w H
      refine mC H (fun hb => ?_) (fun hb => ?_)
      · exact absurd hb (by decide)
      · refine mW ?_; clear H; intro a w H
        refine mCall [] [] (hwi) H ?_; clear H; intro a w H; try refine wpList_nil ?_
        refine mW ?_; clear H; intro a w H
        refine mC H (fun hb => ?_) (fun hb => ?_)
        · exact absurd hb (by decide)
        · refine mW ?_; clear H; intro a w H
          refine mCall [] [] (hwy) H ?_; clear H; intro a w H; try refine wpList_nil ?_
          refine mW ?_; clear H; intro a w H
          refine wp_ret ?_; exact mEnd [] [] [.cell 8 68, .tmp 9] [_, _] hN hR H
    · rw [if_neg (fun h => hh h.2), if_neg hh]
      have hf : hasB fr to key = false := by simpa using hh
      rw [hf] at hwi
      subst he
      generalize t.pl (List.replicate 32 0) 0 = L at *
      simp only [Pf.av, Pf.zero, Nd.zero, Nd.av, z32, bas, List.map_nil]
      refine mE Try.func38 ?_; intro N w0 a w hN hR H
      have hX := And.intro @hpl (And.intro @hvl (And.intro @h1 (And.intro @h2 (@h3))))
      refine mW ?_; clear H; intro a w H
      refine mCall [] [] (hp) H ?_; clear H; intro a w H; try refine wpList_nil ?_
      refine mW ?_; clear H; intro a w H
      refine mC H (fun hb => ?_) (fun hb => ?_)
      · exact absurd hb (by decide)
      · refine mW ?_; clear H; intro a w H
        refine mCall [] [] (hwi) H ?_; clear H; intro a w H; try refine wpList_nil ?_
        refine mW ?_; clear H; intro a w H
        refine mC H (fun hb => ?_) (fun hb => ?_)
        · refine mW ?_; clear H; intro a w H
          refine wp_ret ?_; exact mEnd [] [] [.cell 8 68, .tmp 9] [_, _] hN hR H
        · exact absurd hb (by decide)
  · obtain ⟨rfl, rfl⟩ := hpn he
    rw [if_neg he, if_neg (fun h => he h.1)]
    have hd : (!decide (e = 0)) = true := by rw [decide_eq_false he]; rfl
    simp only [pls, bas, List.map_nil] at hp
    simp only [Pf.av, Pf.zero, Nd.zero, Nd.av, z32, bas, List.map_nil]
    refine mE Try.func38 ?_; intro N w0 a w hN hR H
    have hX := And.intro @hpl (And.intro @hvl (And.intro @h1 (And.intro @h2 (@h3))))
    refine mW ?_; clear H; intro a w H
    refine mCall [] [] (hp) H ?_; clear H; intro a w H; try refine wpList_nil ?_
    refine mW ?_; clear H; intro a w H
    refine mC H (fun hb => ?_) (fun hb => ?_)
    · refine mW ?_; clear H; intro a w H
      refine wp_ret ?_; exact mEnd [] [] [.cell 8 68, .tmp 9] [_, _] hN hR H
    · rw [hd] at hb; cases hb
end Go.Proofs.Ytigmpdhnhkdeiaa
/- slices.Reverse of slices, in memory that may be written. -/
namespace Go.Proofs.Ytigmpdhnhkdeiaa
open Go Go.RowKit
def vas (us : List Value) : List AV := us.map .v
theorem vas_len (us : List Value) : (vas us).length = us.length := by simp [vas]
end Go.Proofs.Ytigmpdhnhkdeiaa
/- A list of slices written out into what grows; do lists share memory that are on their own? -/
namespace Go.Proofs.Ytigmpdhnhkdeiaa
open Go Go.RowKit
section
variable {P : Program} {τ : Tab} {w0 w w1 w2 : World} {N N1 N2 : Gh} {g g1 gS : Gh} {st st' sq sq' : St} {nt : Nat} {a : Act} {lo : Nat} {X Y : List XR}
/-- Bytes, with their room. -/
def XW (x : XR) : Prop := ∃ l sp : List UInt8, x.cells = (l ++ sp).map B8 ∧ x.n = l.length ∧ x.c = l.length + sp.length
theorem XOk.own_ {lo : Nat} {g : Gh} {w : World} {x : XR} (h : XOk lo g w x) (hw : XW x) : ∃ (sv : SV) (l sp : List UInt8) (t : TypeId), x.v = sv.v ∧ Own (byteT t) w 0 x.v l sp := by
  obtain ⟨l, sp, h1, h2, h3⟩ := hw
  refine ⟨(x.A.map fun b => ⟨b, 0, none⟩, x.n, x.c), l, sp, x.tid, rfl, ?_⟩
  cases hA : x.A with
  | none =>
    have h0 := h.nil hA
    have e1 : l = [] := List.length_eq_zero_iff.1 (by omega)
    have e2 : sp = [] := List.length_eq_zero_iff.1 (by omega)
    subst e1 e2
    exact .inl ⟨by unfold XR.v; rw [hA, h2, h3]; rfl, rfl, rfl⟩
  | some b =>
    obtain ⟨_, _, q3, _⟩ := h.own b hA
    refine .inr ⟨b, Nat.zero_le _, by unfold XR.v; rw [hA, h2, h3]; rfl, ?_, by have := h.le.2; omega⟩
    show Blk w b x.tid _
    rw [byteT_all, ← h1]; exact q3
/-- What ApartBytes says of a vec box of slices that are on their own, or none. -/
theorem apartX_calls {x : Operand} {us : List Value} (hZ' : Xs lo g w X) (HI : Inv Try.prog w0 N g st.bx st.fz st.rw w) (hF : FR g nt st a) (i γ e : Nat) (hx : st.ev none x = .vw i γ us.length) (hb : st.bx[i]? = some (.vc e .sc, .vc γ (vas us)))
    (ix : List (Option Nat)) (hix : ix.length = us.length) (hval : ∀ k (h1 : k < ix.length) (h2 : k < us.length), (ix[k] = none ∧ us[k] = .slice none 0 0) ∨ ∃ j x, ix[k] = some j ∧ X[j]? = some x ∧ us[k] = x.v ∧ XW x) (hun : ix.Pairwise fun p q => p = none ∨ p ≠ q) (h0 : 0 < us.length) (hl : us.length ≤ 1000000) :
    Calls Try.prog 23 ([x].map a.eval).toArray w fun e w2 => e = .returned (.bool true) ∧ Below w.heap.size w w2 := by
  obtain ⟨y, hy, hyT, hbc⟩ := HI.br.at_ i _ _ hb
  obtain ⟨T2, F, sp, ⟨e2, he2, htid⟩, hmp, hgen, hp0, hcm, hcs, hcl, hsp, hFk⟩ := hbc.vc_inv
  injection he2 with he20 he2; subst he20 he2
  have hxv := ev_sound hF (c := none) trivial x
  rw [hx] at hxv
  obtain ⟨_, y', e3, T3, A, c, hval2, hy', hty', hle, hnc, hm, hxx⟩ := hxv.vw_inv.vw_inv
  rw [hy] at hy'; injection hy' with hy'; subst hy'
  injection hval2 with hval2
  obtain ⟨hcc, hA⟩ := hxx hgen
  have hA2 : y.off = false ∧ A = some ⟨y.blk, 0, none⟩ := by
    rcases hA with ⟨ho, _⟩ | h
    · have := hcm.2 ho; omega
    · exact h
  obtain ⟨hoff, rfl⟩ := hA2
  have hblk := (HI.mem.bx i y hy hoff).c hmp
  have hcell : ∀ k (hk : k < us.length), w.cell? ⟨y.blk, k, none⟩ = some us[k] := fun k hk => by
    rw [hblk.cell, hcs]
    have hk' : k < (vas us).length := by rw [vas_len]; exact hk
    have hr := hFk k hk'
    have hvk : (vas us)[k] = .v us[k] := by simp [vas]
    rw [hvk] at hr
    obtain ⟨_, hc1⟩ := hr.v_inv
    have := flat_at (sp := sp) hFk hk' (j := 0) (u := us[k]) (by rw [hc1]; rfl)
    simp only [Ty.size, Nat.mul_one, Nat.add_zero] at this
    rw [List.getElem?_toArray]; exact this
  have hrow : ∀ k (hk : k < us.length), ∃ r : ARow, r.1.v = us[k] ∧ Own (byteT r.2.2.2) w 0 r.1.v r.2.1 r.2.2.1 := fun k hk => by
    rcases hval k (by omega) hk with ⟨_, h⟩ | ⟨j, x, _, h1, h2, hW⟩
    · refine ⟨((none, 0, 0), [], [], 5), h.symm, .inl ⟨rfl, rfl, rfl⟩⟩
    · have hm := List.mem_of_getElem? h1
      obtain ⟨sv, l, sp, t, q1, q2⟩ := (hZ'.ok x hm).own_ hW
      exact ⟨(sv, l, sp, t), by rw [h2]; exact q1.symm, by rw [← q1]; exact q2⟩
  obtain ⟨L, hL, hLr⟩ : ∃ L : List ARow, L.length = us.length ∧ ∀ k (h1 : k < L.length) (h2 : k < us.length), L[k].1.v = us[k] ∧ Own (byteT L[k].2.2.2) w 0 L[k].1.v L[k].2.1 L[k].2.2.1 := by
    classical
    refine ⟨(List.range us.length).map fun k => if h : k < us.length then Classical.choose (hrow k h) else ((none, 0, 0), [], [], 0), by simp, fun k h1 h2 => ?_⟩
    have := Classical.choose_spec (hrow k h2)
    simp only [List.getElem_map, List.getElem_range, dif_pos h2]
    exact this
  have hev : ([x].map a.eval).toArray = #[Value.slice (some ⟨y.blk, 0, none⟩) L.length c] := by rw [hL, ← hval2]; rfl
  rw [hev]
  have hown : ∀ k (h1 : k < L.length) (h2 : k < us.length), L[k].1.v.ownBlock = us[k].ownBlock := fun k h1 h2 => by rw [(hLr k h1 h2).1]
  have hP : Apart w 0 L := ⟨fun k hk => (hLr k hk (by omega)).2, fun p q hp hq hpq => by
    rw [hown p hp (by omega), hown q hq (by omega)]
    have key : ∀ p q (hp : p < us.length) (hq : q < us.length), p < q → us[p].ownBlock = none ∨ us[q].ownBlock = none ∨ us[p].ownBlock ≠ us[q].ownBlock := fun p q hp hq hlt => by
      rcases hval p (by omega) hp with ⟨_, h⟩ | ⟨j1, x1, a1, a2, a3, _⟩
      · left; rw [h]; rfl
      · rcases hval q (by omega) hq with ⟨_, h⟩ | ⟨j2, x2, b1, b2, b3, _⟩
        · right; left; rw [h]; rfl
        · have hne : j1 ≠ j2 := fun e => by
            rw [List.pairwise_iff_getElem] at hun
            rcases hun p q (by omega) (by omega) hlt with h | h
            · rw [a1] at h; cases h
            · rw [a1, b1, e] at h; exact h rfl
          rw [a3, b3, XR.own, XR.own]
          have hu := hZ'.un
          unfold XApart at hu
          rw [List.pairwise_iff_getElem] at hu
          obtain ⟨l1, g1⟩ := List.getElem?_eq_some_iff.1 a2
          obtain ⟨l2, g2⟩ := List.getElem?_eq_some_iff.1 b2
          rcases Nat.lt_or_gt_of_ne hne with h | h
          · have := hu j1 j2 l1 l2 h
            rw [g1, g2] at this
            rcases this with h | h
            · exact .inl h
            · exact .inr (.inr h)
          · have := hu j2 j1 l2 l1 h
            rw [g1, g2] at this
            rcases this with h | h
            · exact .inr (.inl h)
            · exact .inr (.inr fun e => h e.symm)
    rcases Nat.lt_or_gt_of_ne hpq with h | h
    · rcases key p q (by omega) (by omega) h with h | h | h
      · exact .inl h
      · cases hh : us[p].ownBlock with
        | none => exact .inl rfl
        | some b => exact .inr (by rw [h]; simp)
      · exact .inr h
    · rcases key q p (by omega) (by omega) h with h | h | h
      · cases hh : us[p].ownBlock with
        | none => exact .inl rfl
        | some b => exact .inr (by rw [h]; simp)
      · exact .inl h
      · exact .inr fun e => h e.symm⟩
  exact apart_any L y.blk 0 c 0 w (fun k hk => by rw [Nat.zero_add, hcell k (by omega), (hLr k hk (by omega)).1]) hblk.lt hP (by omega) (by omega)
end
end Go.Proofs.Ytigmpdhnhkdeiaa
/- Slices on their own, in regions that draw their order. -/
namespace Go.Proofs.Ytigmpdhnhkdeiaa
open Go Go.RowKit
theorem nfX {P : Program} {w0 w : World} {N : Gh} {nt lo : Nat} {st s2 : St} {X : List XR} {a : Act} (H : RelX lo P w0 N nt st X a w) (h : st = s2 := by exact nfs) : RelX lo P w0 N nt s2 X a w := h ▸ H
theorem v_seeXT {P : Program} {w0 w : World} {N gS : Gh} {nt lo : Nat} {sq st : St} {X : List XR} {a : Act} (hZ : Xs lo N w0 X) (H : RelT P w0 N nt gS sq st a w) (d : Nat) {x : AV} (y : AV) (hs : SeeX X x y) (hd : find d st.t = some (none, x)) : RelT P w0 N nt gS sq ⟨nilT d y st.t, st.bx, st.fz, st.rw⟩ a w := by
  obtain ⟨hM, hrw, hFq, hBq, g, HI, hF, hle, hbs⟩ := H
  refine ⟨hM, hrw, hFq, hBq, g, HI, ⟨hF.sz, hF.df, fun p hp hg => ?_, fun p hp hg => by rcases nilT_mem hp with h | h; (subst h; exact absurd trivial hg); exact hF.u p h hg⟩, hle, hbs⟩
  rcases nilT_mem hp with h | h
  · subst h; exact (hF.t _ (find_mem hd) trivial).seeX hZ hs fun b o u hu => HI.fr.le.ro b o u hu
  · exact hF.t p h hg
theorem FrX.refl (lo : Nat) (w : World) (N : Gh) : FrX lo w N N w := .of ⟨Kept.refl _ _, fun i x hx hxo => .inr ⟨x, hx, hxo, rfl⟩, fun i r k hr hrk => .inr ⟨r, hr, hrk⟩, fun _ _ _ _ => rfl, Gh.le.refl _⟩ lo
theorem Xs.nil (lo : Nat) (N : Gh) (w : World) : Xs lo N w [] := ⟨fun x hx => (by cases hx), List.Pairwise.nil⟩
/-- A slice on its own that holds bytes. -/
def XB (x : XR) (l : List UInt8) : Prop := x.n = l.length ∧ x.tid = 5 ∧ x.k = l.length ∧ ∃ m, x.c = l.length + m ∧ x.cells = l.map B8 ++ (List.replicate m (zeroOf Try.prog 5)).flatten
def XL (X : List XR) (ls : List (List UInt8)) : Prop := X.length = ls.length ∧ ∀ i (h1 : i < X.length) (h2 : i < ls.length), XB X[i] ls[i]
theorem XL.snoc {X : List XR} {ls : List (List UInt8)} {x : XR} {l : List UInt8} (h : XL X ls) (hx : XB x l) : XL (X ++ [x]) (ls ++ [l]) := by
  refine ⟨by simp [h.1], fun i h1 h2 => ?_⟩
  rw [List.length_append, List.length_singleton] at h1 h2
  by_cases hi : i < X.length
  · rw [List.getElem_append_left hi, List.getElem_append_left (by rw [← h.1]; exact hi)]; exact h.2 i hi (by rw [← h.1]; exact hi)
  · have e1 : i = X.length := by omega
    have e2 : i = ls.length := by rw [← h.1]; exact e1
    rw [List.getElem_append_right (by omega), List.getElem_append_right (by omega)]
    simp only [List.getElem_singleton]
    exact hx
theorem XL.last {X : List XR} {ls : List (List UInt8)} {x : XR} {l : List UInt8} (h : XL (X ++ [x]) (ls ++ [l])) : XL X ls ∧ XB x l := by
  have hl : X.length = ls.length := by have := h.1; simpa using this
  refine ⟨⟨hl, fun i h1 h2 => ?_⟩, ?_⟩
  · have := h.2 i (by simp; omega) (by simp; omega)
    rwa [List.getElem_append_left h1, List.getElem_append_left h2] at this
  · have := h.2 X.length (by simp) (by simp [hl])
    rw [List.getElem_append_right (Nat.le_refl _), List.getElem_append_right (by omega)] at this
    simpa using this
theorem XL.nil : XL [] [] := ⟨rfl, fun i h => (by cases h)⟩
theorem XB.see {X : List XR} {x : XR} {l : List UInt8} (h : XB x l) (hx : x ∈ X) : SeeX X (.v x.v) (.bs l none) := by
  obtain ⟨h1, _, h3, m, _, h4⟩ := h
  refine .pub x l hx (by omega) h1 ?_
  rw [h4, List.take_append_of_le_length (by simp), List.take_of_length_le (by simp)]
theorem XB.w {x : XR} {l : List UInt8} (h : XB x l) : XW x := by
  obtain ⟨h1, _, _, m, h3, h4⟩ := h
  refine ⟨l, List.replicate m 0, ?_, h1, by rw [List.length_replicate]; exact h3⟩
  rw [h4, zero_u8, flat_z, List.map_append]
theorem VE.mono {P : Program} {f : FuncId} {args : List AV} {R R2 : List XR → List (Ty × AV) → List (TypeId × Nat) → AV → Prop} (h : VE P f args R) (hR : ∀ X bx rw res, R X bx rw res → R2 X bx rw res) : VE P f args R2 :=
  ⟨h.1, fun w N vs a b c => (h.2 w N vs a b c).mono fun e w' hp => by
    obtain ⟨X, bx', rw', res, g, v, h1, h2⟩ := hp
    exact ⟨X, bx', rw', res, g, v, hR _ _ _ _ h1, h2⟩⟩
theorem RelX.rel {P : Program} {w0 w : World} {N : Gh} {nt : Nat} {st : St} {X : List XR} {a : Act} (H : RelX w0.heap.size P w0 N nt st X a w) : Rel P w0 N nt st a w := by
  obtain ⟨g, HI, hB, hF, _⟩ := H
  exact ⟨g, ⟨HI.mem, hB.fr (Nat.le_refl _), HI.br, HI.fz, HI.wr, HI.wz⟩, hF⟩
section
variable {P : Program} {τ : Tab} {w0 w w1 w2 : World} {N N1 N2 : Gh} {g g1 gS : Gh} {st st' sq sq' : St} {nt : Nat} {a : Act} {lo : Nat} {X Y : List XR}
def RelXT (lo : Nat) (P : Program) (w0 : World) (N : Gh) (nt : Nat) (gS : Gh) (sq st : St) (X : List XR) (a : Act) (w : World) : Prop :=
  Mem gS w ∧ gS.rw = [] ∧ FR gS nt sq a ∧ BR gS sq.bx ∧ ∃ g, Inv P w g g st.bx st.fz st.rw w ∧ FrX lo w0 N g w ∧ FR g nt st a ∧ gS.le g ∧ Bs gS g ∧ Xs lo g w X
theorem RelXT.open_ (H : RelXT lo P w0 N nt gS sq st X a w) : ∃ N1, FrX lo w0 N N1 w ∧ Xs lo N1 w X ∧ RelT P w N1 nt gS sq st a w ∧ N1.bx.length = st.bx.length ∧ N1.rw.length = st.rw.length := by
  obtain ⟨hM, hrw, hFq, hBq, g, HI, hB, hF, hle, hbs, hX⟩ := H
  exact ⟨g, hB, hX, ⟨hM, hrw, hFq, hBq, g, HI, hF, hle, hbs⟩, HI.br.len, by rw [← HI.wr, List.length_map]⟩
theorem RelXT.close (hB : FrX lo w0 N N1 w1) (hX : Xs lo N1 w1 X) (H : RelT P w1 N1 nt gS sq st a w) : RelXT lo P w0 N nt gS sq st X a w := by
  obtain ⟨hM, hrw, hFq, hBq, g, HI, hF, hle, hbs⟩ := H
  exact ⟨hM, hrw, hFq, hBq, g, HI.self, hB.trans (.of HI.fr lo), hF, hle, hbs, hX.step HI⟩
theorem RelXT.cast (H : RelXT lo P w0 N nt gS sq st X a w) (h : st = st') (h2 : sq = sq') : RelXT lo P w0 N nt gS sq' st' X a w := h ▸ h2 ▸ H
theorem nfXT {s2 sq2 : St} (H : RelXT lo P w0 N nt gS sq st X a w) (h : st = s2 := by exact nfs) (h2 : sq = sq2 := by exact nfs) : RelXT lo P w0 N nt gS sq2 s2 X a w := h ▸ h2 ▸ H
theorem cut_keep {i k : Nat} (hrw : gS.rw = []) (hle : gS.le g) (hbs : Bs gS g) (hn : gS.bx.length ≤ i) : gS.le (g.cut i k) ∧ Bs gS (g.cut i k) := by
  have get : ∀ {j : Nat} {x y : Bx}, gS.bx[j]? = some x → g.bx[j]? = some y → (g.cut i k).bx[j]? = some y := fun {j x y} h1 h2 => by
    show (g.bx.take i)[j]? = _
    rw [List.getElem?_take, if_pos (Nat.lt_of_lt_of_le (List.getElem?_eq_some_iff.1 h1).1 hn)]; exact h2
  refine ⟨⟨hle.ro, fun j x hx => ?_, fun j r hr => by rw [hrw] at hr; simp at hr⟩, fun j x hx => ?_⟩
  · obtain ⟨y, h1, h2⟩ := hle.bx j x hx
    exact ⟨y, get hx h1, h2⟩
  · obtain ⟨y, h1, h2⟩ := hbs j x hx
    exact ⟨y, get hx h1, h2⟩
theorem v_pubT (H : RelXT lo P w0 N nt gS sq st X a w) (hlo : lo ≤ w0.heap.size) (ks : List Nat) (d k e : Nat) {l : List UInt8} (hk : st.rw.length = k + 1) (hNk : N.rw.length ≤ k) (hd : find d st.t = some (none, .bs l (some k))) (hrow : st.rw[k]? = some (e, l.length)) (hq : sq.bx.length ≤ st.bx.length)
    (h1 : keepT ks st.bx.length k st.t = true) (h2 : (st.bx.take st.bx.length).all (fun x => low st.bx.length k 4 x.2) = true) :
    ∃ x : XR, (x.n = l.length ∧ x.tid = e ∧ x.k = l.length ∧ ∃ m, x.c = l.length + m ∧ x.cells = l.map B8 ++ (List.replicate m (zeroOf P e)).flatten) ∧ RelXT lo P w0 N nt gS sq ⟨(d, none, .v x.v) :: st.t.filter (fun p => ks.contains p.1), st.bx.take st.bx.length, st.fz, st.rw.take k⟩ (X ++ [x]) a w := by
  obtain ⟨hM, hrw, hFq, hBq, g, HI, hB, hF, hle, hbs, hX⟩ := H
  obtain ⟨x, h, q1, q2, q3, q4⟩ := v_pub0 HI hB hF hX hlo ks d k e hk hNk hd hrow h1 h2
  obtain ⟨c1, c2⟩ := cut_keep (i := st.bx.length) (k := k) hrw hle hbs (by rw [hBq.len]; exact hq)
  exact ⟨x, h, hM, hrw, hFq, hBq, _, q1, q2, q3, c1, c2, q4⟩
/-- A call of a contract that hands out slices on their own, in such a region. -/
theorem v_callET {ops : Array Oper} {Q : Exit → Act → World → Prop} {rest : List Oper} {o : Oper} {f : FuncId} {xs : List Operand} {ats : Array TypeId} {args : List AV} {R : List XR → List (Ty × AV) → List (TypeId × Nat) → AV → Prop} {L A : List Nat} {q : Nat}
    (hc : VE P f args R) (hB : FrX lo w0 N N1 w1) (hlo : lo ≤ w0.heap.size) (hX : Xs lo N1 w1 X) (H : RelT P w1 N1 nt gS sq st a w)
    (hRu : ∀ Y bx' rw' res, R Y bx' rw' res → uses some 4 res = true ∧ bx'.all (fun x => uses some 4 x.2) = true)
    (k : ∀ Y bx' rw' res a w, R Y bx' rw' res → RelXT lo P w0 N nt gS (sq.lose o.dst) ((⟨st.t, mergeL st.bx [] (renB [] [] st.bx.length st.rw.length bx'), st.fz, mergeL st.rw [] rw'⟩ : St).put o.dst none (ren (fun k => some (nth [] st.bx.length k)) (fun k => some (nth [] st.rw.length k)) 4 res)) (X ++ Y) a w → wpT P ops Q (Mem gS) L A rest (q + 1) a w)
    (hL : L.contains q = true := by rfl) (hgd : o.guard = none := by rfl) (ho : o.op = .call ⟨.value (.func f), xs.toArray, ats⟩ := by rfl) (hchk : (xs.all (fun x => argOk [] (st.ev none x)) && okDst nt none o.dst) = true := by rfl) (ha : allP (sub 4) (cargs st [] [] xs) args := by exact caX) : wpT P ops Q (Mem gS) L A (o :: rest) q a w := by
  obtain ⟨hfok, hcall⟩ := hc
  obtain ⟨hM, hrw, hFq, hBq, g, HI, hF, hle, hbs⟩ := H
  simp only [Bool.and_eq_true] at hchk
  obtain ⟨c5, c8⟩ := hchk
  obtain ⟨h1, h2⟩ := cargs_ok HI hF (js := []) (ks := []) (fun j hj => by cases hj) (fun j hj => by cases hj) c5 ha
  unfold wpT
  rw [if_pos (by simp [Region.wanted, hgd]), if_pos hL]
  unfold Oper.wp
  rw [run_callF hfok xs ats ho w, Oper.upon_enter]
  have HP : Inv P w (g.pick [] []) (g.pick [] []) [] [] [] w := HI.pick (bx2 := []) (fz2 := []) (rw2 := []) [] [] (fun j hj => by cases hj) (fun j hj => by cases hj) List.nodup_nil List.nodup_nil (fun j hj => by cases hj) trivial (fun i j hi => by simp at hi) rfl
    ⟨Kept.refl _ _, fun i x hx hxo => .inr ⟨x, hx, hxo, rfl⟩, fun i r k hr hrk => .inr ⟨r, hr, hrk⟩, fun _ _ _ _ => rfl, Gh.le.refl _⟩
  refine (hcall w (g.pick [] []) (xs.map a.eval) HP (by simp [h1]) h2).mono fun e w' hp => ?_
  obtain ⟨Y, bx', rw', res, g1, v, hRR, rfl, HI1, hv, hY⟩ := hp
  obtain ⟨c6, c7⟩ := hRu _ _ _ _ hRR
  obtain ⟨k1, k2, k3, k4⟩ := HI.call HI1 (fun j hj => by cases hj) (fun j hj => by cases hj) List.nodup_nil List.nodup_nil (fun x hx => List.all_eq_true.1 c7 x hx)
  have hv' := hv.ren_ (g1 := g1) (g2 := ⟨g1.ro, mergeL g.bx [] g1.bx, mergeL g.rw [] g1.rw⟩) (fb := fun k => some (nth [] st.bx.length k)) (fr := fun k => some (nth [] st.rw.length k)) (d := 3) rfl (fun i j x hij hx => by injection hij with hij; subst hij; exact k3 i x hx) (fun i j x hij hx => by injection hij with hij; subst hij; exact k4 i x hx) (uses_some c6)
  have hX' : Xs lo (⟨g1.ro, mergeL g.bx [] g1.bx, mergeL g.rw [] g1.rw⟩ : Gh) w' X := hX.step k2
  have hsz : w.heap.size ≤ w'.heap.size := HI1.fr.kept.size
  have hws : w1.heap.size ≤ w.heap.size := HI.fr.kept.size
  have hY' : ∀ y ∈ Y, XOk lo (⟨g1.ro, mergeL g.bx [] g1.bx, mergeL g.rw [] g1.rw⟩ : Gh) w' y := fun y hy => by
    have h := hY.ok y hy
    refine ⟨h.le, h.nil, fun b hb => ?_⟩
    obtain ⟨q1, q2, q3⟩ := h.own b hb
    refine ⟨fun hh => ?_, by have := hB.size; omega, q3⟩
    have hm : ∀ {α : Type} {l m : List α} {x : α}, x ∈ mergeL l [] m → x ∈ l ∨ x ∈ m := fun {α l m x} h => by
      unfold mergeL at h
      rw [show setAll l [] m = l by cases m <;> rfl] at h
      simpa using h
    rcases hh with ⟨z, hz, hzo, he⟩ | ⟨s, hs, he⟩
    · rcases hm hz with hz | hz
      · obtain ⟨i, hi⟩ := List.getElem?_of_mem hz
        have := (HI.mem.bx i z hi hzo).lt; omega
      · exact q1 (.inl ⟨z, hz, hzo, he⟩)
    · rcases hm hs with hs | hs
      · obtain ⟨i, hi⟩ := List.getElem?_of_mem hs
        have := (HI.mem.rw i s hi).lt he; omega
      · exact q1 (.inr ⟨s, hs, he⟩)
  have hun : XApart (X ++ Y) := by
    unfold XApart
    rw [List.pairwise_append]
    refine ⟨hX.un, hY.un, fun x hx y hy => ?_⟩
    cases hb : x.A with
    | none => exact .inl rfl
    | some b =>
      refine .inr fun e => ?_
      have h1 := (hX.ok x hx).lt hb
      have h2 := ((hY.ok y hy).own b e.symm).2.1
      omega
  have hbs' : Bs gS (⟨g1.ro, mergeL g.bx [] g1.bx, mergeL g.rw [] g1.rw⟩ : Gh) := fun i x hx => by
    obtain ⟨y, h3, h4⟩ := hbs i x hx
    exact ⟨y, merge_old (fun hm => by cases hm) h3, h4⟩
  have hM' := MemS (st := ⟨st.t, mergeL st.bx [] (renB [] [] st.bx.length st.rw.length bx'), st.fz ++ ([] : List Nat).map (nth [] st.bx.length), mergeL st.rw [] rw'⟩) hM hrw k2 (hle.trans k1) hbs'
  refine ⟨hM', k Y bx' rw' res _ _ hRR ⟨hM', hrw, hFq.lose v, by rw [lose_bx]; exact hBq, _, ?_, hB.trans (.of k2.fr lo), (hF.mono k1).put c8 (fun _ => hv') rfl (fun h => absurd trivial h), hle.trans k1, hbs', ⟨fun x hx => (List.mem_append.1 hx).elim (hX'.ok x) (hY' x), hun⟩⟩⟩
  have := k2.self
  cases o.dst <;> simpa [St.put] using this
/-- ApartBytes of a list of such slices, there. -/
theorem v_apartXT {ops : Array Oper} {Q : Exit → Act → World → Prop} {rest : List Oper} {o : Oper} {x : Operand} {us : List Value} {ats : Array TypeId} {L A : List Nat} {q : Nat} (hZ : Xs lo N w0 X) (H : RelT Try.prog w0 N nt gS sq st a w) (i γ e : Nat) (hx : st.ev none x = .vw i γ us.length) (hb : st.bx[i]? = some (.vc e .sc, .vc γ (vas us)))
    (ix : List (Option Nat)) (hix : ix.length = us.length) (hval : ∀ k (h1 : k < ix.length) (h2 : k < us.length), (ix[k] = none ∧ us[k] = .slice none 0 0) ∨ ∃ j x, ix[k] = some j ∧ X[j]? = some x ∧ us[k] = x.v ∧ XW x) (hun : ix.Pairwise fun p q => p = none ∨ p ≠ q) (h0 : 0 < us.length) (hl : us.length ≤ 1000000)
    (k : ∀ a w, RelT Try.prog w0 N nt gS (sq.lose o.dst) (st.put o.dst none (.v (.bool true))) a w → wpT Try.prog ops Q (Mem gS) L A rest (q + 1) a w)
    (hgd : o.guard = none ∨ ∃ t b, gdOf ops o = some (some (t, b)) ∧ st.tmp none t = .v (.bool b)) (hL : L.contains q = true := by rfl) (ho : o.op = .call ⟨.value (.func 23), #[x], ats⟩ := by rfl) (hd2 : okDst nt none o.dst = true := by rfl) : wpT Try.prog ops Q (Mem gS) L A (o :: rest) q a w := by
  obtain ⟨hM, hrw, hFq, hBq, g, HI, hF, hle, hbs⟩ := H
  have hw2 : Region.wanted o (yielded ops a.tmps) = true := by
    rcases hgd with h2 | ⟨t, b, e1, e2⟩
    · simp [Region.wanted, h2]
    · have h3 := tmp_sound hF (c := none) trivial t
      rw [e2] at h3
      exact (gdOf_wanted e1).2 h3.v_inv
  have hfok : Fok Try.prog 23 := ⟨_, Try.func23, by kernel_rfl, by kernel_rfl⟩
  unfold wpT
  rw [if_pos hw2, if_pos hL]
  unfold Oper.wp
  rw [run_callF hfok [x] ats ho, Oper.upon_enter]
  refine (apartX_calls (hZ.step HI) HI hF i γ e hx hb ix hix hval hun h0 hl).mono fun e w2 hp => ?_
  obtain ⟨rfl, hb2⟩ := hp
  have hI2 := HI.keep (fun k hk => hb2.block k hk) hb2.size hb2.os hb2.tape hb2.output
  have hM' := MemS hM hrw hI2 hle hbs
  refine ⟨hM', k _ _ ⟨hM', hrw, hFq.lose _, by rw [lose_bx]; exact hBq, g, ?_, hF.put (st := st) (st' := st) hd2 (fun _ => RV.v_of rfl) rfl (fun h => absurd trivial h), hle, hbs⟩⟩
  rw [(put_bx _ _ _ _).1, (put_bx _ _ _ _).2.1, (put_bx _ _ _ _).2.2]; exact hI2
/-- Bytes handed out with memory of their own. -/
theorem VE.ofC {f : FuncId} {args : List AV} {full l' : List UInt8} {n m : Nat} {fz : List Nat} (h : VX P f [] [] [] args [(.ba m, .ba l')] fz [] (.bc full n (some 0))) :
    VE P f args (fun X bx rw res => bx = [] ∧ rw = [] ∧ ∃ x : XR, X = [x] ∧ res = .v x.v ∧ x.n = n ∧ x.c = full.length ∧ x.k = full.length ∧ x.cells = full.map B8) := by
  refine ⟨h.1, fun w N vs hI hl hv => (h.2 w N vs hI hl hv).mono fun e w' hp => ?_⟩
  obtain ⟨g, v, rfl, HI, hr⟩ := hp
  have hNb : N.bx.length = 0 := hI.br.len
  have hNr : N.rw.length = 0 := by have := hI.wr; rw [List.map_eq_nil_iff] at this; rw [this]; rfl
  have hF : FR g 1 ⟨[(0, none, .bc full n (some 0))], [(.ba m, .ba l')], fz, []⟩ ⟨#[v], []⟩ :=
    ⟨rfl, rfl, fun p hp _ => by obtain rfl := List.mem_singleton.1 hp; exact hr, fun p hp hg => by obtain rfl := List.mem_singleton.1 hp; exact absurd trivial hg⟩
  obtain ⟨x, q, q1, q2, q3, q4⟩ := v_pubC0 (st := ⟨[(0, none, .bc full n (some 0))], [(.ba m, .ba l')], fz, []⟩) (X := []) HI.self (FrX.of HI.fr w.heap.size) hF (Xs.nil _ _ _) (Nat.le_refl _) [] 0 0 rfl (Nat.le_of_eq hNb) rfl rfl rfl rfl
  refine ⟨[x], [], [], .v x.v, _, v, ⟨rfl, rfl, x, rfl, rfl, q⟩, rfl, ⟨q1.mem, q2.fr (Nat.le_refl _), q1.br, fun i y hy => ?_, q1.wr, q1.wz⟩, ?_, by simpa using q4⟩
  · have := q1.br.len
    have hi := (List.getElem?_eq_some_iff.1 hy).1
    rw [this] at hi; simp at hi
  · exact q3.t _ List.mem_cons_self trivial
/-- What changes in the view alone keeps slices on their own. -/
theorem RelX.ghost (H : RelX w0.heap.size P w0 N nt st X a w) (hbl : st'.bx.length = st.bx.length) (hrw : st'.rw = st.rw)
    (k : ∀ g, Inv P w0 N g st.bx st.fz st.rw w → FR g nt st a → ∃ g', g.lex g' ∧ Inv P w0 N g' st'.bx st'.fz st'.rw w ∧ FR g' nt st' a) : RelX w0.heap.size P w0 N nt st' X a w := by
  obtain ⟨g, HI, hB, hF, hX⟩ := H
  obtain ⟨g', hl, I1, F1⟩ := k g ⟨HI.mem, hB.fr (Nat.le_refl _), HI.br, HI.fz, HI.wr, HI.wz⟩ hF
  refine ⟨g', I1.self, .of I1.fr _, F1, ⟨fun x hx => ?_, hX.un⟩⟩
  have h := hX.ok x hx
  refine ⟨h.le, h.nil, fun b hb => ?_⟩
  obtain ⟨h1, h2, h3, h4⟩ := h.own b hb
  refine ⟨fun hh => h1 ?_, h2, h3, fun o u ho hu => hl.1.ro _ _ _ (h4 o u ho hu)⟩
  rcases hh with ⟨y, hy, hyo, he⟩ | ⟨s, hs, he⟩
  · obtain ⟨i, hi⟩ := List.getElem?_of_mem hy
    have hil := (List.getElem?_eq_some_iff.1 hi).1
    rw [I1.br.len, hbl, ← HI.br.len] at hil
    obtain ⟨y', hy', q⟩ := hl.2 i g.bx[i] (List.getElem?_eq_getElem hil)
    rw [hi] at hy'; injection hy' with hy'; subst hy'
    exact .inl ⟨g.bx[i], List.getElem_mem hil, by first | exact q.2.2.2.1.symm.trans hyo | exact (q.2.2.2.1).trans hyo | simp_all, by first | exact q.1.symm.trans he | simp_all⟩
  · obtain ⟨i, hi⟩ := List.getElem?_of_mem hs
    have hw : g'.rw.map (fun r => (r.tid, r.n)) = g.rw.map (fun r => (r.tid, r.n)) := by rw [I1.wr, HI.wr, hrw]
    have hil := (List.getElem?_eq_some_iff.1 hi).1
    have hll : g'.rw.length = g.rw.length := by have := congrArg List.length hw; simpa using this
    rw [hll] at hil
    obtain ⟨r', hr', _, _, _, _, q⟩ := hl.1.rw i g.rw[i] (List.getElem?_eq_getElem hil)
    rw [hi] at hr'; injection hr' with hr'; subst hr'
    have hn := congrArg (fun l => l[i]?) hw
    simp only [List.getElem?_map, hi, List.getElem?_eq_getElem hil, Option.map_some, Option.some.injEq, Prod.mk.injEq] at hn
    have := q hn.2
    exact .inr ⟨g.rw[i], List.getElem_mem hil, by rw [← this]; exact he⟩
theorem RelX.frzB (H : RelX w0.heap.size P w0 N nt st X a w) (i j : Nat) (path : List Nat) {e γ n o : Nat} {T Tj : Ty} {x : AV} {es : List AV} (hN : N.bx.length ≤ i) (hb : st.bx[i]? = some (.vc e T, .vc γ es)) (hj : st.bx[j]? = some (Tj, x)) (hT : Tj.loc path = some (o, .sc)) (hx : x.loc path = some (.vw i γ n)) (hn : n ≤ es.length) :
    RelX w0.heap.size P w0 N nt ⟨st.t, st.bx.set j (Tj, x.put path (.sl T (es.take n) none)), i :: st.fz, st.rw⟩ X a w :=
  H.ghost (by simp) rfl fun g HI hF => v_frzB0 HI hF i j path hN hb hj hT hx hn
/-- Slots, boxes and rows are forgotten. -/
theorem RelX.to (H : RelX w0.heap.size P w0 N nt st X a w) (nb nr : Nat) (hM : N.bx.length ≤ nb ∧ N.rw.length ≤ nr) {t2 : List (Nat × Gd × AV)} {bx2 : List (Ty × AV)} {rw2 : List (TypeId × Nat)} {fz2 : List Nat} (hs : SubT t2 st.t) (hb : st.bx.take nb = bx2) (hr : st.rw.take nr = rw2) (hf : st.fz = fz2) (h1 : t2.all (fun p => low nb nr 4 p.2.2) = true) (h2 : bx2.all (fun x => low nb nr 4 x.2) = true) :
    RelX w0.heap.size P w0 N nt ⟨t2, bx2, fz2, rw2⟩ X a w := by
  subst hb hr hf
  obtain ⟨g, HI, hB, hF, hX⟩ := H
  have HI0 : Inv P w0 N g st.bx st.fz st.rw w := ⟨HI.mem, hB.fr (Nat.le_refl _), HI.br, HI.fz, HI.wr, HI.wz⟩
  have I1 := HI0.cut hM.1 hM.2 h2
  refine ⟨g.cut nb nr, I1.self, .of I1.fr _, ⟨hF.sz, hF.df, fun p hp hg => (hF.t p (hs.mem hp) hg).low_ (d := 3) (List.all_eq_true.1 h1 p hp), fun p hp hg => hF.u p (hs.mem hp) hg⟩, ⟨fun x hx => ?_, hX.un⟩⟩
  have h := hX.ok x hx
  refine ⟨h.le, h.nil, fun b hb => ⟨fun hh => (h.own b hb).1 ?_, (h.own b hb).2⟩⟩
  rcases hh with ⟨y, hy, h⟩ | ⟨s, hs, h⟩
  · exact .inl ⟨y, List.mem_of_mem_take hy, h⟩
  · exact .inr ⟨s, List.mem_of_mem_take hs, h⟩
theorem v_vw0T (H : RelT P w0 N nt gS sq st a w) (d : Nat) {i γ : Nat} (T : Ty) (hd : find d st.t = some (none, .vw i γ 0)) : RelT P w0 N nt gS sq ⟨nilT d (.sl T [] none) st.t, st.bx, st.fz, st.rw⟩ a w := by
  obtain ⟨hM, hrw, hFq, hBq, g, HI, hF, hle, hbs⟩ := H
  refine ⟨hM, hrw, hFq, hBq, g, HI, ⟨hF.sz, hF.df, fun p hp hg => ?_, fun p hp hg => by rcases nilT_mem hp with h | h; (subst h; exact absurd trivial hg); exact hF.u p h hg⟩, hle, hbs⟩
  rcases nilT_mem hp with h | h
  · subst h
    have hv := (hF.t _ (find_mem hd) trivial).vw_inv
    obtain ⟨_, y', e3, T3, A, c, hval2, hy', hty', hle2, hnc, hm, hxx⟩ := hv.vw_inv
    injection hval2 with hval2
    show RV g (.sl T [] none) _
    rw [hval2]
    exact RC.rv1 (RC.sl (es := []) (by simp) hm (fun _ => []) (.inl rfl) (fun k hk => absurd hk (Nat.not_lt_zero _)) (fun i hi => by cases hi))
  · exact hF.t p h hg
end
end Go.Proofs.Ytigmpdhnhkdeiaa
/- Bytes that were lent are as they were. -/
namespace Go.Proofs.Ytigmpdhnhkdeiaa
open Go Go.RowKit
set_option maxRecDepth 20000 in
theorem kept_v (l : List UInt8) (hl : l.length ≤ 34359738000) : VC Try.prog 22 [.bc (lentOf l) l.length none, .bs l none] [] (.v (.bool true)) := by
  have hll := lent_len l
  have e1 := lent_v l hl
  have h5 : ((l.length : Int) + 5).toNat = l.length + 5 := by omega
  have hT : (lentOf l).take (l.length + 5) = lentOf l := List.take_of_length_le (by omega)
  refine mE Try.func22 ?_; intro N w0 a w hN hR H
  refine mW ?_; clear H; intro a w H
  have hX := And.intro @h5 (And.intro @hT (And.intro @strOf_list (@beq_self_eq_true.{0})))
  refine mS ?_; refine mD 0 [6] [0, 1, 2, 3, 4, 7, 8, 9] H ?_; clear H; intro gS H; refine mT ?_; clear H; intro a w H
  refine mCallT [] [] (e1) H ?_; clear H; intro a w H
  refine mT ?_; clear H; intro a w H
  refine v_drawNil H ?_; clear H; intro H
  refine mW ?_; clear H; intro a w H
  refine wp_ret ?_; exact mEnd [] [] [.tmp 4] [_] hN hR H
end Go.Proofs.Ytigmpdhnhkdeiaa
/- Lent bytes that are on their own. -/
namespace Go.Proofs.Ytigmpdhnhkdeiaa
open Go Go.RowKit
theorem lentX_see {X : List XR} {x : XR} {b : List UInt8} (hx : x ∈ X) (h : x.n = b.length ∧ x.c = (lentOf b).length ∧ x.k = (lentOf b).length ∧ x.cells = (lentOf b).map B8) : SeeX X (.v x.v) (.bs b none) := by
  obtain ⟨h1, _, h3, h4⟩ := h
  refine .pub x b hx (by rw [h3, lent_len]; omega) h1 ?_
  rw [h4, ← List.map_take, show (lentOf b).take b.length = b by simp [lentOf]]
theorem lentX_seeC {X : List XR} {x : XR} {b : List UInt8} (hx : x ∈ X) (h : x.n = b.length ∧ x.c = (lentOf b).length ∧ x.k = (lentOf b).length ∧ x.cells = (lentOf b).map B8) : SeeX X (.v x.v) (.bc (lentOf b) b.length none) := by
  obtain ⟨h1, h2, h3, h4⟩ := h
  have := SeeX.pubc (X := X) x (lentOf b) hx (by omega) h2 h4
  rwa [h1] at this
theorem lentX_w {x : XR} {b : List UInt8} (h : x.n = b.length ∧ x.c = (lentOf b).length ∧ x.k = (lentOf b).length ∧ x.cells = (lentOf b).map B8) : XW x := by
  obtain ⟨h1, h2, h3, h4⟩ := h
  refine ⟨b, marks b.length 5, by rw [h4]; rfl, h1, ?_⟩
  rw [h2]; unfold lentOf; rw [List.length_append]
/-- Lent bytes, on their own. -/
def XT (x : XR) (b : List UInt8) : Prop := x.n = b.length ∧ x.c = (lentOf b).length ∧ x.k = (lentOf b).length ∧ x.cells = (lentOf b).map B8
theorem lent_E (l : List UInt8) (hl : l.length ≤ 34359738000) : VE Try.prog 14 [.bs l none] (fun X bx rw res => bx = [] ∧ rw = [] ∧ ∃ x : XR, X = [x] ∧ res = .v x.v ∧ XT x l) := VE.ofC (lent_v l hl)
def XTL (X : List XR) (ls : List (List UInt8)) : Prop := X.length = ls.length ∧ ∀ i (h1 : i < X.length) (h2 : i < ls.length), XT X[i] ls[i]
theorem XTL.nil : XTL [] [] := ⟨rfl, fun i h => (by cases h)⟩
theorem XTL.snoc {X : List XR} {ls : List (List UInt8)} {x : XR} {l : List UInt8} (h : XTL X ls) (hx : XT x l) : XTL (X ++ [x]) (ls ++ [l]) := by
  refine ⟨by simp [h.1], fun i h1 h2 => ?_⟩
  rw [List.length_append, List.length_singleton] at h1 h2
  by_cases hi : i < X.length
  · rw [List.getElem_append_left hi, List.getElem_append_left (by rw [← h.1]; exact hi)]; exact h.2 i hi (by rw [← h.1]; exact hi)
  · have e1 : i = X.length := by omega
    have e2 : i = ls.length := by rw [← h.1]; exact e1
    rw [List.getElem_append_right (by omega), List.getElem_append_right (by omega)]
    simp only [List.getElem_singleton]
    exact hx
theorem XTL.see {X Y : List XR} {ls : List (List UInt8)} (h : XTL X ls) (hY : ∀ x ∈ X, x ∈ Y) {T : Ty} {tok : Option Nat} : SeeX Y (.sl T (vas (X.map XR.v)) tok) (.sl T (bss ls) none) := by
  refine .sl (by rw [vas_len, List.length_map, bss_len]; exact h.1) fun i h1 h2 => ?_
  rw [vas_len, List.length_map] at h1
  rw [bss_len] at h2
  have := lentX_see (hY _ (List.getElem_mem h1)) (h.2 i h1 h2)
  simpa [vas, bss] using this
end Go.Proofs.Ytigmpdhnhkdeiaa
/- A span that is lent, its values on their own: law24.Lent. -/
namespace Go.Proofs.Ytigmpdhnhkdeiaa
open Go Go.RowKit
abbrev spT0 : Ty := ti25.ty
attribute [local irreducible] wpT
set_option maxRecDepth 20000 in
set_option maxHeartbeats 8000000 in
theorem lentS_E (s : Sp) (hs : s.wf) : VE Try.prog 13 [s.av] (fun X bx' rw' res => bx' = [] ∧ rw' = [] ∧ res = .st [.sl brT (brs s.p) none, .sl .sc (vas (X.map XR.v)) none] ∧ XTL X s.v) := by
  have hpl := brs_len s.p
  have hvl := bss_len s.v
  obtain ⟨p, v⟩ := s
  obtain ⟨w1, w2, w3, w4⟩ := id hs
  dsimp only at w1 w2 w3 w4 hpl hvl ⊢
  refine v_enterE Try.func13 rfl (by kernel_rfl) (by show 1 ≤ 29; decide) ?_
  intro N w0 a w hN hR H
  have hM : N.bx.length ≤ 0 ∧ N.rw.length ≤ 0 := ⟨hN, hR⟩
  simp only [Sp.av] at H
  refine mS ?_
  have hX := And.intro @hpl (@hvl)
  (try refine wp_region_lit ?_); refine mN 2 hN H ?_; clear H; intro a w H
  refine wpList_nil ?_
  refine mS ?_
  (try refine wp_region_lit ?_); refine mN 4 hN H ?_; clear H; intro a w H
  simp only [List.replicate_zero, List.nil_append] at H
  replace H := v_sub H 8 (x := .sl brT (brs p) (some 0)) (y := .sl brT (brs p) none) ⟨rfl, rfl⟩ rfl (fun az h => by cases h) rfl
  simp only [nilT, reduceIte, Nat.reduceEqDiff] at H
  replace H := mK [1, 2, 8] 2 0 hN hR H
  refine mW ?_; clear H; intro a w H
  replace H := v_ref H 1 0 (Nat.le_trans hN (Nat.zero_le _)) rfl rfl rfl
  simp only [nilT, strip, List.map_cons, List.map_nil, reduceIte, Nat.reduceEqDiff] at H
  replace H := v_nilVB tab_ok H 2 [1] 26 (j := ti26) rfl (by decide) rfl rfl rfl
  simp only [List.set_cons_succ, List.set_cons_zero, List.length_cons, List.length_nil, Nat.reduceAdd, List.cons_append, List.nil_append, AV.put, List.getElem?_cons_succ, List.getElem?_cons_zero] at H
  refine v_loopI (fun k a w => ∃ X : List XR, XTL X (v.take k) ∧ RelX w0.heap.size Try.prog w0 N Try.f13.ntmps ⟨[(4, none, .v (.int .i64 (k : Int))), (3, none, .ptr 2 []), (2, none, .ptr 1 []), (1, none, .ref spT0 (.st [.sl brT (brs p) none, .sl .sc (bss v) none]))],
    [(spT0, .st [.sl brT (brs p) none, .sl .sc (bss v) none]), (spT0, .st [.v (.slice none 0 0), .v (.slice none 0 0)]), (spT0, .st [.sl brT (brs p) none, .vw 3 k k]), (.vc 26 .sc, .vc k (vas (X.map XR.v)))], [0], []⟩ X a w)
    (fun k => k ≤ v.length) (fun k => v.length - k) 0 (Nat.zero_le _) ⟨[], XTL.nil, Rel.toX (by exact H.to 4 0 ⟨Nat.le_trans hN (Nat.zero_le _), Nat.le_trans hR (Nat.zero_le _)⟩ ⟨rfl, rfl, rfl, rfl, trivial⟩ rfl rfl rfl rfl rfl) _⟩ ?_
  clear H hN hR
  rintro k a w1 hk ⟨X, hT, H⟩
  obtain ⟨N1, hB, hZ, H, hN1, hR1⟩ := H.open_
  have hN : N1.bx.length ≤ 4 := Nat.le_of_eq hN1
  have hR : N1.rw.length ≤ 0 := Nat.le_of_eq hR1
  clear hN1 hR1
  have hXl : X.length = k := by have := hT.1; rw [List.length_take] at this; omega
  have hval : (vas (X.map XR.v)).length = k := by rw [vas_len, List.length_map]; exact hXl
  clear hX; have hX := And.intro @hpl (And.intro @hvl (@hval))
  refine mW ?_; clear H; intro a w H
  refine mC H (fun hb => ?_) (fun hb => ?_)
  · have hlt : k < v.length := by rw [decide_eq_true_eq] at hb; omega
    clear hb
    have hg := bss_get v k hlt
    have hle := lent_E v[k] (by have := w4 _ (List.getElem_mem hlt); omega)
    have htk : v.take (k + 1) = v.take k ++ [v[k]] := List.take_succ_eq_append_getElem hlt
    generalize v[k] = u at *
    refine mS ?_
    clear hX; have hX := And.intro @hpl (And.intro @hvl (And.intro @hval (@hg)))
    replace H := mK [1, 2, 3, 4] 4 0 hN hR H
    repeat (first | refine wp_seq ?_ | refine wp_block ?_)
    refine v_drawZ 0 [0, 2, 3, 4, 5, 6, 1, 7, 8, 9, 10, 11] [1, 7, 8, 9, 11] [0, 2, 3, 4, 5, 6] [(1, 7), (1, 8), (1008, 7)] (by kernel_rfl) (by kernel_rfl) (by kernel_rfl) (by kernel_rfl) (by kernel_rfl) H (by rfl) ?_; clear H; intro gS H; try replace H := ntf H
    repeat' ((first | refine wpZ_q1 rfl rfl ?_ | refine wpZ_l1 rfl rfl rfl ?_ | refine wpZ_l2 rfl rfl rfl rfl rfl ?_ ?_ | refine wpZ_l3 rfl rfl rfl rfl rfl rfl rfl ?_ ?_ ?_ | refine wpZ_l4 rfl rfl rfl rfl rfl rfl rfl rfl rfl ?_ ?_ ?_ ?_) <;> ((first | (refine wpT_at 7 ?_; refine v_callET hle hB (Nat.le_refl _) hZ H (by rintro Y bx' rw' res ⟨rfl, rfl, x, rfl, rfl, _⟩; exact ⟨rfl, rfl⟩) ?_; clear H; rintro Y bx' rw' res a w ⟨rfl, rfl, x, rfl, rfl, hx⟩ H; replace H := nfXT H; clear hB hZ hN hR; obtain ⟨N2, hB, hZ, H, hN2, hR2⟩ := H.open_; have hN : N2.bx.length ≤ 4 := Nat.le_of_eq hN2; have hR : N2.rw.length ≤ 0 := Nat.le_of_eq hR2; clear hN2 hR2) | (refine v_someT 1 tab_ok hN H rfl ctX ?_; clear H; intro a w H; replace H := ntf H; simp only [List.drop_succ_cons, List.drop_zero, List.drop_nil])); refine wpT_nil ?_; try dsimp only))
    all_goals (refine wpZ_nil ?_; replace H := RelT.toRel H)
    all_goals
      have t1 : List.take k (vas (X.map XR.v)) ++ [.v x.v] = vas ((X ++ [x]).map XR.v) := by rw [List.take_of_length_le (by omega)]; simp [vas]
      rw [t1] at H
      refine mW ?_; clear H; intro a w H
      rw [show (k : Int) + 1 = ((k + 1 : Nat) : Int) by omega] at H
      exact ⟨k + 1, hlt, by omega, X ++ [x], by rw [htk]; exact hT.snoc hx, RelX.close hB hZ (by exact H.to 4 0 ⟨hN, hR⟩ ⟨rfl, rfl, rfl, rfl, trivial⟩ rfl rfl rfl rfl rfl)⟩
  · have hge : k = v.length := by rw [decide_eq_false_iff_not] at hb; omega
    subst hge
    clear hb hN hR
    rw [List.take_length] at hT
    replace H := RelX.close hB hZ H
    clear hB hZ
    replace H := H.frzB 3 2 [1] (Nat.le_trans hM.1 (Nat.zero_le _)) rfl rfl rfl rfl (by omega)
    simp only [AV.put, List.set_cons_succ, List.set_cons_zero, List.getElem?_cons_succ, List.getElem?_cons_zero, List.take_of_length_le (Nat.le_of_eq hval)] at H
    obtain ⟨N1, hB, hZ, H, hN1, hR1⟩ := H.open_
    have hN : N1.bx.length ≤ 4 := Nat.le_of_eq hN1
    have hR : N1.rw.length ≤ 0 := Nat.le_of_eq hR1
    clear hN1 hR1
    refine mW ?_; clear H; intro a w H
    replace H := nf H
    refine wp_ret ?_
    exact v_endE (bx' := []) (rs := [.cell 2 25]) (ress := [_]) (nb := 0) (nr := 0) [] [] tab_ok hM rfl (RelX.close hB hZ H) (by rfl) (by rfl) cbX (by rfl) ⟨sub_refl _ _, trivial⟩ rfl ⟨rfl, rfl, rfl, hT⟩
end Go.Proofs.Ytigmpdhnhkdeiaa
/- Spans that are the same, spans that are kept. -/
namespace Go.Proofs.Ytigmpdhnhkdeiaa
open Go Go.RowKit
theorem brs_get (l : List Br) (i : Nat) (h : i < l.length) : (brs l).getD i .any = l[i].av := by simp [brs, List.getD_eq_getElem?_getD, h]
attribute [local irreducible] wpT
set_option maxRecDepth 20000 in
set_option maxHeartbeats 4000000 in
theorem sameSp_v (s : Sp) (hs : s.wf) : VC Try.prog 20 [s.av, s.av] [] (.v (.bool true)) := by
  have hpl := brs_len s.p
  have hvl := bss_len s.v
  obtain ⟨p, v⟩ := s
  obtain ⟨w1, w2, w3, w4⟩ := id hs
  dsimp only at w1 w2 w3 w4 hpl hvl
  refine mE Try.func20 ?_; intro N w0 a w hN hR H
  simp only [Sp.av] at H
  have hX := And.intro @hpl (@hvl)
  refine mW ?_; clear H; intro a w H
  refine mC H (fun hb => ?_) (fun hb => ?_)
  · simp at hb
  · clear hb
    refine mS ?_
    replace H := mK [2, 3, 4] 2 0 hN hR H
    refine mW ?_; clear H; intro a w H
    refine v_loop (fun i : Nat => ⟨[(5, none, .v (.int .i64 (i : Int))), (4, none, .v (.bool false)), (3, none, .ptr 1 []), (2, none, .ptr 0 [])], [(spT0, .st [.sl brT (brs p) none, .sl .sc (bss v) none]), (spT0, .st [.sl brT (brs p) none, .sl .sc (bss v) none])], [], []⟩)
      (fun i => i ≤ p.length) (fun i => p.length - i) 0 (Nat.zero_le _) (H.to 2 0 ⟨Nat.le_trans hN (Nat.zero_le _), hR⟩ ⟨rfl, rfl, rfl, rfl, trivial⟩ rfl rfl rfl rfl rfl) ?_
    clear H
    intro i a w hi H
    refine mW ?_; clear H; intro a w H
    refine mC H (fun hb => ?_) (fun hb => ?_)
    · have hlt : i < p.length := by rw [decide_eq_true_eq] at hb; omega
      clear hb
      have hg := brs_get p i hlt
      obtain ⟨b1, b2, b3⟩ := w1 _ (List.getElem_mem hlt)
      generalize p[i] = b at *
      obtain ⟨bk, bkey, bv, bg⟩ := b
      simp only [Br.av] at hg
      dsimp only at b1 b2 b3
      clear hX; have hX := And.intro @hpl (And.intro @hvl (And.intro @hg (And.intro @b1 (And.intro @b2 (@b3)))))
      refine mS ?_; refine mD 2 [] [] H ?_; clear H; intro gS H
      refine mTN 4 hN H ?_; clear H; intro a w H; simp only [List.drop_succ_cons, List.drop_zero, List.drop_nil]
      refine mTN 5 hN H ?_; clear H; intro a w H; simp only [List.drop_succ_cons, List.drop_zero, List.drop_nil]
      refine mT ?_; clear H; intro a w H
      refine v_drawNil H ?_; clear H; intro H
      refine mC H (fun hb => ?_) (fun hb => ?_)
      · simp at hb
      · clear hb
        refine mS ?_
        replace H := mK [2, 3, 4, 5] 2 0 hN hR H
        refine mW ?_; clear H; intro a w H
        rw [show (i : Int) + 1 = ((i + 1 : Nat) : Int) by omega] at H
        exact ⟨i + 1, hlt, by omega, H.to 2 0 ⟨Nat.le_trans hN (Nat.zero_le _), hR⟩ ⟨rfl, rfl, rfl, rfl, trivial⟩ rfl rfl rfl rfl rfl⟩
    · clear hb
      refine mW ?_; clear H; intro a w H
      refine v_loop (fun i : Nat => ⟨[(6, none, .v (.int .i64 (i : Int))), (4, none, .v (.bool false)), (3, none, .ptr 1 []), (2, none, .ptr 0 [])], [(spT0, .st [.sl brT (brs p) none, .sl .sc (bss v) none]), (spT0, .st [.sl brT (brs p) none, .sl .sc (bss v) none])], [], []⟩)
        (fun i => i ≤ v.length) (fun i => v.length - i) 0 (Nat.zero_le _) (H.to 2 0 ⟨Nat.le_trans hN (Nat.zero_le _), hR⟩ ⟨rfl, rfl, rfl, rfl, trivial⟩ rfl rfl rfl rfl rfl) ?_
      clear H
      intro j a w hj H
      refine mW ?_; clear H; intro a w H
      refine mC H (fun hb => ?_) (fun hb => ?_)
      · have hlt : j < v.length := by rw [decide_eq_true_eq] at hb; omega
        clear hb
        have hg := bss_get v j hlt
        have hsm := same_v v[j] v[j]
        rw [beq_self_eq_true] at hsm
        generalize v[j] = u at *
        clear hX; have hX := And.intro @hpl (And.intro @hvl (@hg))
        refine mS ?_; refine mD 2 [10] [] H ?_; clear H; intro gS H
        refine mTN 4 hN H ?_; clear H; intro a w H; simp only [List.drop_succ_cons, List.drop_zero, List.drop_nil]
        refine mTN 5 hN H ?_; clear H; intro a w H; simp only [List.drop_succ_cons, List.drop_zero, List.drop_nil]
        refine mTN 1 hN H ?_; clear H; intro a w H; simp only [List.drop_succ_cons, List.drop_zero, List.drop_nil]
        refine mCallT [] [] (hsm) H ?_; clear H; intro a w H
        refine mT ?_; clear H; intro a w H
        refine v_drawNil H ?_; clear H; intro H
        refine mC H (fun hb => ?_) (fun hb => ?_)
        · exact absurd hb (by decide)
        · clear hb
          refine mS ?_
          replace H := mK [2, 3, 4, 6] 2 0 hN hR H
          refine mW ?_; clear H; intro a w H
          rw [show (j : Int) + 1 = ((j + 1 : Nat) : Int) by omega] at H
          exact ⟨j + 1, hlt, by omega, H.to 2 0 ⟨Nat.le_trans hN (Nat.zero_le _), hR⟩ ⟨rfl, rfl, rfl, rfl, trivial⟩ rfl rfl rfl rfl rfl⟩
      · clear hb
        refine mW ?_; clear H; intro a w H
        refine wp_ret ?_; exact mEnd [] [] [.tmp 4] [_] hN hR H
/-- Lent bytes in a list. -/
def bcs (l : List (List UInt8)) : List AV := l.map fun b => .bc (lentOf b) b.length none
theorem bcs_len (l : List (List UInt8)) : (bcs l).length = l.length := by simp [bcs]
theorem bcs_get (l : List (List UInt8)) (i : Nat) (h : i < l.length) : (bcs l).getD i .any = .bc (lentOf l[i]) l[i].length none := by simp [bcs, List.getD_eq_getElem?_getD, h]
theorem bcs_see (l : List (List UInt8)) {T : Ty} {tok : Option Nat} {X : List XR} : SeeX X (.sl T (bcs l) tok) (.sl T (bss l) none) := by
  refine .sl (by rw [bcs_len, bss_len]) fun i h1 h2 => ?_
  have : SeeX X (.bc (lentOf (l[i]'(by simpa [bcs_len] using h1))) (l[i]'(by simpa [bcs_len] using h1)).length none) (.bs (l[i]'(by simpa [bcs_len] using h1)) none) := .bc _ _ _ _ (by simp [lentOf])
  simpa [bcs, bss] using this
set_option maxRecDepth 20000 in
theorem keptSp_v (s : Sp) (hs : s.wf) : VC Try.prog 21 [.st [.sl brT (brs s.p) none, .sl .sc (bcs s.v) none], s.av] [] (.v (.bool true)) := by
  have hpl := brs_len s.p
  have hvl := bss_len s.v
  have hcl := bcs_len s.v
  have hsa := sameSp_v s hs
  have hse := bcs_see s.v (T := .sc) (tok := none) (X := [])
  obtain ⟨p, v⟩ := s
  obtain ⟨w1, w2, w3, w4⟩ := id hs
  dsimp only at w1 w2 w3 w4 hpl hvl hcl hse
  simp only [Sp.av] at hsa ⊢
  refine mE Try.func21 ?_; intro N w0 a w hN hR H
  have hX := And.intro @hpl (And.intro @hvl (@hcl))
  refine mW ?_; clear H; intro a w H
  refine v_loop (fun i : Nat => ⟨[(5, none, .v (.int .i64 (i : Int))), (4, none, .v (.bool false)), (3, none, .ptr 1 []), (2, none, .ptr 0 [])], [(spT0, .st [.sl brT (brs p) none, .sl .sc (bcs v) none]), (spT0, .st [.sl brT (brs p) none, .sl .sc (bss v) none])], [], []⟩)
    (fun i => i ≤ v.length) (fun i => v.length - i) 0 (Nat.zero_le _) (H.to 2 0 ⟨Nat.le_trans hN (Nat.zero_le _), hR⟩ ⟨rfl, rfl, rfl, rfl, trivial⟩ rfl rfl rfl rfl rfl) ?_
  clear H
  intro j a w hj H
  refine mW ?_; clear H; intro a w H
  refine mC H (fun hb => ?_) (fun hb => ?_)
  · have hlt : j < v.length := by
      cases hd : decide ((j : Int) < (v.length : Int))
      · rw [hd] at hb; cases hb
      · rw [decide_eq_true_eq] at hd; omega
    clear hb
    have hg := bss_get v j hlt
    have hg2 := bcs_get v j hlt
    have hkp := kept_v v[j] (by have := w4 _ (List.getElem_mem hlt); omega)
    generalize v[j] = u at *
    refine mS ?_
    clear hX; have hX := And.intro @hpl (And.intro @hvl (And.intro @hcl (And.intro @hg (@hg2))))
    replace H := mK [2, 3, 4, 5] 2 0 hN hR H
    refine mS ?_; refine mD 2 [10] [] H ?_; clear H; intro gS H
    refine mTN 4 hN H ?_; clear H; intro a w H; simp only [List.drop_succ_cons, List.drop_zero, List.drop_nil]
    refine mTN 5 hN H ?_; clear H; intro a w H; simp only [List.drop_succ_cons, List.drop_zero, List.drop_nil]
    refine mTN 1 hN H ?_; clear H; intro a w H; simp only [List.drop_succ_cons, List.drop_zero, List.drop_nil]
    refine mCallT [] [] (hkp) H ?_; clear H; intro a w H
    refine mT ?_; clear H; intro a w H
    refine v_drawNil H ?_; clear H; intro H
    refine mC H (fun hb => ?_) (fun hb => ?_)
    · exact absurd hb (by decide)
    · clear hb
      refine mS ?_
      replace H := mK [2, 3, 4, 5] 2 0 hN hR H
      refine mW ?_; clear H; intro a w H
      rw [show (j : Int) + 1 = ((j + 1 : Nat) : Int) by omega] at H
      exact ⟨j + 1, hlt, by omega, H.to 2 0 ⟨Nat.le_trans hN (Nat.zero_le _), hR⟩ ⟨rfl, rfl, rfl, rfl, trivial⟩ rfl rfl rfl rfl rfl⟩
  · clear hb
    refine mS ?_
    replace H := mK [2, 3, 4] 2 0 hN hR H
    refine mW ?_; clear H; intro a w H
    replace H := v_seeX (Xs.nil 0 N w0) H 32 (x := .st [.sl brT (brs p) none, .sl .sc (bcs v) none]) (.st [.sl brT (brs p) none, .sl .sc (bss v) none]) (.st rfl fun i h1 h2 => by
      match i, h1 with
      | 0, _ => exact .refl _
      | 1, _ => exact hse) rfl
    simp only [nilT, reduceIte, Nat.reduceEqDiff] at H
    refine mCall [] [] (hsa) H ?_; clear H; intro a w H; try refine wpList_nil ?_
    refine mW ?_; clear H; intro a w H
    refine wp_ret ?_; exact mEnd [] [] [.tmp 4] [_] hN hR H
end Go.Proofs.Ytigmpdhnhkdeiaa
/- The entries that are read of a span, their values on their own: span.Read. -/
namespace Go.Proofs.Ytigmpdhnhkdeiaa
open Go Go.RowKit
/-- Entries whose values are slices on their own. -/
def pxs (Z : List Pr) (X : List XR) : List AV := List.zipWith (fun z x => .st [.ba z.1, .v x.v]) Z X
theorem pxs_len (Z : List Pr) (X : List XR) (h : X.length = Z.length) : (pxs Z X).length = Z.length := by simp [pxs, h]
theorem pxs_snoc (Z : List Pr) (X : List XR) (h : X.length = Z.length) (z : Pr) (x : XR) : pxs (Z ++ [z]) (X ++ [x]) = pxs Z X ++ [.st [.ba z.1, .v x.v]] := by
  unfold pxs; rw [List.zipWith_append h.symm]; rfl
def spZ (root fr to : List UInt8) (s : Sp) : List Pr := if spRE root fr to s = 0 then spL fr to s else []
attribute [local irreducible] wpT
set_option maxRecDepth 20000 in
set_option maxHeartbeats 8000000 in
theorem sread_E (root fr to : List UInt8) (hr0 : root.length = 32) (h1 : fr.length = 32) (h2 : to.length = 32) (s : Sp) (hs : s.wf) :
    VE Try.prog 40 [.ba root, .ba fr, .ba to, s.av] (fun X bx' rw' res => bx' = [] ∧ rw' = [] ∧ res = .tup [.sl prT (pxs (spZ root fr to s) X) none, errv (spRE root fr to s)] ∧ XL X ((spZ root fr to s).map (·.2))) := by
  have hr := sread_v fr to fr h1 h2 h1 s hs
  have hl := spH_len fr to fr s hs
  have hw1 := brs_len s.p
  have hw2 := bss_len s.v
  have hrg := spE_rng fr to fr s
  have hkv : spE fr to fr s = 0 → (spRS fr to fr s).1.ks.length = s.v.length ∧ ∀ i, i < s.v.length → (s.v.getD i []).length ≤ 1024 := fun he => by
    unfold spE at he
    split at he
    · cases he
    · split at he
      · cases he
      · split at he
        · rename_i h; obtain ⟨q1, q2⟩ := (spV_iff _ _).1 h.2.2; exact ⟨q1, fun i hi => (q2 i hi).1⟩
        · cases he
  have hk32 := (spRS_wf fr to fr s hs).ks
  have hlv := hs.lv
  unfold spZ spRE spL
  unfold spH at hl ⊢
  generalize spE fr to fr s = e at *
  generalize hh : (if e = 0 then (spRS fr to fr s).2.1 else z32) = h at *
  obtain ⟨⟨⟨xr, xk, xd, xs, xe⟩, xh, xo⟩, hx⟩ : ∃ x, x = spRS fr to fr s := ⟨_, rfl⟩
  rw [← hx] at hr hkv hk32 ⊢
  dsimp only [sprA] at hr hkv hk32 ⊢
  obtain ⟨p, v⟩ := s
  dsimp only at hw1 hw2 hkv hlv
  simp only [Sp.av] at hr ⊢
  clear hx hh hs
  refine v_enterE Try.func40 rfl (by kernel_rfl) (by show 4 ≤ 58; decide) ?_
  intro N w0 a w hN hR H
  have hM : N.bx.length ≤ 0 ∧ N.rw.length ≤ 0 := ⟨hN, hR⟩
  by_cases he : e = 0
  · rw [if_pos he] at hr ⊢
    obtain ⟨hk, hv⟩ := hkv he
    have hkl := bas_len xk
    have hX := And.intro @hl (And.intro @hr0 (And.intro @h1 (And.intro @h2 (@hkl))))
    refine mW ?_; clear H; intro a w H
    refine mCall [] [] (hr) H ?_; clear H; intro a w H; try refine wpList_nil ?_
    refine mW ?_; clear H; intro a w H
    refine mC H (fun hb => ?_) (fun hb => ?_)
    · rw [he] at hb; exact absurd hb (by decide)
    · clear hb
      refine mW ?_; clear H; intro a w H
      refine mC H (fun hb => ?_) (fun hb => ?_)
      · have hne : h ≠ root := by simpa using hb
        rw [if_neg hne, if_neg (by decide)]
        refine mW ?_; clear H; intro a w H
        replace H := nf H
        refine wp_ret ?_
        exact v_endE (bx' := []) (rs := [.tmp 8, .tmp 9]) (ress := [.sl prT [] none, errv 11]) (nb := 0) (nr := 0) [] [] tab_ok hM rfl (H.toX _) (by rfl) (by rfl) cbX (by rfl) ⟨rfl, sub_refl _ _, trivial⟩ rfl ⟨rfl, rfl, rfl, XL.nil⟩
      · have heq : h = root := by simpa using hb
        rw [if_pos heq, if_pos rfl]
        clear hb
        refine mW ?_; clear H; intro a w H
        replace H := v_nilE tab_ok H 13 120 prT (j := ti120) rfl (by decide) rfl
        simp only [nilT, reduceIte, Nat.reduceEqDiff, List.length_nil, List.nil_append] at H
        refine v_loopI (fun i a w => ∃ X : List XR, XL X (((xk.zip v).take i).map (·.2)) ∧ RelX w0.heap.size Try.prog w0 N Try.f40.ntmps ⟨[(41, none, .v (.int .i64 (i : Int))), (40, none, .v (.int .i64 (xk.length : Int))), (39, none, .sl (.ba 32) (bas xk) none), (14, none, .sl .sc (bss (v.drop i)) none), (13, none, .sl prT (pxs ((xk.zip v).take i) X) (some 0))],
          [(.ba 32, .ba root), (.ba 32, .ba fr), (.ba 32, .ba to), (ti25.ty, .st [.sl brT (brs p) none, .sl .sc (bss v) none]), (.ba 32, .ba h)], [], [(120, i)]⟩ X a w)
          (fun i => i ≤ xk.length) (fun i => xk.length - i) 0 (Nat.zero_le _)
          ⟨[], XL.nil, Rel.toX (by exact H.to 5 1 ⟨Nat.le_trans hN (Nat.zero_le _), Nat.le_trans hR (Nat.zero_le _)⟩ ⟨rfl, rfl, rfl, rfl, rfl, trivial⟩ rfl rfl rfl rfl rfl) _⟩ ?_
        clear H hN hR
        rintro i a w1 hi ⟨X, hT, H⟩
        obtain ⟨N1, hB, hZ, H, hN1, hR1⟩ := H.open_
        have hN : N1.bx.length ≤ 5 := Nat.le_of_eq hN1
        have hR : N1.rw.length ≤ 1 := Nat.le_of_eq hR1
        clear hN1 hR1
        refine mW ?_; clear H; intro a w H
        refine mC H (fun hb => ?_) (fun hb => ?_)
        · have hlt : i < xk.length := by rw [decide_eq_true_eq] at hb; omega
          clear hb
          have g1 := bas_get xk i hlt
          have q1 := hk32 _ (List.getElem_mem hlt)
          have hvl : i < v.length := by omega
          have e1 : bss (v.drop i) = .bs v[i] none :: bss (v.drop (i + 1)) := by rw [List.drop_eq_getElem_cons hvl]; rfl
          have q2 : v[i].length ≤ 1024 := by
            have := hv i hvl
            rwa [List.getD_eq_getElem?_getD, List.getElem?_eq_getElem hvl] at this
          rw [e1] at H
          have hdl : (bss (v.drop (i + 1))).length = v.length - (i + 1) := by rw [bss_len, List.length_drop]
          have hz : i < (xk.zip v).length := by rw [List.length_zip]; omega
          have e2 : (xk.zip v).take (i + 1) = (xk.zip v).take i ++ [(xk[i], v[i])] := by rw [List.take_succ_eq_append_getElem hz, List.getElem_zip]
          have hTl : X.length = ((xk.zip v).take i).length := by have := hT.1; rwa [List.length_map] at this
          have hol : (pxs ((xk.zip v).take i) X).length = i := by rw [pxs_len _ _ hTl, List.length_take]; omega
          generalize v[i] = vi at *
          generalize xk[i] = ki at *
          have e3 := fun x => pxs_snoc ((xk.zip v).take i) X hTl (ki, vi) x
          rw [← e2] at e3
          generalize pxs ((xk.zip v).take i) X = o at *
          refine mS ?_
          clear hX; have hX := And.intro @hl (And.intro @hr0 (And.intro @h1 (And.intro @h2 (And.intro @hkl (And.intro @g1 (And.intro @q1 (And.intro @hdl (@hol))))))))
          (try refine wp_region_lit ?_); refine mN 2 hN H ?_; clear H; intro a w H
          refine mW ?_; clear H; intro a w H
          refine mS ?_; refine mD 6 [5, 7, 8] [0, 1] H ?_; clear H; intro gS H
          refine mTN 5 hN H ?_; clear H; intro a w H; simp only [List.drop_succ_cons, List.drop_zero, List.drop_nil]
          refine mTN 1 hN H ?_; clear H; intro a w H; simp only [List.drop_succ_cons, List.drop_zero, List.drop_nil]
          obtain ⟨x, hx, HX⟩ := v_pubT (RelXT.close hB hZ H) (Nat.le_refl _) [13, 14, 16, 39, 40, 41, 45, 46] 50 1 5 rfl (Nat.le_trans hM.2 (Nat.zero_le _)) rfl rfl (Nat.le_of_ble_eq_true rfl) rfl rfl
          clear H hB hZ hN hR
          replace HX := HX.cast (st' := ⟨[(50, none, .v x.v), (46, none, .ba ki), (45, none, .sl prT o (some 0)), (16, none, .ptr 5 []), (41, none, .v (.int .i64 (i : Int))), (40, none, .v (.int .i64 (xk.length : Int))), (39, none, .sl (.ba 32) (bas xk) none), (14, none, .sl .sc (.bs vi none :: bss (List.drop (i + 1) v)) none), (13, none, .sl prT o (some 0))],
            [(.ba 32, .ba root), (.ba 32, .ba fr), (.ba 32, .ba to), (ti25.ty, .st [.sl brT (brs p) none, .sl .sc (bss v) none]), (.ba 32, .ba h), (.ba 32, .ba ki)], [], [(120, i)]⟩) rfl rfl
          obtain ⟨N2, hB, hZ, H, hN2, hR2⟩ := HX.open_
          clear HX
          have hN : N2.bx.length ≤ 6 := Nat.le_of_eq hN2
          have hR : N2.rw.length ≤ 1 := Nat.le_of_eq hR2
          clear hN2 hR2
          refine mT ?_; clear H; intro a w H
          refine v_drawNil H ?_; clear H; intro H
          refine mW ?_; clear H; intro a w H
          rw [← e3, show (i : Int) + 1 = ((i + 1 : Nat) : Int) by omega] at H
          exact ⟨i + 1, hlt, by omega, X ++ [x], by rw [e2, List.map_append]; exact hT.snoc hx, (RelX.close hB hZ H).to 5 1 ⟨Nat.le_trans hM.1 (Nat.zero_le _), Nat.le_trans hM.2 (Nat.zero_le _)⟩ ⟨rfl, rfl, rfl, rfl, rfl, trivial⟩ rfl rfl rfl rfl rfl⟩
        · have hge : i = xk.length := by rw [decide_eq_false_iff_not] at hb; omega
          subst hge
          have e2 : (xk.zip v).take xk.length = xk.zip v := List.take_of_length_le (by rw [List.length_zip]; omega)
          rw [e2] at H hT
          refine mW ?_; clear H; intro a w H
          replace H := nf H
          refine wp_ret ?_
          exact v_endE (bx' := []) (rs := [.tmp 8, .tmp 9]) (ress := [.sl prT (pxs (xk.zip v) X) none, errv 0]) (nb := 0) (nr := 0) [] [] tab_ok hM rfl (RelX.close hB hZ H) (by rfl) (by rfl) cbX (by rfl) ⟨⟨rfl, rfl⟩, sub_refl _ _, trivial⟩ rfl ⟨rfl, rfl, rfl, hT⟩
  · rw [if_neg he] at hr ⊢
    rw [if_neg he]
    have hd : (!decide (e = 0)) = true := by rw [decide_eq_false he]; rfl
    have hX := And.intro @hl (And.intro @hr0 (And.intro @h1 (@h2)))
    refine mW ?_; clear H; intro a w H
    refine mCall [] [] (hr) H ?_; clear H; intro a w H; try refine wpList_nil ?_
    refine mW ?_; clear H; intro a w H
    refine mC H (fun hb => ?_) (fun hb => ?_)
    · refine mW ?_; clear H; intro a w H
      replace H := nf H
      refine wp_ret ?_
      exact v_endE (bx' := []) (rs := [.tmp 8, .tmp 9]) (ress := [.sl prT [] none, errv e]) (nb := 0) (nr := 0) [] [] tab_ok hM rfl (H.toX _) (by rfl) (by rfl) cbX (by rfl) ⟨rfl, sub_refl _ _, trivial⟩ rfl ⟨rfl, rfl, rfl, XL.nil⟩
    · rw [hd] at hb; cases hb
end Go.Proofs.Ytigmpdhnhkdeiaa
/- Entries that are the same; the values of entries, each on its own. -/
namespace Go.Proofs.Ytigmpdhnhkdeiaa
open Go Go.RowKit
theorem prs_get (l : List Pr) (i : Nat) (h : i < l.length) : (l.map prA).getD i .any = .st [.ba l[i].1, .bs l[i].2 none] := by simp [prA, List.getD_eq_getElem?_getD, h]
theorem pxs_get (Z : List Pr) (X : List XR) (h : X.length = Z.length) (i : Nat) (hi : i < Z.length) : (pxs Z X).getD i .any = .st [.ba Z[i].1, .v (X[i]'(by omega)).v] := by
  rw [List.getD_eq_getElem?_getD, List.getElem?_eq_getElem (by rw [pxs_len Z X h]; exact hi)]
  simp [pxs]
theorem pxs_see {X Y : List XR} {Z : List Pr} (h : XL X (Z.map (·.2))) (hY : ∀ x ∈ X, x ∈ Y) {T : Ty} {tok : Option Nat} : SeeX Y (.sl T (pxs Z X) tok) (.sl T (Z.map prA) none) := by
  have hl : X.length = Z.length := by have := h.1; rwa [List.length_map] at this
  refine .sl (by rw [pxs_len Z X hl, List.length_map]) fun i h1 h2 => ?_
  rw [pxs_len Z X hl] at h1
  have hx := h.2 i (by omega) (by rw [List.length_map]; exact h1)
  rw [List.getElem_map] at hx
  have hs := hx.see (hY _ (List.getElem_mem (show i < X.length by omega)))
  have e : (pxs Z X)[i]'(by rw [pxs_len Z X hl]; exact h1) = .st [.ba Z[i].1, .v (X[i]'(by omega)).v] := by simp [pxs]
  rw [e, List.getElem_map]
  refine .st rfl fun k k1 k2 => ?_
  match k, k1 with
  | 0, _ => exact .refl _
  | 1, _ => exact hs
attribute [local irreducible] wpT
set_option maxRecDepth 20000 in
theorem samePr_v (l : List Pr) (hk : ∀ z ∈ l, z.1.length = 32) (hl : l.length ≤ 34359730000) : VC Try.prog 42 [.sl prT (l.map prA) none, .sl prT (l.map prA) none] [] (.v (.bool true)) := by
  have hml : (l.map prA).length = l.length := List.length_map ..
  have hgt := prs_get l
  generalize l.map prA = es at *
  refine mE Try.func42 ?_; intro N w0 a w hN hR H
  have hX := @hml
  refine mW ?_; clear H; intro a w H
  refine mC H (fun hb => ?_) (fun hb => ?_)
  · simp at hb
  · clear hb
    refine mW ?_; clear H; intro a w H
    refine v_loop (fun i : Nat => ⟨[(5, none, .v (.int .i64 (i : Int))), (4, none, .v (.bool false)), (0, none, .sl prT es none), (1, none, .sl prT es none)], [], [], []⟩) (fun i => i ≤ l.length) (fun i => l.length - i) 0 (Nat.zero_le _)
      (H.to 0 0 ⟨hN, hR⟩ ⟨rfl, rfl, rfl, rfl, trivial⟩ rfl rfl rfl rfl rfl) ?_
    clear H
    intro i a w hi H
    refine mW ?_; clear H; intro a w H
    refine mC H (fun hb => ?_) (fun hb => ?_)
    · have hlt : i < l.length := by rw [decide_eq_true_eq] at hb; omega
      clear hb
      have hg := hgt i hlt
      have hz := hk _ (List.getElem_mem hlt)
      have hsm := same_v l[i].2 l[i].2
      rw [beq_self_eq_true] at hsm
      generalize l[i] = z at *
      obtain ⟨zk, zv⟩ := z
      dsimp only at hg hz hsm
      refine mS ?_
      clear hX; have hX := And.intro @hml (And.intro @hg (@hz))
      replace H := mK [0, 1, 4, 5] 0 0 hN hR H
      refine mS ?_; refine mD 0 [22] [] H ?_; clear H; intro gS H
      refine mTN 3 hN H ?_; clear H; intro a w H; simp only [List.drop_succ_cons, List.drop_zero, List.drop_nil]
      refine mTN 5 hN H ?_; clear H; intro a w H; simp only [List.drop_succ_cons, List.drop_zero, List.drop_nil]
      refine mTN 4 hN H ?_; clear H; intro a w H; simp only [List.drop_succ_cons, List.drop_zero, List.drop_nil]
      refine mTN 3 hN H ?_; clear H; intro a w H; simp only [List.drop_succ_cons, List.drop_zero, List.drop_nil]
      refine mTN 5 hN H ?_; clear H; intro a w H; simp only [List.drop_succ_cons, List.drop_zero, List.drop_nil]
      refine mTN 2 hN H ?_; clear H; intro a w H; simp only [List.drop_succ_cons, List.drop_zero, List.drop_nil]
      refine mCallTG [] [] (hsm) H ?_; clear H; intro a w H
      refine mT ?_; clear H; intro a w H
      refine v_drawNil H ?_; clear H; intro H
      refine mC H (fun hb => ?_) (fun hb => ?_)
      · exact absurd hb (by decide)
      · clear hb
        refine mS ?_
        replace H := mK [0, 1, 4, 5] 0 0 hN hR H
        refine mW ?_; clear H; intro a w H
        rw [show (i : Int) + 1 = ((i + 1 : Nat) : Int) by omega] at H
        exact ⟨i + 1, hlt, by omega, H.to 0 0 ⟨hN, hR⟩ ⟨rfl, rfl, rfl, rfl, trivial⟩ rfl rfl rfl rfl rfl⟩
    · clear hb
      refine mW ?_; clear H; intro a w H
      refine wp_ret ?_; exact mEnd [] [] [.tmp 4] [_] hN hR H
set_option maxRecDepth 20000 in
/-- The values of one list of entries. -/
theorem valuesOf_v (Z : List Pr) (X : List XR) (h : X.length = Z.length) (hl : Z.length ≤ 100000) :
    VX Try.prog 43 [] [] [] [.sl .sc [.sl prT (pxs Z X) none] none] [(.vc 26 .sc, .vc X.length (vas (X.map XR.v)))] [] [] (.vw 0 X.length X.length) := by
  have hpl := pxs_len Z X h
  have hgt := pxs_get Z X h
  generalize pxs Z X = es at *
  refine mE Try.func43 ?_; intro N w0 a w hN hR H
  have hX := @hpl
  refine mW ?_; clear H; intro a w H
  replace H := v_nilV tab_ok H 3 26 (j := ti26) rfl (by decide) rfl
  simp only [nilT, reduceIte, Nat.reduceEqDiff, List.length_nil, List.nil_append] at H
  refine v_loop (fun i : Nat => ⟨[(4, none, .v (.int .i64 (i : Int))), (3, none, .vw 0 (if i = 0 then 0 else X.length) (if i = 0 then 0 else X.length)), (2, none, .v (.slice none 0 0)), (0, none, .sl .sc [.sl prT es none] none)],
    [(.vc 26 .sc, .vc (if i = 0 then 0 else X.length) (if i = 0 then [] else vas (X.map XR.v)))], [], []⟩) (fun i => i ≤ 1) (fun i => 1 - i) 0 (by omega)
    (H.to 1 0 ⟨Nat.le_trans hN (Nat.zero_le _), hR⟩ ⟨rfl, rfl, rfl, rfl, trivial⟩ rfl rfl rfl rfl rfl) ?_
  clear H
  intro i a w hi H
  refine mW ?_; clear H; intro a w H
  refine mC H (fun hb => ?_) (fun hb => ?_)
  · have h0 : i = 0 := by
      have : decide ((i : Int) < 1) = true := hb
      rw [decide_eq_true_eq] at this; omega
    subst h0
    clear hb
    simp only [if_true] at H
    refine mS ?_
    replace H := mK [0, 2, 3, 4] 1 0 hN hR H
    refine mW ?_; clear H; intro a w H
    refine v_loop (fun k : Nat => ⟨[(5, none, .v (.int .i64 (k : Int))), (4, none, .v (.int .i64 0)), (3, none, .vw 0 k k), (2, none, .v (.slice none 0 0)), (0, none, .sl .sc [.sl prT es none] none)],
      [(.vc 26 .sc, .vc k (vas ((X.take k).map XR.v)))], [], []⟩) (fun k => k ≤ Z.length) (fun k => Z.length - k) 0 (Nat.zero_le _)
      (H.to 1 0 ⟨Nat.le_trans hN (Nat.zero_le _), hR⟩ ⟨rfl, rfl, rfl, rfl, rfl, trivial⟩ rfl rfl rfl rfl rfl) ?_
    clear H
    intro k a w hk H
    have hvl : (vas ((X.take k).map XR.v)).length = k := by rw [vas_len, List.length_map, List.length_take]; omega
    clear hX; have hX := And.intro @hpl (@hvl)
    refine mW ?_; clear H; intro a w H
    refine mC H (fun hb => ?_) (fun hb => ?_)
    · have hlt : k < Z.length := by rw [decide_eq_true_eq] at hb; omega
      clear hb
      have hg := hgt k hlt
      have e2 : vas ((X.take (k + 1)).map XR.v) = vas ((X.take k).map XR.v) ++ [.v (X[k]'(by omega)).v] := by
        rw [List.take_succ_eq_append_getElem (show k < X.length by omega)]; unfold vas; rw [List.map_append, List.map_append]; rfl
      generalize X[k]'(by omega) = x at *
      generalize Z[k] = z at *
      refine mS ?_
      clear hX; have hX := And.intro @hpl (And.intro @hvl (@hg))
      replace H := mK [0, 2, 3, 4, 5] 1 0 hN hR H
      (try refine wp_region_lit ?_); refine mN 4 hN H ?_; clear H; intro a w H
      (try refine wp_region_lit ?_); refine mN 3 hN H ?_; clear H; intro a w H
      refine mW ?_; clear H; intro a w H
      rw [List.take_of_length_le (Nat.le_of_eq hvl), ← e2, show (k : Int) + 1 = ((k + 1 : Nat) : Int) by omega] at H
      exact ⟨k + 1, hlt, by omega, H.to 1 0 ⟨Nat.le_trans hN (Nat.zero_le _), hR⟩ ⟨rfl, rfl, rfl, rfl, rfl, trivial⟩ rfl rfl rfl rfl rfl⟩
    · have hge : k = X.length := by rw [decide_eq_false_iff_not] at hb; omega
      clear hb
      subst hge
      rw [List.take_length] at H
      refine mW ?_; clear H; intro a w H
      exact ⟨1, Nat.le_refl _, by omega, H.to 1 0 ⟨Nat.le_trans hN (Nat.zero_le _), hR⟩ ⟨rfl, rfl, rfl, rfl, trivial⟩ rfl rfl rfl rfl rfl⟩
  · have h1 : i = 1 := by
      have : decide ((i : Int) < 1) = false := hb
      rw [decide_eq_false_iff_not] at this; omega
    subst h1
    clear hb
    have n1 : ¬ (1 : Nat) = 0 := by decide
    simp only [if_neg n1] at H
    refine mW ?_; clear H; intro a w H
    refine wp_ret ?_; exact mEnd [0] [] [.tmp 2] [_] hN hR H
end Go.Proofs.Ytigmpdhnhkdeiaa
/- The statements' kit: proofs compared and copied. -/
namespace Go.Proofs.Ytigmpdhnhkdeiaa
open Go Go.RowKit
theorem sameH_v (x y : List (List UInt8)) (hx : ∀ h ∈ x, h.length = 32) (hy : ∀ h ∈ y, h.length = 32) (hl : x.length ≤ 34359730000) : VC Try.prog 115 [.sl (.ba 32) (bas x) none, .sl (.ba 32) (bas y) none] [] (.v (.bool (decide (x = y)))) := by
  have hxl := bas_len x
  have hyl := bas_len y
  refine mE Try.func115 ?_; intro N w0 a w hN hR H
  refine mW ?_; clear H; intro a w H
  refine mC H (fun hb => ?_) (fun hb => ?_)
  · have hne : ¬ x = y := fun e => by rw [hxl, hyl, e] at hb; simp at hb
    rw [decide_eq_false hne]
    refine mW ?_; clear H; intro a w H
    refine wp_ret ?_; exact mEnd [] [] [.tmp 4] [_] hN hR H
  · have hll : x.length = y.length := by rw [hxl, hyl] at hb; simp at hb; omega
    have hX := And.intro @hxl (@hyl)
    refine mW ?_; clear H; intro a w H
    refine v_loop (fun k : Nat => ⟨[(5, none, .v (.int .i64 (k : Int))), (4, none, .v (.bool false)), (0, none, .sl (.ba 32) (bas x) none), (1, none, .sl (.ba 32) (bas y) none)], [], [], []⟩) (fun k => k ≤ x.length ∧ x.take k = y.take k) (fun k => x.length - k) 0 ⟨Nat.zero_le _, rfl⟩ (H.to 0 0 ⟨hN, hR⟩ ⟨rfl, rfl, rfl, rfl, trivial⟩ rfl rfl rfl rfl rfl) ?_
    clear H
    intro k a w hk H
    obtain ⟨hk, hkt⟩ := hk
    refine mW ?_; clear H; intro a w H
    refine mC H (fun hb => ?_) (fun hb => ?_)
    · have hlt : k < x.length := by simpa using hb
      have g1 := bas_get x k hlt
      have g2 := bas_get y k (by omega)
      have l1 := hx _ (List.getElem_mem hlt)
      have l2 := hy _ (List.getElem_mem (show k < y.length by omega))
      clear hX; have hX := And.intro @hxl (And.intro @hyl (And.intro @g1 (@g2)))
      refine mW ?_; clear H; intro a w H
      refine mS ?_; refine mD 0 [] [] H ?_; clear H; intro gS H
      refine mTN 3 hN H ?_; clear H; intro a w H; simp only [List.drop_succ_cons, List.drop_zero, List.drop_nil]
      refine mTN 4 hN H ?_; clear H; intro a w H; simp only [List.drop_succ_cons, List.drop_zero, List.drop_nil]
      refine mT ?_; clear H; intro a w H
      refine v_drawNil H ?_; clear H; intro H
      refine mC H (fun hb => ?_) (fun hb => ?_)
      · have hne : ¬ x = y := fun e => by subst e; simp at hb
        rw [decide_eq_false hne]
        refine mW ?_; clear H; intro a w H
        refine wp_ret ?_; exact mEnd [] [] [.tmp 4] [_] hN hR H
      · have he : x[k] = y[k]'(by omega) := by simpa using hb
        refine mW ?_; clear H; intro a w H
        exact ⟨k + 1, ⟨hlt, by rw [List.take_succ_eq_append_getElem hlt, List.take_succ_eq_append_getElem (show k < y.length by omega), hkt, he]⟩, by omega, H.to 0 0 ⟨hN, hR⟩ ⟨rfl, rfl, rfl, rfl, trivial⟩ rfl rfl rfl rfl rfl⟩
    · have hge : k = x.length := by simp at hb; omega
      subst hge
      have he : x = y := by rw [List.take_length, hll, List.take_length] at hkt; exact hkt
      rw [decide_eq_true he]
      clear hX
      refine mW ?_; clear H; intro a w H
      refine wp_ret ?_; exact mEnd [] [] [.tmp 4] [_] hN hR H
theorem sameP_eq (p q : List (List UInt8)) (n m : Nd) : (bif decide ((n.k.toNat : Int) = (m.k.toNat : Int)) && (decide (n.key = m.key) && (decide (n.v = m.v) && (decide (n.l = m.l) && decide (n.r = m.r)))) then decide (p = q) else false) = decide (Pf.mk p n = Pf.mk q m) := by
  obtain ⟨k1, a1, b1, c1, d1⟩ := n
  obtain ⟨k2, a2, b2, c2, d2⟩ := m
  have hk : ((k1.toNat : Int) = (k2.toNat : Int)) ↔ k1 = k2 := ⟨fun h => UInt8.toNat_inj.1 (by omega), fun h => by rw [h]⟩
  dsimp only
  by_cases h : (Pf.mk p ⟨k1, a1, b1, c1, d1⟩ = Pf.mk q ⟨k2, a2, b2, c2, d2⟩)
  · rw [decide_eq_true h]
    simp only [Pf.mk.injEq, Nd.mk.injEq] at h
    obtain ⟨rfl, rfl, rfl, rfl, rfl, rfl⟩ := h
    simp
  · rw [decide_eq_false h]
    rw [Bool.eq_false_iff]
    intro h2
    apply h
    rw [Bool.cond_eq_ite] at h2
    split at h2
    · rename_i h3
      simp only [Bool.and_eq_true, decide_eq_true_eq, hk] at h2 h3
      obtain ⟨rfl, rfl, rfl, rfl, rfl⟩ := h3
      rw [h2]
    · cases h2
set_option maxHeartbeats 1000000 in
theorem sameP_v (p q : Pf) (hp : p.wf) (hq : q.wf) (hl : p.s.length ≤ 34359730000) : VC Try.prog 32 [p.av, q.av] [] (.v (.bool (decide (p = q)))) := by
  have hs := sameH_v p.s q.s hp.s hq.s hl
  obtain ⟨p, n⟩ := p
  obtain ⟨q, m⟩ := q
  dsimp only at hs hl
  obtain ⟨g1, g2, g3, g4⟩ := id hp.e
  obtain ⟨f1, f2, f3, f4⟩ := id hq.e
  dsimp only at g1 g2 g3 g4 f1 f2 f3 f4
  refine mE Try.func32 ?_; intro N w0 a w hN hR H
  simp only [Pf.av, Nd.av] at H
  refine mW ?_; clear H; intro a w H
  refine mCallG [] [] (hs) H ?_; clear H; intro a w H; try refine wpList_nil ?_
  refine mW ?_; clear H; intro a w H
  rw [← sameP_eq] 
  refine wp_ret ?_; exact mEnd [] [] [.tmp 4] [_] hN hR H
end Go.Proofs.Ytigmpdhnhkdeiaa
/- No lists share memory: ApartBytes of none. -/
namespace Go.Proofs.Ytigmpdhnhkdeiaa
open Go Go.RowKit
set_option maxRecDepth 20000 in
theorem apartN_v : VC Try.prog 23 [.sl .sc [] none] [] (.v (.bool true)) := by
  refine mE Try.func23 ?_; intro N w0 a w hN hR H
  refine mW ?_; clear H; intro a w H
  refine v_loop (fun i : Nat => ⟨[(3, none, .v (.int .i64 0)), (0, none, .sl .sc [] none)], [], [], []⟩) (fun i => i ≤ 0) (fun i => i) 0 (Nat.zero_le _)
    (H.to 0 0 ⟨hN, hR⟩ ⟨rfl, rfl, trivial⟩ rfl rfl rfl rfl rfl) ?_
  clear H
  intro i a w hi H
  refine mW ?_; clear H; intro a w H
  refine mC H (fun hb => ?_) (fun hb => ?_)
  · exact absurd hb (by decide)
  · refine mW ?_; clear H; intro a w H
    refine wp_ret ?_; exact mEnd [] [] [.tmp 2] [_] hN hR H
end Go.Proofs.Ytigmpdhnhkdeiaa
/- The statement SpanReads, in values. -/
namespace Go.Proofs.Ytigmpdhnhkdeiaa
open Go Go.RowKit
attribute [local irreducible] wpT
set_option maxRecDepth 20000 in
set_option maxHeartbeats 8000000 in
theorem spanReads_v (root fr to key : List UInt8) (hr0 : root.length = 32) (h1 : fr.length = 32) (h2 : to.length = 32) (h3 : key.length = 32) (s : Sp) (hp : ∀ b ∈ s.p, b.wf) (hv : ∀ x ∈ s.v, x.length ≤ 34359730000) (hpl : s.p.length ≤ 1048576) (hvl : s.v.length ≤ 1048576) :
    VC Try.prog 5 [.ba root, .ba fr, .ba to, s.av, .ba key] [] (.v (.bool true)) := by
  have hw1 := brs_len s.p
  have hw2 := bss_len s.v
  refine mE Try.func5 ?_; intro N w0 a w hN hR H
  simp only [Sp.av] at H
  have hX := And.intro @hw1 (And.intro @hw2 (And.intro @hr0 (And.intro @h1 (And.intro @h2 (@h3)))))
  refine mW ?_; clear H; intro a w H
  refine mC H (fun hb => ?_) (fun hb => ?_)
  · refine mW ?_; clear H; intro a w H
    refine wp_ret ?_; exact mEnd [] [] [.tmp 10] [_] hN hR H
  · have hlen : s.p.length ≤ 3000 ∧ s.v.length ≤ 260 := by
      cases hd : decide ((3000 : Int) < (s.p.length : Int))
      · rw [hd] at hb
        have : decide ((260 : Int) < (s.v.length : Int)) = false := hb
        rw [decide_eq_false_iff_not] at this hd; omega
      · rw [hd] at hb; cases hb
    clear hb
    have hs : s.wf := ⟨hp, by omega, by omega, hv⟩
    have hM : N.bx.length ≤ 0 ∧ N.rw.length ≤ 0 := ⟨hN, hR⟩
    have cL := lentS_E s hs
    have cP := places24_v fr to h1 h2 s hs
    have cR := sroot_v fr to h1 h2 s hs
    have cS := ssingle_v fr to key h1 h2 h3 s hs
    have cT := single24_v fr to key h1 h2 h3 s hs
    have cC := scheck_v fr to h1 h2 s hs
    have hHl := spH_len fr to fr s hs
    have hpc := fun he => spE_places (fr := fr) (to := to) hs he
    have hpn := fun he => spE_no (fr := fr) (to := to) (s := s) he
    have hHz : spE fr to fr s ≠ 0 → spH fr to fr s = List.replicate 32 0 := fun h => by unfold spH; rw [if_neg h]; rfl
    simp only [Sp.av] at cL cP cR cS cT cC
    refine mS ?_
    replace H := mK [5, 6, 7, 8, 9, 10] 5 0 hN hR H
    refine mS ?_
    (try refine wp_region_lit ?_); refine mN 1 hN H ?_; clear H; intro a w H
    refine v_callE cL (FrX.refl _ _ _) (Nat.le_refl _) (Xs.nil _ _ _) H (by rintro Y bx' rw' res ⟨rfl, rfl, rfl, _⟩; exact ⟨by rfl, rfl⟩) ?_
    clear H
    rintro X bx' rw' res a w1 ⟨rfl, rfl, rfl, hT⟩ H
    replace H := nfX H
    clear hN hR
    rw [List.nil_append] at H
    obtain ⟨N1, hB, hZ, H, hN1, hR1⟩ := H.open_
    have hN : N1.bx.length ≤ 5 := Nat.le_of_eq hN1
    have hR : N1.rw.length ≤ 0 := Nat.le_of_eq hR1
    clear hN1 hR1
    have hXv : (vas (X.map XR.v)).length = s.v.length := by rw [vas_len, List.length_map]; exact hT.1
    have hseeV : ∀ {Y : List XR}, (∀ x ∈ X, x ∈ Y) → SeeX Y (.st [.sl brT (brs s.p) none, .sl .sc (vas (X.map XR.v)) none]) (.st [.sl brT (brs s.p) none, .sl .sc (bss s.v) none]) := fun {Y} hY => .st rfl fun i i1 i2 => by
      match i, i1 with
      | 0, _ => exact .refl _
      | 1, _ => exact hT.see hY
    generalize hLV : vas (X.map XR.v) = LV at *
    clear hX; have hX := And.intro @hw1 (And.intro @hw2 (And.intro @hr0 (And.intro @h1 (And.intro @h2 (And.intro @h3 (@hXv))))))
    refine mW ?_; clear H; intro a w H
    replace H := v_ref H 11 5 hN rfl rfl rfl
    simp only [nilT, strip, List.map_cons, List.map_nil, reduceIte, Nat.reduceEqDiff] at H
    refine mCall [] [] (cP) H ?_; clear H; intro a w H; try refine wpList_nil ?_
    refine mW ?_; clear H; intro a w H
    revert a w
    apply cutG9 (R := fun a w => Rel Try.prog w1 N1 Try.f5.ntmps ⟨[(5, none, .ptr 0 []), (6, none, .ptr 1 []), (7, none, .ptr 2 []), (8, none, .ptr 3 []), (9, none, .ptr 4 []), (10, none, .v (.bool false)), (11, none, .ref spT0 (.st [.sl brT (brs s.p) none, .sl .sc LV none])), (14, none, .v (.int .i64 (spE fr to fr s))), (15, none, .ptr 6 [])],
      [(.ba 32, .ba root), (.ba 32, .ba fr), (.ba 32, .ba to), (spT0, .st [.sl brT (brs s.p) none, .sl .sc (bss s.v) none]), (.ba 32, .ba key), (spT0, .st [.sl brT (brs s.p) none, .sl .sc LV none]), (.ba 32, .ba (spH fr to fr s))], [5], []⟩ a w)
    · intro key1 a w H
      refine mC H (fun hb => ?_) (fun hb => ?_)
      · rw [decide_eq_true_eq] at hb
        obtain ⟨t, _, q1, q2, q3, _⟩ := hpc hb
        obtain ⟨t1, t2, t3⟩ := t.pl_top (List.replicate 32 0) 0
        have hPl := pls_len (t.pl (List.replicate 32 0) 0)
        rw [t.pl_len] at hPl
        have hnp := t.num_pos
        simp only [Pl.av] at t3
        rw [← q1] at t3 hPl
        rw [q2] at key1
        have hX := And.intro hX (And.intro hPl (And.intro t3 q3))
        refine mS ?_
        (try refine wp_region_lit ?_); refine mN 2 hN H ?_; clear H; intro a w H
        (try refine wp_region_lit ?_); refine mN 3 hN H ?_; clear H; intro a w H
        refine wpList_nil ?_
        refine mS ?_
        exact key1 _ _ (H.to 7 0 ⟨Nat.le_trans hN (Nat.le_of_ble_eq_true rfl), hR⟩ ⟨rfl, rfl, rfl, rfl, rfl, rfl, rfl, rfl, rfl, trivial⟩ rfl rfl rfl rfl rfl)
      · rw [decide_eq_false_iff_not] at hb
        rw [hHz hb] at key1
        refine mS ?_
        exact key1 _ _ (H.to 7 0 ⟨Nat.le_trans hN (Nat.le_of_ble_eq_true rfl), hR⟩ ⟨rfl, rfl, rfl, rfl, rfl, rfl, rfl, rfl, rfl, trivial⟩ rfl rfl rfl rfl rfl)
    intro a w H
    have hWf : (spW fr to key s).wf := by
      unfold spW
      split
      · rename_i hh
        have hrs := spRS_wf fr to key s hs
        exact ⟨fun g hg => hrs.sd g (by simpa using hg), hrs.en⟩
      · exact ⟨fun g hg => (by cases hg), zero_wf⟩
    have hWl : (spW fr to key s).s.length ≤ 100000 := by
      unfold spW
      split
      · have hrs := (spRS_wf fr to key s hs).ls
        dsimp only; rw [List.length_reverse]; omega
      · exact Nat.zero_le _
    have cE := sameP_v (spW fr to key s) (spW fr to key s) hWf hWf (by omega)
    rw [decide_eq_true rfl] at cE
    generalize hWe : spW fr to key s = W at *
    obtain ⟨Ws, We⟩ := W
    obtain ⟨v1, v2, v3, v4⟩ := hWf.e
    dsimp only at v1 v2 v3 v4
    simp only [Pf.av] at cS cT cE
    refine mS ?_
    clear hX; have hX := And.intro @hw1 (And.intro @hw2 (And.intro @hr0 (And.intro @h1 (And.intro @h2 (And.intro @h3 (And.intro @hXv (And.intro @hHl (And.intro @v1 (And.intro @v2 (And.intro @v3 (And.intro @v4 (@Nd.av.eq_1))))))))))))
    refine mW ?_; clear H; intro a w H
    replace H := v_seeX hZ H 57 _ (hseeV (fun x hx => hx)) rfl
    simp only [nilT, reduceIte, Nat.reduceEqDiff] at H
    refine mCall [] [] (cR) H ?_; clear H; intro a w H; try refine wpList_nil ?_
    refine mW ?_; clear H; intro a w H
    replace H := v_seeX hZ H 64 _ (hseeV (fun x hx => hx)) rfl
    simp only [nilT, reduceIte, Nat.reduceEqDiff] at H
    refine mCall [] [] (cS) H ?_; clear H; intro a w H; try refine wpList_nil ?_
    refine mW ?_; clear H; intro a w H
    refine mCall [] [] (cT) H ?_; clear H; intro a w H; try refine wpList_nil ?_
    refine mW ?_; clear H; intro a w H
    replace H := v_seeX hZ H 79 _ (hseeV (fun x hx => hx)) rfl
    simp only [nilT, reduceIte, Nat.reduceEqDiff] at H
    refine mCall [] [] (cC) H ?_; clear H; intro a w H; try refine wpList_nil ?_
    refine mW ?_; clear H; intro a w H
    replace H := v_known H 93 false rfl
    simp only [unG, gdEq, Nat.reduceBEq, cond_true, cond_false] at H
    refine mG H ?_
    refine mCall [] [] (cE) H ?_; clear H; intro a w H; try refine wpList_nil ?_
    refine mW ?_; clear H; intro a w H
    refine mC H (fun hb => ?_) (fun hb => ?_)
    · exact absurd hb (by decide)
    · clear hb cE cS cT cC cR cP v1 v2 v3 v4 hWf hWl hpn hHz
      have hRc := fun r hr => sread_E r fr to hr h1 h2 s hs
      have hRd : ∀ r, r.length = 32 → VC Try.prog 41 [.ba r, .ba fr, .ba to, s.av] [] (.tup [.sl prT ((spZ r fr to s).map prA) none, .v (.int .i64 (spRE r fr to s))]) := fun r hr => read24_v r fr to hr h1 h2 s hs
      have hZk : ∀ r, (∀ z ∈ spZ r fr to s, z.1.length = 32) ∧ (spZ r fr to s).length ≤ s.v.length := fun r => by
        unfold spZ
        split
        · rename_i hz
          have he : spE fr to fr s = 0 := by
            unfold spRE at hz
            split at hz
            · assumption
            · rename_i h; exact absurd hz h
          obtain ⟨_, _, _, _, _, _, _, q5, q6, q7⟩ := hpc he
          rw [q7]
          refine ⟨fun z hz => q6 _ (List.of_mem_zip hz).1, by rw [List.length_zip]; omega⟩
        · exact ⟨fun z hz => (by cases hz), Nat.zero_le _⟩
      clear hpc
      have hKp := keptSp_v s hs
      have hAp := apartN_v
      simp only [Sp.av] at hRc hRd hKp
      generalize spH fr to fr s = top at *
      refine mS ?_
      clear hX; have hX := And.intro @hw1 (And.intro @hw2 (And.intro @hr0 (And.intro @h1 (And.intro @h2 (And.intro @h3 (And.intro @hXv (@hHl)))))))
      replace H := mK [5, 6, 7, 8, 9, 10, 11, 15] 7 0 hN hR H
      refine mS ?_
      (try refine wp_region_lit ?_); refine mN 3 hN H ?_; clear H; intro a w H
      replace H := v_sub H 106 (x := .sl (.ba 32) [.ba root, .ba top] (some 0)) (y := .sl (.ba 32) [.ba root, .ba top] none) ⟨rfl, rfl⟩ rfl (fun az h => by cases h) rfl
      simp only [nilT, reduceIte, Nat.reduceEqDiff] at H
      replace H := mK [5, 6, 7, 8, 9, 10, 11, 106] 7 0 hN hR H
      refine mW ?_; clear H; intro a w H
      replace H := RelX.close hB hZ H
      clear hB hZ hN hR
      refine v_loopI (fun (i : Nat) a w => ∃ Y : List XR, RelX w0.heap.size Try.prog w0 N Try.f5.ntmps ⟨[(23, none, .v (.int .i64 (i : Int))), (22, none, .sl (.ba 32) [.ba root, .ba top] none), (5, none, .ptr 0 []), (6, none, .ptr 1 []), (7, none, .ptr 2 []), (8, none, .ptr 3 []), (9, none, .ptr 4 []), (10, none, .v (.bool false)), (11, none, .ref spT0 (.st [.sl brT (brs s.p) none, .sl .sc LV none]))],
        [(.ba 32, .ba root), (.ba 32, .ba fr), (.ba 32, .ba to), (spT0, .st [.sl brT (brs s.p) none, .sl .sc (bss s.v) none]), (.ba 32, .ba key), (spT0, .st [.sl brT (brs s.p) none, .sl .sc LV none])], [5], []⟩ (X ++ Y) a w)
        (fun i => i ≤ 2) (fun i => 2 - i) 0 (by omega) ⟨[], by rw [List.append_nil]; exact H.to 6 0 ⟨Nat.le_trans hM.1 (Nat.zero_le _), Nat.le_trans hM.2 (Nat.zero_le _)⟩ ⟨rfl, rfl, rfl, rfl, rfl, rfl, rfl, rfl, rfl, trivial⟩ rfl rfl rfl rfl rfl⟩ ?_
      clear H
      rintro i a w2 hi ⟨Y0, H⟩
      obtain ⟨N2, hB, hZ, H, hN2, hR2⟩ := H.open_
      have hN : N2.bx.length ≤ 6 := Nat.le_of_eq hN2
      have hR : N2.rw.length ≤ 0 := Nat.le_of_eq hR2
      clear hN2 hR2
      refine mW ?_; clear H; intro a w H
      refine mC H (fun hb => ?_) (fun hb => ?_)
      · have hlt : i < 2 := by
          have : decide ((i : Int) < 2) = true := hb
          rw [decide_eq_true_eq] at this; omega
        clear hb
        obtain ⟨rt, hg, hrt⟩ : ∃ rt : List UInt8, ([.ba root, .ba top] : List AV).getD i .any = .ba rt ∧ rt.length = 32 := by
          match i, hlt with
          | 0, _ => exact ⟨root, rfl, hr0⟩
          | 1, _ => exact ⟨top, rfl, hHl⟩
        have hRc := hRc rt hrt
        have hRd := hRd rt hrt
        obtain ⟨z1, z2⟩ := hZk rt
        generalize spZ rt fr to s = Z at *
        generalize spRE rt fr to s = ez at *
        have hgl : ([.ba root, .ba top] : List AV).length = 2 := rfl
        generalize hroots : ([.ba root, .ba top] : List AV) = roots at *
        refine mS ?_
        clear hX; have hX := And.intro @hw1 (And.intro @hw2 (And.intro @hr0 (And.intro @h1 (And.intro @h2 (And.intro @h3 (And.intro @hXv (And.intro @hHl (And.intro @hg (And.intro @hrt (@hgl))))))))))
        replace H := mK [5, 6, 7, 8, 9, 10, 11, 22, 23] 6 0 hN hR H
        refine mS ?_; refine mD 0 [7] [] H ?_; clear H; intro gS H
        refine mTN 3 hN H ?_; clear H; intro a w H; simp only [List.drop_succ_cons, List.drop_zero, List.drop_nil]
        refine mTN 4 hN H ?_; clear H; intro a w H; simp only [List.drop_succ_cons, List.drop_zero, List.drop_nil]
        replace H := v_seeXT hZ H 118 _ (hseeV (fun x hx => List.mem_append_left _ hx)) rfl
        simp only [nilT, reduceIte, Nat.reduceEqDiff] at H
        refine v_callET hRc hB (Nat.le_refl _) hZ H (by rintro Y bx' rw' res ⟨rfl, rfl, rfl, _⟩; exact ⟨by rfl, rfl⟩) ?_
        clear H
        rintro YA bx' rw' res a w3 ⟨rfl, rfl, rfl, hA⟩ H
        replace H := nfXT H
        clear hN hR hB hZ
        obtain ⟨N3, hB, hZ, H, hN3, hR3⟩ := H.open_
        have hN : N3.bx.length ≤ 6 := Nat.le_of_eq hN3
        have hR : N3.rw.length ≤ 0 := Nat.le_of_eq hR3
        clear hN3 hR3
        refine mT ?_; clear H; intro a w H
        refine v_drawNil H ?_; clear H; intro H
        refine mS ?_
        replace H := mK [5, 6, 7, 8, 9, 10, 11, 22, 23, 24, 25] 6 0 hN hR H
        refine mS ?_; refine mD 0 [7] [] H ?_; clear H; intro gS H
        refine mTN 3 hN H ?_; clear H; intro a w H; simp only [List.drop_succ_cons, List.drop_zero, List.drop_nil]
        refine mTN 4 hN H ?_; clear H; intro a w H; simp only [List.drop_succ_cons, List.drop_zero, List.drop_nil]
        refine mCallT [] [] (hRd) H ?_; clear H; intro a w H
        refine mT ?_; clear H; intro a w H
        refine v_drawNil H ?_; clear H; intro H
        have hYl : YA.length = Z.length := by have := hA.1; rwa [List.length_map] at this
        have hpx := pxs_len Z YA hYl
        have hsP := samePr_v Z z1 (by omega)
        have hvO := valuesOf_v Z YA hYl (by omega)
        have hseeA : SeeX (X ++ Y0 ++ YA) (.sl prT (pxs Z YA) none) (.sl prT (Z.map prA) none) := pxs_see hA fun x hx => List.mem_append_right _ hx
        have hvl : (vas (YA.map XR.v)).length = YA.length := by rw [vas_len, List.length_map]
        generalize Z.map prA = pz at *
        generalize pxs Z YA = px at *
        refine mS ?_
        clear hX; have hX := And.intro @hw1 (And.intro @hw2 (And.intro @hr0 (And.intro @h1 (And.intro @h2 (And.intro @h3 (And.intro @hXv (And.intro @hHl (And.intro @hg (And.intro @hrt (And.intro @hgl (@hvl)))))))))))
        replace H := mK [5, 6, 7, 8, 9, 10, 11, 22, 23, 24, 25, 26, 27] 6 0 hN hR H
        refine mS ?_; refine mD 0 [2, 11, 12, 15, 16] [13, 14] H ?_; clear H; intro gS H
        refine mTN 2 hN H ?_; clear H; intro a w H; simp only [List.drop_succ_cons, List.drop_zero, List.drop_nil]
        replace H := v_seeXT hZ H 133 _ hseeA rfl
        simp only [nilT, reduceIte, Nat.reduceEqDiff] at H
        refine mCallT [] [] (hsP) H ?_; clear H; intro a w H
        refine mTN 4 hN H ?_; clear H; intro a w H; simp only [List.drop_succ_cons, List.drop_zero, List.drop_nil]
        refine mTN 4 hN H ?_; clear H; intro a w H; simp only [List.drop_succ_cons, List.drop_zero, List.drop_nil]
        replace H := v_knownT H 142 false (by rfl)
        simp only [unG, gdEq, Nat.reduceBEq, cond_true, cond_false] at H
        refine v_guardT H (by rfl) (by rfl) (by rfl) ?_
        refine mTN 1 hN H ?_; clear H; intro a w H; simp only [List.drop_succ_cons, List.drop_zero, List.drop_nil]
        refine v_guardT H (by rfl) (by rfl) (by rfl) ?_
        refine mCallT [] [] (hvO) H ?_; clear H; intro a w H
        refine mTN 2 hN H ?_; clear H; intro a w H; simp only [List.drop_succ_cons, List.drop_zero, List.drop_nil]
        replace H := v_knownT H 142 false (by rfl)
        simp only [unG, gdEq, Nat.reduceBEq, cond_true, cond_false] at H
        refine v_guardT H (by rfl) (by rfl) (by rfl) ?_
        refine mTN 1 hN H ?_; clear H; intro a w H; simp only [List.drop_succ_cons, List.drop_zero, List.drop_nil]
        have hTl := hT.1
        by_cases hu0 : YA.length + s.v.length = 0
        · rw [hu0] at H
          replace H := v_vw0T H 148 .sc rfl
          simp only [nilT, reduceIte, Nat.reduceEqDiff] at H
          refine v_guardT H (by rfl) (by rfl) (by rfl) ?_
          refine mCallT [] [] (hAp) H ?_; clear H; intro a w H
          refine mT ?_; clear H; intro a w H
          refine v_drawNil H ?_; clear H; intro H
          refine mC H (fun hb => ?_) (fun hb => ?_)
          · exact absurd hb (by decide)
          · clear hb
            refine mS ?_
            replace H := mK [5, 6, 7, 8, 9, 10, 11, 22, 23] 6 0 hN hR H
            refine mW ?_; clear H; intro a w H
            rw [show (i : Int) + 1 = ((i + 1 : Nat) : Int) by omega] at H
            exact ⟨i + 1, hlt, by omega, Y0 ++ YA, by rw [← List.append_assoc]; exact (RelX.close hB hZ H).to 6 0 ⟨Nat.le_trans hM.1 (Nat.zero_le _), Nat.le_trans hM.2 (Nat.zero_le _)⟩ ⟨rfl, rfl, rfl, rfl, rfl, rfl, rfl, rfl, rfl, trivial⟩ rfl rfl rfl rfl rfl⟩
        · have e1 : List.take YA.length (vas (YA.map XR.v)) ++ LV = vas (YA.map XR.v ++ X.map XR.v) := by
            rw [List.take_of_length_le (Nat.le_of_eq hvl), ← hLV]; simp [vas]
          have e2 : YA.length + s.v.length = (YA.map XR.v ++ X.map XR.v).length := by rw [List.length_append, List.length_map, List.length_map, hTl]
          rw [e1, e2] at H
          refine v_apartXT hZ H (x := .tmp 148) 6 (YA.length + 1) 26 rfl rfl (((List.range YA.length).map fun k => some ((X ++ Y0).length + k)) ++ (List.range X.length).map some) (by simp) ?_ ?_ (by omega) (by rw [← e2]; omega) ?_ (.inr ⟨142, false, rfl, rfl⟩)
          · intro k k1 k2
            right
            by_cases hk : k < YA.length
            · refine ⟨(X ++ Y0).length + k, YA[k], ?_, ?_, ?_, (hA.2 k hk (by rw [List.length_map, ← hYl]; exact hk)).w⟩
              · rw [List.getElem_append_left (by simpa using hk)]; simp
              · rw [List.getElem?_append_right (by omega), Nat.add_sub_cancel_left, List.getElem?_eq_getElem hk]
              · rw [List.getElem_append_left (by simpa using hk)]; simp
            · have hk3 : k - YA.length < X.length := by simp at k2; omega
              refine ⟨k - YA.length, X[k - YA.length], ?_, ?_, ?_, lentX_w (hT.2 _ hk3 (by omega))⟩
              · rw [List.getElem_append_right (by simpa using hk)]; simp
              · rw [List.append_assoc, List.getElem?_append_left hk3, List.getElem?_eq_getElem hk3]
              · rw [List.getElem_append_right (by simpa using hk)]; simp
          · rw [List.pairwise_append]
            refine ⟨?_, ?_, ?_⟩
            · rw [List.pairwise_map]
              refine List.Pairwise.imp (fun {a b} hab => ?_) List.pairwise_lt_range
              right; intro e; injection e with e; omega
            · rw [List.pairwise_map]
              refine List.Pairwise.imp (fun {a b} hab => ?_) List.pairwise_lt_range
              right; intro e; injection e with e; omega
            · intro a ha b hb
              obtain ⟨p, hp, rfl⟩ := List.mem_map.1 ha
              obtain ⟨q, hq, rfl⟩ := List.mem_map.1 hb
              rw [List.mem_range] at hp hq
              right; intro e; injection e with e
              rw [List.length_append] at e; omega
          clear H
          intro a w H
          replace H := ntf H
          refine mT ?_; clear H; intro a w H
          refine v_drawNil H ?_; clear H; intro H
          refine mC H (fun hb => ?_) (fun hb => ?_)
          · exact absurd hb (by decide)
          · clear hb
            refine mS ?_
            replace H := mK [5, 6, 7, 8, 9, 10, 11, 22, 23] 6 0 hN hR H
            refine mW ?_; clear H; intro a w H
            rw [show (i : Int) + 1 = ((i + 1 : Nat) : Int) by omega] at H
            exact ⟨i + 1, hlt, by omega, Y0 ++ YA, by rw [← List.append_assoc]; exact (RelX.close hB hZ H).to 6 0 ⟨Nat.le_trans hM.1 (Nat.zero_le _), Nat.le_trans hM.2 (Nat.zero_le _)⟩ ⟨rfl, rfl, rfl, rfl, rfl, rfl, rfl, rfl, rfl, trivial⟩ rfl rfl rfl rfl rfl⟩
      · clear hb
        refine mW ?_; clear H; intro a w H
        replace H := v_seeX hZ H 152 (x := .st [.sl brT (brs s.p) none, .sl .sc LV none]) (.st [.sl brT (brs s.p) none, .sl .sc (bcs s.v) none]) (.st rfl fun i i1 i2 => by
          match i, i1 with
          | 0, _ => exact .refl _
          | 1, _ =>
            rw [← hLV]
            refine .sl (by rw [vas_len, List.length_map, bcs_len]; exact hT.1) fun k k1 k2 => ?_
            rw [vas_len, List.length_map] at k1
            have k3 : k < s.v.length := by have := hT.1; omega
            have := lentX_seeC (X := X ++ Y0) (List.mem_append_left _ (List.getElem_mem k1)) (hT.2 k k1 k3)
            simpa [vas, bcs] using this) rfl
        simp only [nilT, reduceIte, Nat.reduceEqDiff] at H
        refine mCall [] [] (hKp) H ?_; clear H; intro a w H; try refine wpList_nil ?_
        refine mW ?_; clear H; intro a w H
        have H := (RelX.close hB hZ H).rel
        have hN := hM.1
        have hR := hM.2
        refine wp_ret ?_; exact mEnd [] [] [.tmp 10] [_] hN hR H
end Go.Proofs.Ytigmpdhnhkdeiaa
/- Nodes among the arguments. -/
namespace Go.Proofs.Ytigmpdhnhkdeiaa
open Go Go.RowKit
end Go.Proofs.Ytigmpdhnhkdeiaa
/- Parts of sketches and spans among the arguments. -/
namespace Go.Proofs.Ytigmpdhnhkdeiaa
open Go Go.RowKit
theorem br_sh {M d : Nat} {a : AV} (h : Sh tab M (d + 2) 54 a) : ∃ b : Br, a = b.av ∧ b.wf := by
  obtain ⟨az, rfl, hs⟩ := h.rcd rfl rfl
  clear h; have h := hs; clear hs; dsimp only [List.map] at h
  obtain ⟨a0, r, rfl, h0, h⟩ := shl_cons h
  obtain ⟨a1, r, rfl, h1, h⟩ := shl_cons h
  obtain ⟨a2, r, rfl, h2, h⟩ := shl_cons h
  obtain ⟨a3, r, rfl, h3, h⟩ := shl_cons h
  obtain rfl := shl_nil h
  obtain ⟨n, rfl, hn⟩ := h0.int rfl rfl
  obtain ⟨u, hu⟩ := u8_of hn
  obtain ⟨k, rfl, hk⟩ := h1.arr rfl rfl
  obtain ⟨v, rfl, hv⟩ := h2.arr rfl rfl
  obtain ⟨g, rfl, hg⟩ := h3.arr rfl rfl
  exact ⟨⟨u, k, v, g⟩, by rw [hu]; rfl, ⟨hk, hv, hg⟩⟩
theorem brs_sh {M d : Nat} {a : AV} (h : Sh tab M (d + 3) 22 a) : ∃ l : List Br, a = .sl ti54.ty (l.map Br.av) none ∧ (∀ b ∈ l, b.wf) ∧ l.length ≤ M := by
  obtain ⟨es, rfl, hl, he⟩ := h.slc rfl rfl rfl
  obtain ⟨ys, rfl, hy⟩ := sh_list (q := Br.wf) (f := Br.av) (fun x hx => br_sh hx) he
  exact ⟨ys, rfl, hy, by simpa using hl⟩
theorem sp_sh {M d : Nat} {a : AV} (h : Sh tab M (d + 5) 25 a) : ∃ (p : List Br) (v : List (List UInt8)), a = .st [.sl ti54.ty (p.map Br.av) none, .sl .sc (bss v) none] ∧ (∀ b ∈ p, b.wf) ∧ p.length ≤ M ∧ v.length ≤ M ∧ ∀ x ∈ v, x.length ≤ M := by
  obtain ⟨az, rfl, hs⟩ := h.rcd rfl rfl
  clear h; have h := hs; clear hs; dsimp only [List.map] at h
  obtain ⟨a0, r, rfl, h0, h⟩ := shl_cons h
  obtain ⟨a1, r, rfl, h1, h⟩ := shl_cons h
  obtain rfl := shl_nil h
  obtain ⟨p, rfl, hp, hpl⟩ := brs_sh h0
  obtain ⟨es, rfl, hl, he⟩ := h1.slc rfl rfl rfl
  obtain ⟨ys, rfl, hy⟩ := sh_list (q := fun l : List UInt8 => l.length ≤ M) (f := fun l => AV.bs l none) (fun x hx => hx.bytes rfl rfl rfl) he
  exact ⟨p, ys, rfl, hp, hpl, by simpa using hl, hy⟩
end Go.Proofs.Ytigmpdhnhkdeiaa
/- SpanReads, of all arguments of its types. -/
namespace Go.Proofs.Ytigmpdhnhkdeiaa
open Go Go.RowKit
theorem spanReads_az (az : List AV) (h : ShL (Sh tab 1048576 6) [50, 52, 52, 25, 52] az) : VC Try.prog 5 az [] (.v (.bool true)) := by
  obtain ⟨a0, r, rfl, h0, h⟩ := shl_cons h
  obtain ⟨a1, r, rfl, h1, h⟩ := shl_cons h
  obtain ⟨a2, r, rfl, h2, h⟩ := shl_cons h
  obtain ⟨a3, r, rfl, h3, h⟩ := shl_cons h
  obtain ⟨a4, r, rfl, h4, h⟩ := shl_cons h
  obtain rfl := shl_nil h
  obtain ⟨root, rfl, q0⟩ := h0.arr rfl rfl
  obtain ⟨fr, rfl, q1⟩ := h1.arr rfl rfl
  obtain ⟨to, rfl, q2⟩ := h2.arr rfl rfl
  obtain ⟨p, v, rfl, hp, hpl, hvl, hv⟩ := sp_sh h3
  obtain ⟨key, rfl, q4⟩ := h4.arr rfl rfl
  exact spanReads_v root fr to key q0 q1 q2 q4 ⟨p, v⟩ hp (fun x hx => Nat.le_trans (hv x hx) (by decide)) hpl hvl
end Go.Proofs.Ytigmpdhnhkdeiaa
