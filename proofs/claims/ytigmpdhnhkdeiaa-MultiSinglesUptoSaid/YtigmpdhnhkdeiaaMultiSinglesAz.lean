/- A reader of a sketch for keys: multi.place. -/
import Derived.Test.YtigmpdhnhkdeiaaMpC
import Derived.Test.YtigmpdhnhkdeiaaSpanB
import Derived.Test.YtigmpdhnhkdeiaaPut
import Derived.Test.YtigmpdhnhkdeiaaA2
set_option linter.unusedSimpArgs false
set_option linter.unusedVariables false
namespace Go.Proofs.Ytigmpdhnhkdeiaa
open Go Go.RowKit
theorem plM_nil (f : Nat) (top : List UInt8) (d : Nat) (ws : List MW) : plM (f + 1) top d ws [] = ⟨[], ws, z32, false⟩ := rfl
theorem plM_cons (f : Nat) (top : List UInt8) (d : Nat) (ws : List MW) (b : Br) (r : List Br) : plM (f + 1) top d ws (b :: r) =
    if b.clean = false then ⟨b :: r, ws, z32, false⟩
    else if b.k = 0 then ⟨r, ws, sum [0], true⟩
    else if b.k = 3 then ⟨r, ws, b.g, ws.isEmpty⟩
    else if b.k = 1 then ⟨r, ws.map (MW.lf b), leafH b.key b.v, !ws.isEmpty && und d b.key top⟩
    else if ws.isEmpty = true then ⟨r, ws, z32, false⟩
    else if 256 ≤ d then ⟨r, ws, z32, false⟩
    else if (plM f top (d + 1) (ws.take (mpartN d ws)) r).ok = false then ⟨(plM f top (d + 1) (ws.take (mpartN d ws)) r).rest, (plM f top (d + 1) (ws.take (mpartN d ws)) r).ws ++ ws.drop (mpartN d ws), z32, false⟩
      else ⟨(plM f (flipL top d) (d + 1) (ws.drop (mpartN d ws)) (plM f top (d + 1) (ws.take (mpartN d ws)) r).rest).rest,
        (plM f top (d + 1) (ws.take (mpartN d ws)) r).ws.map (MW.aside (plM f (flipL top d) (d + 1) (ws.drop (mpartN d ws)) (plM f top (d + 1) (ws.take (mpartN d ws)) r).rest).dg) ++ (plM f (flipL top d) (d + 1) (ws.drop (mpartN d ws)) (plM f top (d + 1) (ws.take (mpartN d ws)) r).rest).ws.map (MW.aside (plM f top (d + 1) (ws.take (mpartN d ws)) r).dg),
        innerH (plM f top (d + 1) (ws.take (mpartN d ws)) r).dg (plM f (flipL top d) (d + 1) (ws.drop (mpartN d ws)) (plM f top (d + 1) (ws.take (mpartN d ws)) r).rest).dg, (plM f (flipL top d) (d + 1) (ws.drop (mpartN d ws)) (plM f top (d + 1) (ws.take (mpartN d ws)) r).rest).ok⟩ := rfl
theorem mpart_le (d : Nat) (ws : List MW) : mpartN d ws ≤ ws.length := by
  unfold mpartN
  exact (List.takeWhile_sublist _).length_le
theorem len_dec (A W : List MW) : decide ((A.length : Int) < ((A.length + W.length : Nat) : Int)) = !W.isEmpty := by
  cases W with
  | nil => exact decide_eq_false (by simp)
  | cons w W => exact decide_eq_true (by simp only [List.length_cons]; omega)
attribute [local irreducible] wpT
set_option maxRecDepth 20000 in
set_option maxHeartbeats 16000000 in
theorem mplace_v (n : Nat) (hn : n ≤ 64) (ks : List (List UInt8)) (hks : ks.length = n) (hk32 : ∀ k ∈ ks, k.length = 32) : ∀ (f : Nat) (top : List UInt8) (d : Nat) (A W B : List MW) (rest : List Br) (X : List XR), f + d = 257 → d ≤ 256 → top.length = 32 → (∀ b ∈ rest, b.wf) → rest.length ≤ 100000 → (A ++ W ++ B).map (·.key) = ks → (∀ w ∈ A ++ W ++ B, w.wf) → (∀ w ∈ A ++ W ++ B, w.sd.length ≤ 1000) → (∀ w ∈ W, w.sd.length + f ≤ 600) → WyX (A ++ W ++ B) X →
    VY Try.prog 179 (mrdB rest (sum [0]) n (A ++ W ++ B) X) [.ptr 0 [], .sl (.ba 32) (bas ks) none, .v (.int .i64 (A.length : Int)), .v (.int .i64 ((A.length + W.length : Nat) : Int)), .ba top, .v (.int .i64 (d : Int))] X
      (fun X' bx' res => WyX (A ++ (plM f top d W rest).ws ++ B) X' ∧ bx' = mrdB (plM f top d W rest).rest (sum [0]) n (A ++ (plM f top d W rest).ws ++ B) X' ∧ res = .tup [.ba (plM f top d W rest).dg, .v (.bool (plM f top d W rest).ok)]) := by
  intro f
  induction f with
  | zero => intro top d A W B rest X hf hd; omega
  | succ f ih =>
    intro top d A W B rest X hf hd256 ht hrw hrl hkey hwf hfew hfw hW
    have hnl : (A ++ W ++ B).length = n := by rw [← hks, ← hkey, List.length_map]
    have hl0 : (wyE (A ++ W ++ B) X).length = n := by rw [wyE_len hW.len]; exact hnl
    have hbl := bas_len ks
    have hs0 : (sum [0]).length = 32 := sum_length _
    have eo := len_dec A W
    cases rest with
    | nil =>
      have hrb : (brs []).length = 0 := rfl
      rw [plM_nil]
      simp only [z32]
      refine v_enterY Try.func179 rfl (by kernel_rfl) (by show 6 ≤ 151; decide) ?_
      intro L N w0 a w hL hN0 hR0 H
      have hM : N.bx.length ≤ 2 ∧ N.rw.length ≤ 0 := ⟨hN0, hR0⟩
      clear hN0 hR0
      obtain ⟨N1, hB, hZ, H, hN1, hR1⟩ := H.open_
      have hN : N1.bx.length ≤ 2 := Nat.le_of_eq hN1
      have hR : N1.rw.length ≤ 0 := Nat.le_of_eq hR1
      clear hN1 hR1
      have hX := And.intro @hrb (And.intro @ht (@hl0))
      refine mW ?_; clear H; intro a w H
      refine mSk (.v (.bool true)) H ?_; clear H; intro a w H
      refine mW ?_; clear H; intro a w H
      refine mC H (fun hb => ?_) (fun hb => ?_)
      · clear hb
        refine mW ?_; clear H; intro a w H
        refine wp_ret ?_
        exact v_endY (rs := [.cell 12 50, .tmp 13]) (ress := [_, _]) (nb := 2) (nr := 0) [0, 1] tab_ok hM rfl (RelY.close hB hZ H) (by rfl) rfl cbX caX rfl ⟨hW, rfl, rfl⟩
      · exact absurd hb (by decide)
    | cons b rest =>
      have hbw := hrw b List.mem_cons_self
      have hcl := uclean_v b hbw
      have hrw2 : ∀ b ∈ rest, b.wf := fun b h => hrw b (List.mem_cons_of_mem _ h)
      rw [plM_cons]
      obtain ⟨bk, bkey, bv, bg⟩ := b
      obtain ⟨q1, q2, q3⟩ := id hbw
      dsimp only at q1 q2 q3
      simp only [List.length_cons] at hrl
      generalize hbe : brs (⟨bk, bkey, bv, bg⟩ :: rest) = B0
      have hbl0 : B0.length = (brs rest).length + 1 := by rw [← hbe]; simp [brs]
      have hb0 : B0.getD 0 .any = .st [.v (B8 bk), .ba bkey, .ba bv, .ba bg] := by rw [← hbe]; rfl
      have hbs : List.drop 1 B0 = brs rest := by rw [← hbe]; rfl
      have e0 : decide ((((brs rest).length + 1 : Nat) : Int) = 0) = false := decide_eq_false (by omega)
      have k0 : decide ((bk.toNat : Int) = 0) = decide (bk = 0) := kz bk 0 (by decide)
      have k1 : decide ((bk.toNat : Int) = 1) = decide (bk = 1) := kz bk 1 (by decide)
      have k3 : decide ((bk.toNat : Int) = 3) = decide (bk = 3) := kz bk 3 (by decide)
      dsimp only
      simp only [Br.av] at hcl
      simp only [mrdB, hbe]
      refine v_enterY Try.func179 rfl (by kernel_rfl) (by show 6 ≤ 151; decide) ?_
      intro L N w0 a w hL hN0 hR0 H
      have hM : N.bx.length ≤ 2 ∧ N.rw.length ≤ 0 := ⟨hN0, hR0⟩
      clear hN0 hR0
      obtain ⟨N1, hB, hZ, H, hN1, hR1⟩ := H.open_
      have hN : N1.bx.length ≤ 2 := Nat.le_of_eq hN1
      have hR : N1.rw.length ≤ 0 := Nat.le_of_eq hR1
      clear hN1 hR1
      have hX := And.intro @hbl0 (And.intro @hb0 (And.intro @ht (And.intro @q1 (And.intro @q2 (And.intro @q3 (And.intro @hs0 (@hl0)))))))
      refine mW ?_; clear H; intro a w H
      refine mCallG [] [] (hcl) H ?_; clear H; intro a w H; try refine wpList_nil ?_
      simp only [e0] at H
      refine mW ?_; clear H; intro a w H
      refine mC H (fun hb => ?_) (fun hb => ?_)
      · have hc : Br.clean ⟨bk, bkey, bv, bg⟩ = false := by simpa using hb
        rw [if_pos hc]
        dsimp only
        simp only [z32, hbe]
        clear hb
        refine mW ?_; clear H; intro a w H
        refine wp_ret ?_
        exact v_endY (rs := [.cell 12 50, .tmp 13]) (ress := [_, _]) (nb := 2) (nr := 0) [0, 1] tab_ok hM rfl (RelY.close hB hZ H) (by rfl) rfl cbX caX rfl ⟨hW, rfl, rfl⟩
      · have hc : Br.clean ⟨bk, bkey, bv, bg⟩ = true := by simpa using hb
        rw [if_neg (by rw [hc]; decide)]
        clear hb
        refine mW ?_; clear H; intro a w H
        simp only [hbs, eo] at H
        refine mC H (fun hb => ?_) (fun hb => ?_)
        · rw [k0, decide_eq_true_eq] at hb
          rw [if_pos hb]
          dsimp only
          clear hb
          clear hX; have hX := And.intro @ht (And.intro @q1 (And.intro @q2 (And.intro @q3 (And.intro @hs0 (@hl0)))))
          refine mW ?_; clear H; intro a w H
          refine wp_ret ?_
          exact v_endY (rs := [.cell 12 50, .tmp 13]) (ress := [_, _]) (nb := 2) (nr := 0) [0, 1] tab_ok hM rfl (RelY.close hB hZ H) (by rfl) rfl cbX caX rfl ⟨hW, rfl, rfl⟩
        · rw [k0, decide_eq_false_iff_not] at hb
          rw [if_neg hb]
          have n0 := hb
          clear hb
          clear hX; have hX := And.intro @ht (And.intro @q1 (And.intro @q2 (And.intro @q3 (And.intro @hs0 (@hl0)))))
          refine mW ?_; clear H; intro a w H
          refine mC H (fun hb => ?_) (fun hb => ?_)
          · rw [k3, decide_eq_true_eq] at hb
            rw [if_pos hb]
            dsimp only
            clear hb
            refine mW ?_; clear H; intro a w H
            simp only [Bool.not_not] at H
            refine wp_ret ?_
            exact v_endY (rs := [.cell 12 50, .tmp 13]) (ress := [_, _]) (nb := 2) (nr := 0) [0, 1] tab_ok hM rfl (RelY.close hB hZ H) (by rfl) rfl cbX caX rfl ⟨hW, rfl, rfl⟩
          · rw [k3, decide_eq_false_iff_not] at hb
            rw [if_neg hb]
            have n3 := hb
            clear hb
            refine mW ?_; clear H; intro a w H
            refine mC H (fun hb => ?_) (fun hb => ?_)
            · rw [k1, decide_eq_true_eq] at hb
              rw [if_pos hb]
              subst hb
              dsimp only
              have hll := leafH_len bkey bv
              have hlf := leaf_v bkey bv q1 q2
              have hun := under_v bkey top q1 ht (d : Int)
              have eu : decide (0 ≤ (d : Int) ∧ (d : Int) ≤ 256 ∧ (d : Int) ≤ (com bkey top : Int)) = und d bkey top := by
                unfold und; rw [decide_eq_decide]; omega
              rw [eu] at hun
              have hW2 := hW.end_ ⟨1, bkey, bv, bg⟩
              have hl2 : (wyE (A ++ W.map (MW.lf ⟨1, bkey, bv, bg⟩) ++ B) X).length = n := by rw [wyE_len hW2.len, ← hnl]; simp
              have hend := mend_v rest (sum [0]) hs0 n hn ⟨1, bkey, bv, bg⟩ hbw A.length (A.length + W.length) (by omega) (by rw [← hnl]; simp) (fun t => ((A ++ W ++ B).zip X).map (·.2.v) |>.getD t undef) (fun t => ((A ++ W ++ B).map (·.en)).getD t Nd.zero) (fun t => by
                rw [List.getD_eq_getElem?_getD, List.getElem?_map]
                cases hg : (A ++ W ++ B)[t]? with
                | none => exact zero_wf
                | some z => exact (hwf z (List.mem_of_getElem? hg)).en)
              obtain ⟨we1, we2⟩ := wyE_end (A := A) (W := W) (B := B) ⟨1, bkey, bv, bg⟩ hW.len
              rw [hnl] at we1 we2
              dsimp only at we1 we2 hend
              have ed : decide ((1 : UInt8) = 1) = true := rfl
              rw [ed, we1, we2] at hend
              simp only [Br.av] at hend
              clear we1 we2
              clear hX; have hX := And.intro @ht (And.intro @q1 (And.intro @q2 (And.intro @q3 (And.intro @hs0 (And.intro @hl0 (And.intro @hl2 (@hll)))))))
              refine mW ?_; clear H; intro a w H
              refine mCall [0, 1] [] (hend) H ?_; clear H; intro a w H; try refine wpList_nil ?_
              refine mW ?_; clear H; intro a w H
              refine mCall [] [] (hlf) H ?_; clear H; intro a w H; try refine wpList_nil ?_
              refine mW ?_; clear H; intro a w H
              refine mCallG [] [] (hun) H ?_; clear H; intro a w H; try refine wpList_nil ?_
              refine mW ?_; clear H; intro a w H
              have eb : (bif !W.isEmpty then und d bkey top else false) = (!W.isEmpty && und d bkey top) := by cases W.isEmpty <;> rfl
              rw [eb] at H
              refine wp_ret ?_
              exact v_endY (rs := [.cell 12 50, .tmp 13]) (ress := [_, _]) (nb := 2) (nr := 0) [0, 1] tab_ok hM rfl (RelY.close hB hZ H) (by rfl) rfl cbX caX rfl ⟨hW2, rfl, rfl⟩
            · rw [k1, decide_eq_false_iff_not] at hb
              rw [if_neg hb]
              have hk2 : bk = 2 := by
                rcases Br.clean_k hc with h | h | h | h
                · exact absurd h n0
                · exact absurd h hb
                · exact h
                · exact absurd h n3
              clear hb
              subst hk2
              refine mW ?_; clear H; intro a w H
              simp only [Bool.not_not] at H
              refine mC H (fun hb => ?_) (fun hb => ?_)
              · have e : ∀ {α : Type} (u w : α), (if W.isEmpty = true then u else if 256 ≤ d then u else w) = u := fun u w => by
                  cases hwe : W.isEmpty
                  · rw [if_neg (by decide)]
                    rw [hwe] at hb
                    have hb2 : decide (256 ≤ (d : Int)) = true := hb
                    rw [decide_eq_true_eq] at hb2
                    rw [if_pos (by omega)]
                  · rw [if_pos rfl]
                rw [e]
                simp only [z32]
                clear hb
                refine mW ?_; clear H; intro a w H
                refine wp_ret ?_
                exact v_endY (rs := [.cell 12 50, .tmp 13]) (ress := [_, _]) (nb := 2) (nr := 0) [0, 1] tab_ok hM rfl (RelY.close hB hZ H) (by rfl) rfl cbX caX rfl ⟨hW, rfl, rfl⟩
              · have hwe : W.isEmpty = false := by
                  cases hwe : W.isEmpty
                  · rfl
                  · rw [hwe] at hb; cases hb
                have hd : d < 256 := by
                  rw [hwe] at hb
                  have hb2 : decide (256 ≤ (d : Int)) = false := hb
                  rw [decide_eq_false_iff_not] at hb2
                  omega
                clear hb
                rw [if_neg (by rw [hwe]; decide), if_neg (by omega)]
                have hp := mpart_le d W
                have hpart := mparted_v (W.map (·.key)) (fun k hk => by obtain ⟨w, hw, rfl⟩ := List.mem_map.1 hk; exact (hwf w (by simp [hw])).key) (by rw [List.length_map]; have := congrArg List.length hkey; simp at this; omega) d hd
                rw [← mpart_eq] at hpart
                generalize mpartN d W = p at *
                have hA1 : A ++ W.take p ++ (W.drop p ++ B) = A ++ W ++ B := by rw [List.append_assoc, ← List.append_assoc (W.take p), List.take_append_drop, List.append_assoc]
                have hsl : List.drop A.length (List.take (A.length + W.length) (bas ks)) = bas (W.map (·.key)) := by
                  rw [← hkey]
                  simp only [bas, List.map_append, List.append_assoc]
                  rw [List.take_append, List.take_of_length_le (by simp), List.drop_append, List.drop_of_length_le (by simp)]
                  simp
                clear hX; have hX := And.intro @ht (And.intro @q1 (And.intro @q2 (And.intro @q3 (And.intro @hs0 (And.intro @hl0 (@hbl))))))
                refine mW ?_; clear H; intro a w H
                rw [hsl] at H
                refine mCall [] [] (hpart) H ?_; clear H; intro a w H; try refine wpList_nil ?_
                have hlp : (W.take p).length = p := List.length_take_of_le hp
                have x1 := plM_wf (f := f) (top := top) (d := d + 1) hrw2 (ws := W.take p) (fun w hw => hwf w (by have := List.mem_of_mem_take hw; simp [this]))
                have x2 := plM_len (f := f) (top := top) (d := d + 1) (ws := W.take p) (l := rest)
                have x3 := plM_keys (f := f) (top := top) (d := d + 1) (ws := W.take p) (l := rest)
                have x4 := plM_few (m := 599 - f) (f := f) (top := top) (d := d + 1) (ws := W.take p) (l := rest) (fun w hw => by have := hfw w (List.mem_of_mem_take hw); omega)
                have ih1 := ih top (d + 1) A (W.take p) (W.drop p ++ B) rest X (by omega) (by omega) ht hrw2 (by omega) (by rw [hA1]; exact hkey) (by rw [hA1]; exact hwf) (by rw [hA1]; exact hfew) (fun w hw => by have := hfw w (List.mem_of_mem_take hw); omega) (by rw [hA1]; exact hW)
                rw [hA1, hlp, show ((A.length + p : Nat) : Int) = (A.length : Int) + (p : Int) by omega, show ((d + 1 : Nat) : Int) = (d : Int) + 1 by omega] at ih1
                rw [hlp] at x2
                generalize plM f top (d + 1) (W.take p) rest = x at *
                obtain ⟨xr, xw, xh, xo⟩ := x
                obtain ⟨x5, x6, x7, x8⟩ := x1
                dsimp only at x2 x3 x4 x5 x6 x7 x8 ih1 ⊢
                clear hX; have hX := And.intro @ht (And.intro @q1 (And.intro @q2 (And.intro @q3 (And.intro @hs0 (And.intro @hl0 (@x8))))))
                refine mW ?_; clear H; intro a w H
                refine v_callY [0, 1] (ih1) hL hB hZ H (by rintro Y bx' res ⟨_, rfl, rfl⟩; exact ⟨rfl, rfl⟩) ?_
                clear H hB hZ hN hR
                rintro X1 bx' res a w ⟨hWX1, rfl, rfl⟩ H
                replace H := nfY H
                obtain ⟨N1, hB, hZ, H, hN1, hR1⟩ := H.open_
                have hN : N1.bx.length ≤ 5 := Nat.le_of_eq hN1
                have hR : N1.rw.length ≤ 0 := Nat.le_of_eq hR1
                clear hN1 hR1
                have hl1 : (wyE (A ++ xw ++ (W.drop p ++ B)) X1).length = n := by rw [wyE_len hWX1.len, ← hnl, ← hA1]; simp [x2, hp]
                clear hX; have hX := And.intro @ht (And.intro @q1 (And.intro @q2 (And.intro @q3 (And.intro @hs0 (And.intro @hl1 (@x8))))))
                refine mW ?_; clear H; intro a w H
                refine mC H (fun hb => ?_) (fun hb => ?_)
                · have hxo : xo = false := by simpa using hb
                  rw [if_pos hxo]
                  dsimp only
                  simp only [z32]
                  clear hb
                  have ea : A ++ (xw ++ W.drop p) ++ B = A ++ xw ++ (W.drop p ++ B) := by simp only [List.append_assoc]
                  rw [ea]
                  refine mW ?_; clear H; intro a w H
                  refine wp_ret ?_
                  exact v_endY (rs := [.cell 12 50, .tmp 13]) (ress := [_, _]) (nb := 2) (nr := 0) [0, 1] tab_ok hM rfl (RelY.close hB hZ H) (by rfl) rfl cbX caX rfl ⟨hWX1, rfl, rfl⟩
                · have hxo : xo = true := by simpa using hb
                  rw [if_neg (by rw [hxo]; decide)]
                  clear hb
                  replace H := mK [0, 1, 2, 3, 5, 10, 12, 16, 17, 18, 118] 6 0 hN hR H
                  have hfl := flip_v top ht d hd
                  have hfll := flipL_len top d
                  rw [ht] at hfll
                  have hmem : ∀ w ∈ A ++ xw ++ W.drop p ++ B, w.wf ∧ w.sd.length ≤ 1000 := fun w hw => by
                    simp only [List.mem_append] at hw
                    rcases hw with ((hw | hw) | hw) | hw
                    · exact ⟨hwf w (by simp [hw]), hfew w (by simp [hw])⟩
                    · exact ⟨x7 w hw, by have := x4 w hw; omega⟩
                    · have := List.mem_of_mem_drop hw; exact ⟨hwf w (by simp [this]), hfew w (by simp [this])⟩
                    · exact ⟨hwf w (by simp [hw]), hfew w (by simp [hw])⟩
                  have hx5 : ∀ b ∈ xr, b.wf := fun b hb => hrw2 b (x5 b hb)
                  have y1 := plM_wf (f := f) (top := flipL top d) (d := d + 1) (l := xr) hx5 (ws := W.drop p) (fun w hw => hwf w (by have := List.mem_of_mem_drop hw; simp [this]))
                  have y2 := plM_len (f := f) (top := flipL top d) (d := d + 1) (ws := W.drop p) (l := xr)
                  have y3 := plM_keys (f := f) (top := flipL top d) (d := d + 1) (ws := W.drop p) (l := xr)
                  have y4 := plM_few (m := 599 - f) (f := f) (top := flipL top d) (d := d + 1) (ws := W.drop p) (l := xr) (fun w hw => by have := hfw w (List.mem_of_mem_drop hw); omega)
                  have hk2 : (A ++ xw ++ W.drop p ++ B).map (·.key) = ks := by
                    rw [← hkey, ← hA1]; simp only [List.map_append, x3, List.append_assoc]
                  have ih2 := ih (flipL top d) (d + 1) (A ++ xw) (W.drop p) B xr X1 (by omega) (by omega) hfll hx5 (by omega) hk2 (fun w hw => (hmem w hw).1) (fun w hw => (hmem w hw).2) (fun w hw => by have := hfw w (List.mem_of_mem_drop hw); omega) (by rw [List.append_assoc]; exact hWX1)
                  have hdl : (W.drop p).length = W.length - p := List.length_drop
                  rw [List.length_append, x2, hdl, show A.length + p + (W.length - p) = A.length + W.length by omega, show ((A.length + p : Nat) : Int) = (A.length : Int) + (p : Int) by omega, show ((d + 1 : Nat) : Int) = (d : Int) + 1 by omega] at ih2
                  rw [hdl] at y2
                  have hAx : A ++ xw ++ (W.drop p ++ B) = A ++ xw ++ W.drop p ++ B := by simp only [List.append_assoc]
                  rw [hAx] at H hl1
                  generalize flipL top d = tf at *
                  generalize plM f tf (d + 1) (W.drop p) xr = y at *
                  obtain ⟨yr, yw, yh, yo⟩ := y
                  obtain ⟨y5, y6, y7, y8⟩ := y1
                  dsimp only at y2 y3 y4 y5 y6 y7 y8 ih2 ⊢
                  clear hX; have hX := And.intro @ht (And.intro @hs0 (And.intro @hl1 (And.intro @x8 (And.intro @hfll (@y8)))))
                  refine mW ?_; clear H; intro a w H
                  refine mCall [] [] (hfl) H ?_; clear H; intro a w H; try refine wpList_nil ?_
                  refine mW ?_; clear H; intro a w H
                  refine v_callY [0, 1] (ih2) hL hB hZ H (by rintro Y bx' res ⟨_, rfl, rfl⟩; exact ⟨rfl, rfl⟩) ?_
                  clear H hB hZ hN hR
                  rintro X2 bx' res a w ⟨hWX2, rfl, rfl⟩ H
                  replace H := nfY H
                  obtain ⟨N1, hB, hZ, H, hN1, hR1⟩ := H.open_
                  have hN : N1.bx.length ≤ 7 := Nat.le_of_eq hN1
                  have hR : N1.rw.length ≤ 0 := Nat.le_of_eq hR1
                  clear hN1 hR1
                  have hl2 : (wyE (A ++ xw ++ yw ++ B) X2).length = n := by rw [wyE_len hWX2.len, ← hnl]; simp [x2, y2]; omega
                  clear hX; have hX := And.intro @ht (And.intro @hs0 (And.intro @hl2 (And.intro @x8 (And.intro @hfll (@y8)))))
                  refine mW ?_; clear H; intro a w H
                  have hn2 : (A ++ xw ++ yw ++ B).length = n := by rw [← hnl]; simp [x2, y2]; omega
                  have hfw2 : ∀ w ∈ A ++ xw ++ yw ++ B, w.sd.length ≤ 1000 := fun w hw => by
                    simp only [List.mem_append] at hw
                    rcases hw with ((hw | hw) | hw) | hw
                    · exact hfew w (by simp [hw])
                    · have := x4 w hw; omega
                    · have := y4 w hw; omega
                    · exact hfew w (by simp [hw])
                  have a1 := maside_v yr (sum [0]) hs0 yh y8 (A ++ xw ++ yw ++ B) hfw2 n hn2 hn A.length (A.length + p) (Nat.le_add_right _ _) (by rw [← hnl]; simp; omega) X2 hWX2
                  have ea1 : asd yh A.length (A.length + p) (A ++ xw ++ yw ++ B) = A ++ xw.map (MW.aside yh) ++ yw ++ B := by
                    have := asd_mid yh A xw (yw ++ B); rw [x2] at this; simpa only [List.append_assoc] using this
                  rw [ea1, show ((A.length + p : Nat) : Int) = (A.length : Int) + (p : Int) by omega] at a1
                  refine v_callY [0, 1] (a1) hL hB hZ H (by rintro Y bx' res ⟨_, rfl, rfl⟩; exact ⟨rfl, rfl⟩) ?_
                  clear H hB hZ hN hR
                  rintro X3 bx' res a w ⟨hWX3, rfl, rfl⟩ H
                  replace H := nfY H
                  obtain ⟨N1, hB, hZ, H, hN1, hR1⟩ := H.open_
                  have hN : N1.bx.length ≤ 8 := Nat.le_of_eq hN1
                  have hR : N1.rw.length ≤ 0 := Nat.le_of_eq hR1
                  clear hN1 hR1
                  have hn3 : (A ++ xw.map (MW.aside yh) ++ yw ++ B).length = n := by rw [← hn2]; simp
                  have hl3 : (wyE (A ++ xw.map (MW.aside yh) ++ yw ++ B) X3).length = n := by rw [wyE_len hWX3.len]; exact hn3
                  have hfw3 : ∀ w ∈ A ++ xw.map (MW.aside yh) ++ yw ++ B, w.sd.length ≤ 1000 := fun w hw => by
                    simp only [List.mem_append] at hw
                    rcases hw with ((hw | hw) | hw) | hw
                    · exact hfew w (by simp [hw])
                    · obtain ⟨z, hz, rfl⟩ := List.mem_map.1 hw
                      have := x4 z hz
                      show (z.sd ++ [_]).length ≤ _
                      rw [List.length_append, List.length_singleton]; omega
                    · have := y4 w hw; omega
                    · exact hfew w (by simp [hw])
                  have a2 := maside_v yr (sum [0]) hs0 xh x8 (A ++ xw.map (MW.aside yh) ++ yw ++ B) hfw3 n hn3 hn (A.length + p) (A.length + W.length) (by omega) (by rw [← hnl]; simp) X3 hWX3
                  have ea2 : asd xh (A.length + p) (A.length + W.length) (A ++ xw.map (MW.aside yh) ++ yw ++ B) = A ++ (xw.map (MW.aside yh) ++ yw.map (MW.aside xh)) ++ B := by
                    have := asd_mid xh (A ++ xw.map (MW.aside yh)) yw B
                    rw [List.length_append, List.length_map, x2, y2, show A.length + p + (W.length - p) = A.length + W.length by omega] at this
                    rw [this]; simp only [List.append_assoc]
                  rw [ea2, show ((A.length + p : Nat) : Int) = (A.length : Int) + (p : Int) by omega] at a2
                  clear hX; have hX := And.intro @ht (And.intro @hs0 (And.intro @hl3 (And.intro @x8 (And.intro @hfll (@y8)))))
                  refine mW ?_; clear H; intro a w H
                  refine v_callY [0, 1] (a2) hL hB hZ H (by rintro Y bx' res ⟨_, rfl, rfl⟩; exact ⟨rfl, rfl⟩) ?_
                  clear H hB hZ hN hR
                  rintro X4 bx' res a w ⟨hWX4, rfl, rfl⟩ H
                  replace H := nfY H
                  obtain ⟨N1, hB, hZ, H, hN1, hR1⟩ := H.open_
                  have hN : N1.bx.length ≤ 8 := Nat.le_of_eq hN1
                  have hR : N1.rw.length ≤ 0 := Nat.le_of_eq hR1
                  clear hN1 hR1
                  have hl4 : (wyE (A ++ (xw.map (MW.aside yh) ++ yw.map (MW.aside xh)) ++ B) X4).length = n := by rw [wyE_len hWX4.len, ← hn3]; simp
                  have hin := inner_v xh yh x8 y8
                  have hinl := innerH_len xh yh
                  clear hX; have hX := And.intro @ht (And.intro @hs0 (And.intro @hl4 (And.intro @x8 (And.intro @hfll (And.intro @y8 (@hinl))))))
                  refine mW ?_; clear H; intro a w H
                  refine mCall [] [] (hin) H ?_; clear H; intro a w H; try refine wpList_nil ?_
                  refine mW ?_; clear H; intro a w H
                  refine wp_ret ?_
                  exact v_endY (rs := [.cell 12 50, .tmp 13]) (ress := [_, _]) (nb := 2) (nr := 0) [0, 1] tab_ok hM rfl (RelY.close hB hZ H) (by rfl) rfl cbX caX rfl ⟨hWX4, rfl, rfl⟩
end Go.Proofs.Ytigmpdhnhkdeiaa
/- The document's keys with a bit as said: ref04.Set, Filled; what has to be open: ref20.Open of a stretch. -/
namespace Go.Proofs.Ytigmpdhnhkdeiaa
open Go Go.RowKit
end Go.Proofs.Ytigmpdhnhkdeiaa
/- The document's keys from a depth on (ref04.Filled); what has to be open for a stretch (ref20.Open). -/
namespace Go.Proofs.Ytigmpdhnhkdeiaa
open Go Go.RowKit
end Go.Proofs.Ytigmpdhnhkdeiaa
/- What has to be open for a stretch: ref20.Open. -/
namespace Go.Proofs.Ytigmpdhnhkdeiaa
open Go Go.RowKit
end Go.Proofs.Ytigmpdhnhkdeiaa
/- Places of a sketch (plain): what the document's reader tells. -/
namespace Go.Proofs.Ytigmpdhnhkdeiaa
open Go Go.RowKit
/-- A place: its part, its digest, its depth, a key that goes there, how many parts it and all below it have. -/
structure Pl where
  b : Br
  g : List UInt8
  d : Nat
  p : List UInt8
  n : Nat
def Tr.part : Tr → Br
  | .e => ⟨0, z32, z32, z32⟩
  | .c g => ⟨3, z32, z32, g⟩
  | .l k v => ⟨1, k, v, z32⟩
  | .n _ _ => ⟨2, z32, z32, z32⟩
def Tr.num : Tr → Nat
  | .n a b => 1 + a.num + b.num
  | _ => 1
def Tr.pl : Tr → List UInt8 → Nat → List Pl
  | .n a b, p, d => ⟨⟨2, z32, z32, z32⟩, innerH a.dg b.dg, d, p, 1 + a.num + b.num⟩ :: (a.pl p (d + 1) ++ b.pl (flipL p d) (d + 1))
  | .e, p, d => [⟨Tr.e.part, Tr.e.dg, d, p, 1⟩]
  | .c g, p, d => [⟨(Tr.c g).part, (Tr.c g).dg, d, p, 1⟩]
  | .l k v, p, d => [⟨(Tr.l k v).part, (Tr.l k v).dg, d, p, 1⟩]
theorem Tr.num_pos (t : Tr) : 0 < t.num := by cases t <;> simp [Tr.num]; omega
theorem Tr.pl_len (t : Tr) : ∀ p d, (t.pl p d).length = t.num := by
  induction t with
  | n a b ha hb => intro p d; simp only [Tr.pl, List.length_cons, List.length_append, ha, hb, Tr.num]; omega
  | _ => intro p d; rfl
theorem Tr.pl_head (t : Tr) (p : List UInt8) (d : Nat) : ∃ r, t.pl p d = ⟨t.part, t.dg, d, p, t.num⟩ :: r := by
  cases t <;> exact ⟨_, rfl⟩
theorem clean_e {b : Br} (h : b.clean = true) : (b.k = 0 → b = Tr.e.part) ∧ (b.k = 1 → b = (Tr.l b.key b.v).part) ∧ (b.k = 2 → b = ⟨2, z32, z32, z32⟩) ∧ (b.k = 3 → b = (Tr.c b.g).part) := by
  obtain ⟨k, key, v, g⟩ := b
  refine ⟨fun e => ?_, fun e => ?_, fun e => ?_, fun e => ?_⟩ <;> dsimp only at e <;> subst e <;> unfold Br.clean at h
  · rw [if_pos (Or.inl rfl), decide_eq_true_iff] at h; obtain ⟨h1, h2, h3⟩ := h; dsimp only at h1 h2 h3; rw [h1, h2, h3]; rfl
  · rw [if_neg (by dsimp only; decide), if_pos rfl, decide_eq_true_iff] at h; dsimp only at h; rw [h]; rfl
  · rw [if_pos (Or.inr rfl), decide_eq_true_iff] at h; obtain ⟨h1, h2, h3⟩ := h; dsimp only at h1 h2 h3; rw [h1, h2, h3]
  · rw [if_neg (by dsimp only; decide), if_neg (by dsimp only; decide), if_pos rfl, decide_eq_true_iff] at h; obtain ⟨h1, h2⟩ := h; dsimp only at h1 h2; rw [h1, h2]; rfl
/-- The document's reader. -/
def rdP (op : List UInt8 → Nat → Bool) : Nat → List Br → List UInt8 → Nat → List Pl × Bool
  | 0, _, _, _ => ([], false)
  | _ + 1, [], _, _ => ([], false)
  | f + 1, b :: r, p, d =>
    if b.clean = false then ([], false)
    else if b.k = 0 then ([⟨b, sum [0], d, p, 1⟩], true)
    else if op p d = false then ([⟨b, b.g, d, p, 1⟩], decide (b.k = 3))
    else if b.k = 1 then ([⟨b, leafH b.key b.v, d, p, 1⟩], und d b.key p)
    else if b.k ≠ 2 ∨ 255 < d then ([], false)
    else
      let x := rdP op f r p (d + 1)
      if x.2 = false then ([], false) else
      let y := rdP op f ((b :: r).drop (1 + ((x.1.head?.map Pl.n).getD 0))) (flipL p d) (d + 1)
      if y.2 = false then ([], false) else
      (⟨b, innerH ((x.1.head?.map Pl.g).getD z32) ((y.1.head?.map Pl.g).getD z32), d, p, 1 + ((x.1.head?.map Pl.n).getD 0) + ((y.1.head?.map Pl.n).getD 0)⟩ :: (x.1 ++ y.1), true)
theorem rdP_some {op : List UInt8 → Nat → Bool} : ∀ {f : Nat} {p : List UInt8} {d : Nat} {l : List Br} {t : Tr} {r : List Br}, f + d = 257 → rdTr op f p d l = some (t, r) → rdP op f l p d = (t.pl p d, true) ∧ l.drop t.num = r ∧ t.num ≤ l.length
  | 0, p, d, l, t, r, _, h => by simp [rdTr] at h
  | f + 1, p, d, [], t, r, _, h => by simp [rdTr] at h
  | f + 1, p, d, b :: rest, t, r, hf, h => by
    unfold rdTr at h
    unfold rdP
    split at h
    · cases h
    · rename_i h1
      rw [if_neg h1]
      have hc := clean_e (by simpa using h1)
      split at h
      · rename_i h2
        simp only [Option.some.injEq, Prod.mk.injEq] at h; obtain ⟨rfl, rfl⟩ := h
        rw [if_pos h2]
        refine ⟨?_, rfl, by simp [Tr.num]⟩
        rw [hc.1 h2]; rfl
      · rename_i h2
        rw [if_neg h2]
        split at h
        · rename_i h3
          split at h
          · cases h
          · rename_i h4
            simp only [Option.some.injEq, Prod.mk.injEq] at h; obtain ⟨rfl, rfl⟩ := h
            rw [if_pos (by simpa using h4)]
            refine ⟨?_, rfl, by simp [Tr.num]⟩
            simp only [Tr.pl, Tr.dg, Prod.mk.injEq, List.cons.injEq, Pl.mk.injEq, and_true]
            exact ⟨hc.2.2.2 h3, decide_eq_true h3⟩
        · rename_i h3
          split at h
          · cases h
          · rename_i h4
            rw [if_neg h4]
            split at h
            · rename_i h5
              rw [if_pos h5]
              split at h
              · rename_i h6
                simp only [Option.some.injEq, Prod.mk.injEq] at h; obtain ⟨rfl, rfl⟩ := h
                refine ⟨?_, rfl, by simp [Tr.num]⟩
                simp only [Tr.pl, Tr.dg, Prod.mk.injEq, List.cons.injEq, Pl.mk.injEq, and_true]
                exact ⟨hc.2.1 h5, h6⟩
              · cases h
            · rename_i h5
              rw [if_neg h5]
              split at h
              · cases h
              · rename_i h6
                have hk2 : b.k = 2 := by
                  rcases Br.clean_k (by simpa using h1) with q | q | q | q
                  · exact absurd q h2
                  · exact absurd q h5
                  · exact q
                  · exact absurd q h3
                rw [if_neg (by rintro (q | q); exact q hk2; omega)]
                split at h
                · cases h
                · rename_i x r1 e1
                  split at h
                  · cases h
                  · rename_i y r2 e2
                    simp only [Option.some.injEq, Prod.mk.injEq] at h; obtain ⟨rfl, rfl⟩ := h
                    obtain ⟨a1, a2, a3⟩ := rdP_some (by omega) e1
                    obtain ⟨b1, b2, b3⟩ := rdP_some (by omega) e2
                    obtain ⟨q1, hq1⟩ := x.pl_head p (d + 1)
                    obtain ⟨q2, hq2⟩ := y.pl_head (flipL p d) (d + 1)
                    have hdr : (b :: rest).drop (1 + x.num) = r1 := by rw [Nat.add_comm, List.drop_succ_cons]; exact a2
                    have hd1 : (((x.pl p (d + 1)).head?.map Pl.n).getD 0) = x.num := by rw [hq1]; rfl
                    have hd2 : (((y.pl (flipL p d) (d + 1)).head?.map Pl.n).getD 0) = y.num := by rw [hq2]; rfl
                    have hd3 : (((x.pl p (d + 1)).head?.map Pl.g).getD z32) = x.dg := by rw [hq1]; rfl
                    have hd4 : (((y.pl (flipL p d) (d + 1)).head?.map Pl.g).getD z32) = y.dg := by rw [hq2]; rfl
                    rw [a1]
                    dsimp only
                    rw [if_neg (by simp), hd1, hdr, b1]
                    dsimp only
                    rw [if_neg (by simp), hd2, hd3, hd4]
                    have hr1 : r1.length = rest.length - x.num := by rw [← a2, List.length_drop]
                    refine ⟨?_, ?_, ?_⟩
                    · simp only [Tr.pl, Prod.mk.injEq, List.cons.injEq, Pl.mk.injEq, and_true]
                      exact hc.2.2.1 hk2
                    · rw [Tr.num, show 1 + x.num + y.num = (x.num + y.num) + 1 by omega, List.drop_succ_cons, ← b2, ← a2, List.drop_drop]
                    · simp only [Tr.num, List.length_cons]; omega
end Go.Proofs.Ytigmpdhnhkdeiaa
/- A key's way through places (plain). -/
namespace Go.Proofs.Ytigmpdhnhkdeiaa
open Go Go.RowKit
/-- The place at which a key's way ends. -/
def Tr.last (key : List UInt8) : Nat → Tr → Tr
  | d, .n a b => if bitN key d then b.last key (d + 1) else a.last key (d + 1)
  | _, .e => .e
  | _, .c g => .c g
  | _, .l k v => .l k v
/-- A place of a list of places: a tree there, and what is after it. -/
def AtP (l : List Pl) (i : Nat) (u : Tr) (q : List UInt8) (e : Nat) : Prop := ∃ r, l.drop i = u.pl q e ++ r
theorem AtP.top (t : Tr) (p : List UInt8) (d : Nat) : AtP (t.pl p d) 0 t p d := ⟨[], by simp⟩
theorem AtP.get {l : List Pl} {i : Nat} {u : Tr} {q : List UInt8} {e : Nat} (h : AtP l i u q e) : i + u.num ≤ l.length ∧ l[i]? = some ⟨u.part, u.dg, e, q, u.num⟩ := by
  obtain ⟨r, h⟩ := h
  obtain ⟨r2, h2⟩ := u.pl_head q e
  have hl := congrArg List.length h
  rw [List.length_drop, List.length_append, Tr.pl_len] at hl
  have hp := u.num_pos
  refine ⟨by omega, ?_⟩
  have := congrArg (fun x => x[0]?) h
  simp only [List.getElem?_drop, Nat.add_zero] at this
  rw [this, h2]; rfl
theorem AtP.left {l : List Pl} {i : Nat} {a b : Tr} {q : List UInt8} {e : Nat} (h : AtP l i (.n a b) q e) : AtP l (i + 1) a q (e + 1) := by
  obtain ⟨r, h⟩ := h
  refine ⟨b.pl (flipL q e) (e + 1) ++ r, ?_⟩
  rw [← List.drop_drop, h]
  simp only [Tr.pl, List.cons_append, List.drop_succ_cons, List.drop_zero, List.append_assoc]
theorem AtP.right {l : List Pl} {i : Nat} {a b : Tr} {q : List UInt8} {e : Nat} (h : AtP l i (.n a b) q e) : AtP l (i + 1 + a.num) b (flipL q e) (e + 1) := by
  obtain ⟨r, h⟩ := h
  refine ⟨r, ?_⟩
  rw [← List.drop_drop, ← List.drop_drop, h]
  simp only [Tr.pl, List.cons_append, List.drop_succ_cons, List.drop_zero, List.append_assoc]
  rw [← Tr.pl_len a q (e + 1), List.drop_left]
def Pl.leaf (x : Pl) : Option (List UInt8 × List UInt8) := if x.b.k = 1 then some (x.b.key, x.b.v) else none
end Go.Proofs.Ytigmpdhnhkdeiaa
/- The document's reader of a sketch: ref20.Read, by what has to be open. -/
namespace Go.Proofs.Ytigmpdhnhkdeiaa
open Go Go.RowKit
def Pl.av (x : Pl) : AV := .st [x.b.av, .ba x.g, .v (.int .i64 (x.d : Int)), .ba x.p, .v (.int .i64 (x.n : Int))]
theorem rd_dgl : ∀ {op : List UInt8 → Nat → Bool} {f : Nat} {p : List UInt8} {d : Nat} {l : List Br} {t : Tr} {r : List Br}, (∀ b ∈ l, b.wf) → rdTr op f p d l = some (t, r) → t.dg.length = 32 ∧ ∀ b ∈ r, b.wf
  | op, 0, p, d, l, t, r, _, h => by simp [rdTr] at h
  | op, f + 1, p, d, [], t, r, _, h => by simp [rdTr] at h
  | op, f + 1, p, d, b :: rest, t, r, hw, h => by
    have hw2 : ∀ b ∈ rest, b.wf := fun b hb => hw b (List.mem_cons_of_mem _ hb)
    unfold rdTr at h
    split at h
    · cases h
    · split at h
      · simp only [Option.some.injEq, Prod.mk.injEq] at h; obtain ⟨rfl, rfl⟩ := h; exact ⟨sum_length _, hw2⟩
      · split at h
        · split at h
          · cases h
          · simp only [Option.some.injEq, Prod.mk.injEq] at h; obtain ⟨rfl, rfl⟩ := h; exact ⟨(hw b List.mem_cons_self).g, hw2⟩
        · split at h
          · cases h
          · split at h
            · split at h
              · simp only [Option.some.injEq, Prod.mk.injEq] at h; obtain ⟨rfl, rfl⟩ := h; exact ⟨leafH_len _ _, hw2⟩
              · cases h
            · split at h
              · cases h
              · split at h
                · cases h
                · rename_i x r1 e1
                  split at h
                  · cases h
                  · rename_i y r2 e2
                    simp only [Option.some.injEq, Prod.mk.injEq] at h; obtain ⟨rfl, rfl⟩ := h
                    exact ⟨innerH_len _ _, (rd_dgl (rd_dgl hw2 e1).2 e2).2⟩
attribute [local irreducible] wpT
end Go.Proofs.Ytigmpdhnhkdeiaa
/- The document's reader of a sketch at an inner place. -/
namespace Go.Proofs.Ytigmpdhnhkdeiaa
open Go Go.RowKit
attribute [local irreducible] wpT
end Go.Proofs.Ytigmpdhnhkdeiaa
/- The document's reader of a sketch at an inner place. -/
namespace Go.Proofs.Ytigmpdhnhkdeiaa
open Go Go.RowKit
attribute [local irreducible] wpT
end Go.Proofs.Ytigmpdhnhkdeiaa
/- The document's reader of a sketch at an inner place. -/
namespace Go.Proofs.Ytigmpdhnhkdeiaa
open Go Go.RowKit
attribute [local irreducible] wpT
end Go.Proofs.Ytigmpdhnhkdeiaa
/- A reader of a stretch: (*span.reader).place. -/
namespace Go.Proofs.Ytigmpdhnhkdeiaa
open Go Go.RowKit

end Go.Proofs.Ytigmpdhnhkdeiaa
/- slices.Reverse of digests, in memory that may be written. -/
namespace Go.Proofs.Ytigmpdhnhkdeiaa
open Go Go.RowKit
def revG (n k : Nat) (g : Nat → List UInt8) (t : Nat) : List UInt8 := if t < k ∨ n ≤ t + k then g (n - 1 - t) else g t
def revF (n k : Nat) (g : Nat → List UInt8) : List AV := (List.range n).map fun t => .ba (revG n k g t)
theorem revF_len (n k : Nat) (g : Nat → List UInt8) : (revF n k g).length = n := by simp [revF]
theorem revF_get (n k : Nat) (g : Nat → List UInt8) (t : Nat) (h : t < n) : (revF n k g).getD t .any = .ba (revG n k g t) := by simp [revF, List.getD_eq_getElem?_getD, h]
theorem revF_zero (ls : List (List UInt8)) : revF ls.length 0 (fun t => ls.getD t []) = bas ls := by
  apply List.ext_getElem (by simp [revF, bas])
  intro i h1 h2
  simp [revF] at h1
  simp [revF, bas, revG, h1]
  omega
theorem revF_end (ls : List (List UInt8)) (k : Nat) (hk : ls.length ≤ 2 * k + 1) : revF ls.length k (fun t => ls.getD t []) = bas ls.reverse := by
  apply List.ext_getElem (by simp [revF, bas])
  intro i h1 h2
  simp [revF] at h1
  simp only [revF, bas, revG, List.getElem_map, List.getElem_range, List.getElem_reverse, AV.ba.injEq]
  split
  · rw [List.getD_eq_getElem?_getD, List.getElem?_eq_getElem (by omega)]; rfl
  · rw [List.getD_eq_getElem?_getD, List.getElem?_eq_getElem (by omega)]
    have : i = ls.length - 1 - i := by omega
    simp only [Option.getD_some]; congr 1
theorem revF_step (n k : Nat) (g : Nat → List UInt8) (h : 2 * k + 1 < n) : ((revF n k g).set k (.ba (g (n - 1 - k)))).set (n - 1 - k) (.ba (g k)) = revF n (k + 1) g := by
  apply List.ext_getElem (by simp [revF])
  intro i h1 h2
  simp [revF] at h2
  rw [List.getElem_set]
  split
  · rename_i e; subst e
    simp only [revF, revG, List.getElem_map, List.getElem_range, AV.ba.injEq]
    rw [if_pos (by omega), show n - 1 - (n - 1 - k) = k by omega]
  · rw [List.getElem_set]
    split
    · rename_i e; subst e
      simp only [revF, revG, List.getElem_map, List.getElem_range, AV.ba.injEq]
      rw [if_pos (by omega)]
    · simp only [revF, revG, List.getElem_map, List.getElem_range, AV.ba.injEq]
      by_cases hh : i < k ∨ n ≤ i + k
      · rw [if_pos hh, if_pos (by omega)]
      · rw [if_neg hh, if_neg (by omega)]
set_option maxRecDepth 20000 in
theorem revV_v (ls : List (List UInt8)) (γ : Nat) (hl : ls.length ≤ 1000000) (h32 : ∀ x ∈ ls, x.length = 32) :
    VX Try.prog 180 [(.vc 50 (.ba 32), .vc γ (bas ls))] [] [] [.vw 0 γ ls.length] [(.vc 50 (.ba 32), .vc γ (bas ls.reverse))] [] [] (.tup []) := by
  rw [← revF_zero ls]
  have hend := revF_end ls
  obtain ⟨g, hg⟩ : ∃ g : Nat → List UInt8, g = fun t => ls.getD t [] := ⟨_, rfl⟩
  have hg32 : ∀ t, t < ls.length → (g t).length = 32 := fun t ht => by
    rw [hg]; dsimp only; rw [List.getD_eq_getElem?_getD, List.getElem?_eq_getElem ht]; exact h32 _ (List.getElem_mem ht)
  rw [← hg] at hend ⊢
  generalize ls.reverse = lr at *
  generalize ls.length = n at *
  clear hg h32
  have hl0 := revF_len n 0 g
  have e00 : (n : Int) - 1 - ((0 : Nat) : Int) = (n : Int) - 1 := by omega
  refine mE Try.func180 ?_; intro N w0 a w hN hR H
  refine mW ?_; clear H; intro a w H
  refine v_loop (fun k : Nat => ⟨[(3, none, .v (.int .i64 ((n : Int) - 1 - (k : Int)))), (2, none, .v (.int .i64 (k : Int))), (0, none, .vw 0 γ n)], [(.vc 50 (.ba 32), .vc γ (revF n k g))], [], []⟩) (fun k => 2 * k ≤ n) (fun k => n - k) 0 (by omega)
    (H.to 1 0 ⟨Nat.le_trans hN (Nat.le_of_ble_eq_true rfl), hR⟩ ⟨by rw [e00]; rfl, rfl, rfl, trivial⟩ rfl rfl rfl rfl rfl) ?_
  clear H
  intro k a w hk H
  have hlk := revF_len n k g
  have hX := @hlk
  refine mW ?_; clear H; intro a w H
  refine mC H (fun hb => ?_) (fun hb => ?_)
  · have hlt : 2 * k + 1 < n := by rw [decide_eq_true_eq] at hb; omega
    clear hb
    have e1 : ((n : Int) - 1 - (k : Int)).toNat = n - 1 - k := by omega
    have g1 := revF_get n k g k (by omega)
    have g2 := revF_get n k g (n - 1 - k) (by omega)
    have r1 : revG n k g k = g k := by unfold revG; rw [if_neg (by omega)]
    have r2 : revG n k g (n - 1 - k) = g (n - 1 - k) := by unfold revG; rw [if_neg (by omega)]
    rw [r1] at g1
    rw [r2] at g2
    have q1 := hg32 k (by omega)
    have q2 := hg32 (n - 1 - k) (by omega)
    have hst := revF_step n k g hlt
    clear hX; have hX := And.intro @hlk (And.intro @e1 (And.intro @g1 (And.intro @g2 (And.intro @q1 (@q2)))))
    refine mS ?_; refine mD 0 [13, 15] [2, 3] H ?_; clear H; intro gS H
    refine mT ?_; clear H; intro a w H
    refine v_drawNil H ?_; clear H; intro H
    refine mW ?_; clear H; intro a w H
    rw [hst, show (n : Int) - 1 - (k : Int) - 1 = (n : Int) - 1 - ((k + 1 : Nat) : Int) by omega, show (k : Int) + 1 = ((k + 1 : Nat) : Int) by omega] at H
    exact ⟨k + 1, by omega, by omega, H.to 1 0 ⟨Nat.le_trans hN (Nat.le_of_ble_eq_true rfl), hR⟩ ⟨rfl, rfl, rfl, trivial⟩ rfl rfl rfl rfl rfl⟩
  · have hge : n ≤ 2 * k + 1 := by rw [decide_eq_false_iff_not] at hb; omega
    rw [hend k hge] at H
    refine mW ?_; clear H; intro a w H
    exact mEnd [0] [] [] [] hN hR H
end Go.Proofs.Ytigmpdhnhkdeiaa
/- Proofs as bytes: the document's. -/
namespace Go.Proofs.Ytigmpdhnhkdeiaa
open Go Go.RowKit
end Go.Proofs.Ytigmpdhnhkdeiaa
/- A region at a function's end in which the named results are loaded and stored again: nothing changes. -/
namespace Go.Proofs.Ytigmpdhnhkdeiaa
open Go Go.RowKit
section
variable {P : Program} {τ : Tab} {w0 w : World} {N : Gh} {st : St} {nt : Nat} {a : Act}
end
end Go.Proofs.Ytigmpdhnhkdeiaa
/- What bytes say to whoever knows the root: verify, and the document's. -/
namespace Go.Proofs.Ytigmpdhnhkdeiaa
open Go Go.RowKit
end Go.Proofs.Ytigmpdhnhkdeiaa
/- span.read: what is read of a span. -/
namespace Go.Proofs.Ytigmpdhnhkdeiaa
open Go Go.RowKit
/-- A span. -/
structure Sp where
  p : List Br
  v : List (List UInt8)
structure Sp.wf (s : Sp) : Prop where
  p : ∀ b ∈ s.p, b.wf
  lp : s.p.length ≤ 90000
  lv : s.v.length ≤ 90000
  v : ∀ x ∈ s.v, x.length ≤ 34359730000
def Sp.av (s : Sp) : AV := .st [.sl brT (brs s.p) none, .sl .sc (bss s.v) none]
attribute [local irreducible] wpT
end Go.Proofs.Ytigmpdhnhkdeiaa
/- Entries. -/
namespace Go.Proofs.Ytigmpdhnhkdeiaa
open Go Go.RowKit
end Go.Proofs.Ytigmpdhnhkdeiaa
/- span.Check, Root, Single. -/
namespace Go.Proofs.Ytigmpdhnhkdeiaa
open Go Go.RowKit
attribute [local irreducible] wpT
end Go.Proofs.Ytigmpdhnhkdeiaa
/- A key's way through places: ref20.Way. -/
namespace Go.Proofs.Ytigmpdhnhkdeiaa
open Go Go.RowKit
/-- Digests and keys are as long as they should be; no inner place too deep. -/
def Tr.okd : Nat → Tr → Prop
  | d, .n a b => d < 256 ∧ a.dg.length = 32 ∧ b.dg.length = 32 ∧ a.okd (d + 1) ∧ b.okd (d + 1)
  | _, .l k v => k.length = 32 ∧ v.length = 32
  | _, _ => True
theorem rd_okd {op : List UInt8 → Nat → Bool} : ∀ {f : Nat} {p : List UInt8} {d : Nat} {l : List Br} {t : Tr} {r : List Br}, (∀ b ∈ l, b.wf) → rdTr op f p d l = some (t, r) → t.okd d
  | 0, p, d, l, t, r, _, h => by simp [rdTr] at h
  | f + 1, p, d, [], t, r, _, h => by simp [rdTr] at h
  | f + 1, p, d, b :: rest, t, r, hw, h => by
    have hw2 : ∀ b ∈ rest, b.wf := fun b hb => hw b (List.mem_cons_of_mem _ hb)
    unfold rdTr at h
    split at h
    · cases h
    · split at h
      · simp only [Option.some.injEq, Prod.mk.injEq] at h; obtain ⟨rfl, rfl⟩ := h; trivial
      · split at h
        · split at h
          · cases h
          · simp only [Option.some.injEq, Prod.mk.injEq] at h; obtain ⟨rfl, rfl⟩ := h; trivial
        · split at h
          · cases h
          · split at h
            · split at h
              · simp only [Option.some.injEq, Prod.mk.injEq] at h; obtain ⟨rfl, rfl⟩ := h
                exact ⟨(hw b List.mem_cons_self).key, (hw b List.mem_cons_self).v⟩
              · cases h
            · split at h
              · cases h
              · rename_i h6
                split at h
                · cases h
                · rename_i x r1 e1
                  split at h
                  · cases h
                  · rename_i y r2 e2
                    simp only [Option.some.injEq, Prod.mk.injEq] at h; obtain ⟨rfl, rfl⟩ := h
                    obtain ⟨x1, x2⟩ := rd_dgl hw2 e1
                    exact ⟨by omega, x1, (rd_dgl x2 e2).1, rd_okd hw2 e1, rd_okd x2 e2⟩
def Tr.end_ (t : Tr) : Nd := ⟨t.part.k, t.part.key, t.part.v, z32, z32⟩
/-- Where a key's way has come to. -/
structure WI where
  i : Nat
  u : Tr
  q : List UInt8
  e : Nat
  sd : List (List UInt8)
structure WI.ok (L : List Pl) (key : List UInt8) (W : List (List UInt8)) (T : Tr) (x : WI) : Prop where
  at_ : AtP L x.i x.u x.q x.e
  way : W = x.sd ++ x.u.way key x.e
  last : T = x.u.last key x.e
  sd : ∀ g ∈ x.sd, g.length = 32
  okd : x.u.okd x.e
  len : x.sd.length = x.e
attribute [local irreducible] wpT
end Go.Proofs.Ytigmpdhnhkdeiaa
/- proof.Says, proof.Holds. -/
namespace Go.Proofs.Ytigmpdhnhkdeiaa
open Go Go.RowKit
def saysB (key : List UInt8) (p : Pf) : Bool := decide (p.e.k = 1) && decide (p.e.key = key)
def saysH (key : List UInt8) (p : Pf) : List UInt8 := if saysB key p then p.e.v else z32
theorem saysH_len (key : List UInt8) (p : Pf) (hw : p.wf) : (saysH key p).length = 32 := by unfold saysH; split; exact hw.e.v; exact z32_len
theorem k1b (k : UInt8) : decide ((k.toNat : Int) = 1) = decide (k = 1) := by
  rw [decide_eq_decide]
  exact ⟨fun h => UInt8.toNat_inj.1 (by simp; omega), fun h => by rw [h]; rfl⟩
theorem says_v (key : List UInt8) (hk : key.length = 32) (p : Pf) (hw : p.wf) : VC Try.prog 54 [.ba key, p.av] [] (.tup [.v (.bool (saysB key p)), .ba (saysH key p)]) := by
  obtain ⟨s, ⟨k, ek, ev, el, er⟩⟩ := p
  obtain ⟨_, ⟨q1, q2, q3, q4⟩⟩ := id hw
  dsimp only at q1 q2 q3 q4
  unfold saysH saysB
  have k1 := k1b k
  dsimp only
  refine mE Try.func54 ?_; intro N w0 a w hN hR H
  simp only [Pf.av, Nd.av] at H
  have hX := And.intro @hk (And.intro @q1 (And.intro @q2 (And.intro @q3 (@q4))))
  refine mW ?_; clear H; intro a w H
  simp only [k1] at H
  refine mC H (fun hb => ?_) (fun hb => ?_)
  · have e : (decide (k = 1) && decide (ek = key)) = true := by
      cases hd : decide (k = 1)
      · rw [hd] at hb; cases hb
      · rw [hd] at hb; rw [Bool.true_and]; exact hb
    rw [e, if_pos rfl]
    refine mS ?_; refine mD 0 [4] [] H ?_; clear H; intro gS H
    refine mT ?_; clear H; intro a w H
    refine v_drawNil H ?_; clear H; intro H
    refine mS ?_
    refine wp_ret ?_; exact mEnd [] [] [.tmp 4, .cell 5 50] [_, _] hN hR H
  · have e : (decide (k = 1) && decide (ek = key)) = false := by
      cases hd : decide (k = 1)
      · rfl
      · rw [hd] at hb; rw [Bool.true_and]; exact hb
    rw [e, if_neg (by decide)]
    simp only [z32]
    refine mW ?_; clear H; intro a w H
    refine wp_ret ?_; exact mEnd [] [] [.tmp 4, .cell 5 50] [_, _] hN hR H
def holdsB (root key : List UInt8) (p : Pf) : Bool := decide (topH key p = root) && (!decide (p.e.k = 1) || decide (p.s.length ≤ com p.e.key key))
theorem holds_v (root key : List UInt8) (hr : root.length = 32) (hk : key.length = 32) (p : Pf) (hw : p.wf) (hc : p.chk = 0) : VC Try.prog 55 [.ba root, .ba key, p.av] [] (.tup [.v (.bool (holdsB root key p)), errv 0]) := by
  have hu := up_v key hk p hw hc
  have htl := topH_len key p
  obtain ⟨hs256, _, _⟩ := chk_all hc
  unfold holdsB
  generalize topH key p = T at *
  obtain ⟨s, ⟨k, ek, ev, el, er⟩⟩ := p
  obtain ⟨_, ⟨q1, q2, q3, q4⟩⟩ := id hw
  dsimp only at q1 q2 q3 q4 hs256
  have k1 := k1b k
  have hun := under_v ek key q1 hk (s.length : Int)
  have hsl := bas_len s
  have eu : decide (0 ≤ (s.length : Int) ∧ (s.length : Int) ≤ 256 ∧ (s.length : Int) ≤ (com ek key : Int)) = decide (s.length ≤ com ek key) := by
    rw [decide_eq_decide]; omega
  rw [eu] at hun
  dsimp only
  simp only [Pf.av, Nd.av] at hu ⊢
  refine mE Try.func55 ?_; intro N w0 a w hN hR H
  have hX := And.intro @hr (And.intro @hk (And.intro @q1 (And.intro @q2 (And.intro @q3 (And.intro @q4 (And.intro @htl (@hsl)))))))
  refine mW ?_; clear H; intro a w H
  refine mCall [] [] (hu) H ?_; clear H; intro a w H; try refine wpList_nil ?_
  refine mW ?_; clear H; intro a w H
  refine mC H (fun hb => ?_) (fun hb => ?_)
  · exact absurd hb (by decide)
  · refine mW ?_; clear H; intro a w H
    refine mCallG [] [] (hun) H ?_; clear H; intro a w H; try refine wpList_nil ?_
    refine mW ?_; clear H; intro a w H
    simp only [k1] at H
    have e : (decide (T = root) && (!decide (k = 1) || decide (s.length ≤ com ek key))) = (bif decide (T = root) then (bif !decide (k = 1) then true else decide (s.length ≤ com ek key)) else false) := by
      cases decide (T = root) <;> cases decide (k = 1) <;> rfl
    rw [e]
    refine wp_ret ?_; exact mEnd [] [] [.tmp 6, .tmp 7] [_, _] hN hR H
end Go.Proofs.Ytigmpdhnhkdeiaa
/- What a span says of a key (plain). -/
namespace Go.Proofs.Ytigmpdhnhkdeiaa
open Go Go.RowKit
end Go.Proofs.Ytigmpdhnhkdeiaa
/- What the document tells of a span (plain). -/
namespace Go.Proofs.Ytigmpdhnhkdeiaa
open Go Go.RowKit
theorem rd_num {op : List UInt8 → Nat → Bool} {f : Nat} {p : List UInt8} {d : Nat} {l : List Br} {t : Tr} {r : List Br} (hf : f + d = 257) (h : rdTr op f p d l = some (t, r)) : t.num ≤ l.length ∧ l.drop t.num = r := by
  obtain ⟨_, h2, h3⟩ := rdP_some hf h; exact ⟨h3, h2⟩
end Go.Proofs.Ytigmpdhnhkdeiaa
/- What has to be open for keys: ref20.Open. -/
namespace Go.Proofs.Ytigmpdhnhkdeiaa
open Go Go.RowKit
attribute [local irreducible] wpT
end Go.Proofs.Ytigmpdhnhkdeiaa
/- The document's places of a sketch for keys: ref20.Places. -/
namespace Go.Proofs.Ytigmpdhnhkdeiaa
open Go Go.RowKit
def opK (ks : List (List UInt8)) (top : List UInt8) (d : Nat) : Bool := ks.any fun k => und d k top
/-- Rising keys. -/
def upK : List (List UInt8) → Bool
  | a :: b :: l => decide (Lib.compareBytes a b < 0) && upK (b :: l)
  | _ => true
theorem upK_drop (ks : List (List UInt8)) (k : Nat) (h : k + 1 < ks.length) : upK (ks.drop k) = (decide (Lib.compareBytes (ks[k]'(by omega)) ks[k + 1] < 0) && upK (ks.drop (k + 1))) := by
  rw [List.drop_eq_getElem_cons (show k < ks.length by omega), List.drop_eq_getElem_cons h]; rfl
theorem upK_end (ks : List (List UInt8)) (k : Nat) (h : ks.length ≤ k + 1) : upK (ks.drop k) = true := by
  match hq : ks.drop k with
  | [] => rfl
  | [a] => rfl
  | a :: b :: l =>
    have := congrArg List.length hq
    rw [List.length_drop] at this
    simp only [List.length_cons] at this
    omega
def muR (ks : List (List UInt8)) (p : List Br) : Option (Tr × List Br) := rdTr (opK ks) 257 (List.replicate 32 0) 0 p
/-- The error of a sketch for keys. -/
def muE (ks : List (List UInt8)) (p : List Br) : Int :=
  if 64 < ks.length ∨ 65536 < p.length then 4 else if upK ks = false then 2 else match muR ks p with
    | some (_, []) => 0
    | _ => 11
def muT (ks : List (List UInt8)) (p : List Br) : Tr := match muR ks p with
  | some (t, _) => t
  | none => .e
def muPl (ks : List (List UInt8)) (p : List Br) : List Pl := if muE ks p = 0 then (muT ks p).pl (List.replicate 32 0) 0 else []
attribute [local irreducible] wpT
end Go.Proofs.Ytigmpdhnhkdeiaa
/- What a way says of a key: ref20.Said. -/
namespace Go.Proofs.Ytigmpdhnhkdeiaa
open Go Go.RowKit
def saidA (n : Nd) (key : List UInt8) : AV := if n.k = 1 ∧ n.key = key then .st [.v (.bool true), .ba n.v] else .st [.v (.bool false), .ba z32]
attribute [local irreducible] wpT
end Go.Proofs.Ytigmpdhnhkdeiaa
/- A key's way in a sketch for keys: ref20.Single. -/
namespace Go.Proofs.Ytigmpdhnhkdeiaa
open Go Go.RowKit
theorem fin_wf (key : List UInt8) : ∀ (t : Tr) (d : Nat), (∀ x ∈ t.leaves, x.1.length = 32 ∧ x.2.length = 32) → (t.fin key d Nd.zero).wf
  | .e, _, _ => zero_wf
  | .c _, _, _ => zero_wf
  | .l k v, _, h => Nd.one_wf2 (h (k, v) (List.mem_singleton.2 rfl)).1 (h (k, v) (List.mem_singleton.2 rfl)).2
  | .n a b, d, h => by
    unfold Tr.fin
    split
    · exact fin_wf key b (d + 1) fun x hx => h x (List.mem_append_right _ hx)
    · exact fin_wf key a (d + 1) fun x hx => h x (List.mem_append_left _ hx)
theorem muE_zero {ks : List (List UInt8)} {p : List Br} (hw : ∀ b ∈ p, b.wf) (he : muE ks p = 0) : ks.length ≤ 64 ∧ p.length ≤ 65536 ∧ upK ks = true ∧ ∃ t, muR ks p = some (t, []) ∧ muT ks p = t ∧ muPl ks p = t.pl (List.replicate 32 0) 0 ∧ t.okd 0 ∧ t.num ≤ 65536 ∧ t.dg.length = 32 ∧ ∀ x ∈ t.leaves, x.1.length = 32 ∧ x.2.length = 32 := by
  have he0 := he
  unfold muE at he
  split at he
  · cases he
  · rename_i h1
    split at he
    · cases he
    · rename_i h2
      cases ht : muR ks p with
      | none => rw [ht] at he; cases he
      | some Q =>
        obtain ⟨t, r⟩ := Q
        rw [ht] at he
        cases r with
        | cons b r => cases he
        | nil =>
          have ht' : rdTr (opK ks) 257 (List.replicate 32 0) 0 p = some (t, []) := ht
          obtain ⟨_, p2, p3, p4, _, _⟩ := rd_parts ht' hw
          have hn := (rd_num (by omega) ht').1
          have hmt : muT ks p = t := by unfold muT; rw [ht]
          refine ⟨by omega, by omega, by simpa using h2, t, rfl, hmt, ?_, rd_okd hw ht', by omega, p2, p3⟩
          unfold muPl; rw [if_pos he0, hmt]
def muS (ks : List (List UInt8)) (p : List Br) (i : Int) : Int := if muE ks p = 0 then (if 0 ≤ i ∧ i < (ks.length : Int) then 0 else 2) else muE ks p
def muW (ks : List (List UInt8)) (p : List Br) (i : Int) : Pf := if muE ks p = 0 ∧ 0 ≤ i ∧ i < (ks.length : Int) then ⟨(muT ks p).way (ks.getD i.toNat []) 0, (muT ks p).fin (ks.getD i.toNat []) 0 Nd.zero⟩ else ⟨[], Nd.zero⟩
attribute [local irreducible] wpT
end Go.Proofs.Ytigmpdhnhkdeiaa
/- ApartBytes of a list that is written out, of slices on their own. -/
namespace Go.Proofs.Ytigmpdhnhkdeiaa
open Go Go.RowKit
section
variable {P : Program} {τ : Tab} {w0 w w1 w2 : World} {N N1 N2 : Gh} {g g1 gS : Gh} {st st' sq sq' : St} {nt : Nat} {a : Act} {lo : Nat} {X Y : List XR}
end
/-- A slice that is none, as one on its own. -/
def xNil (e : Nat) : XR := ⟨none, 0, 0, e, [], 0⟩
end Go.Proofs.Ytigmpdhnhkdeiaa
/- What a reader of a sketch for keys says in the end (plain). -/
namespace Go.Proofs.Ytigmpdhnhkdeiaa
open Go Go.RowKit
def MW.new (k : List UInt8) : MW := ⟨k, [], Nd.zero⟩
def MW.rev (w : MW) : MW := ⟨w.key, w.sd.reverse, w.en⟩
theorem upK_pair : ∀ {ks : List (List UInt8)}, (∀ k ∈ ks, k.length = 32) → upK ks = true → ks.Pairwise ltB
  | [], _, _ => .nil
  | [a], _, _ => by simp
  | a :: b :: l, h, hu => by
    unfold upK at hu
    rw [Bool.and_eq_true, decide_eq_true_eq] at hu
    have hab := (cmp_ltB (h a (by simp)) (h b (by simp))).1 hu.1
    have ih := upK_pair (fun k hk => h k (List.mem_cons_of_mem _ hk)) hu.2
    refine .cons (fun x hx => ?_) ih
    rcases List.mem_cons.1 hx with rfl | hx
    · exact hab
    · exact hab.trans ((List.pairwise_cons.1 ih).1 x hx)
theorem mread_rd {ks : List (List UInt8)} {p : List Br} (hk32 : ∀ k ∈ ks, k.length = 32) (hu : upK ks = true) :
    (∀ t r, muR ks p = some (t, r) → plM 257 (List.replicate 32 0) 0 (ks.map MW.new) p = ⟨r, (ks.map MW.new).map (MW.by t 0), t.dg, true⟩) ∧ (muR ks p = none → (plM 257 (List.replicate 32 0) 0 (ks.map MW.new) p).ok = false) := by
  have hs : MSeg ks (List.replicate 32 0) 0 (ks.map MW.new) := by
    refine ⟨?_, ?_⟩
    · rw [List.map_map, List.filter_eq_self.2 (fun k _ => by unfold und; exact decide_eq_true (Nat.zero_le _))]
      exact List.map_id _
    · rw [List.pairwise_map]; exact upK_pair hk32 hu
  exact plM_rd (op := opK ks) (fun _ _ _ => rfl) (by omega) Low.zero hs
theorem by_rev (t : Tr) (ks : List (List UInt8)) : ((ks.map MW.new).map (MW.by t 0)).map MW.rev = ks.map fun k => ⟨k, t.way k 0, t.fin k 0 Nd.zero⟩ := by
  rw [List.map_map, List.map_map]
  refine List.map_congr_left fun k _ => ?_
  simp [MW.rev, MW.by, MW.new]
/-- The first ways turned. -/
def rvd (k : Nat) (ws : List MW) : List MW := ws.mapIdx fun i w => if i < k then w.rev else w
theorem rvd_len (k : Nat) (ws : List MW) : (rvd k ws).length = ws.length := by simp [rvd]
theorem rvd_get (k : Nat) (ws : List MW) (i : Nat) (h1 : i < (rvd k ws).length) (h2 : i < ws.length) : (rvd k ws)[i] = if i < k then ws[i].rev else ws[i] := List.getElem_mapIdx
theorem rvd_zero (ws : List MW) : rvd 0 ws = ws := by
  apply List.ext_getElem (rvd_len _ _)
  intro i h1 h2
  rw [rvd_get _ _ _ _ h2, if_neg (by omega)]
theorem rvd_at (k : Nat) (ws : List MW) (hk : k < ws.length) (hk2 : k < (rvd k ws).length) : (rvd k ws)[k] = ws[k] := by
  rw [rvd_get _ _ _ _ hk, if_neg (by omega)]
theorem rvd_step (k : Nat) (ws : List MW) (hk : k < ws.length) : (rvd k ws).set k ws[k].rev = rvd (k + 1) ws := by
  apply List.ext_getElem (by rw [List.length_set, rvd_len, rvd_len])
  intro i h1 h2
  have hi : i < ws.length := by rw [rvd_len] at h2; exact h2
  rw [List.getElem_set, rvd_get _ _ _ _ hi, rvd_get _ _ _ _ hi]
  by_cases e : k = i
  · subst e; rw [if_pos rfl, if_pos (by omega)]
  · rw [if_neg e]
    by_cases hh : i < k
    · rw [if_pos hh, if_pos (by omega)]
    · rw [if_neg hh, if_neg (by omega)]
theorem rvd_end (ws : List MW) : rvd ws.length ws = ws.map MW.rev := by
  apply List.ext_getElem (by rw [rvd_len, List.length_map])
  intro i h1 h2
  have hi : i < ws.length := by rw [rvd_len] at h1; exact h1
  rw [rvd_get _ _ _ _ hi, if_pos hi, List.getElem_map]
def wyA (w : MW) : AV := (⟨w.sd, w.en⟩ : Pf).av
/-- The ways' box is seen. -/
theorem wy_see {ws : List MW} {X : List XR} (h : WyX ws X) {ws0 : List MW} {X0 : List XR} (hv : X0.map (·.v) = X.map (·.v)) (he : ws0.map (·.en) = ws.map (·.en)) :
    (wyE ws0 X0).length = (ws.map wyA).length ∧ ∀ k (h1 : k < (wyE ws0 X0).length) (h2 : k < (ws.map wyA).length), SeeH X (wyE ws0 X0)[k] (ws.map wyA)[k] := by
  have l1 : X0.length = X.length := by have := congrArg List.length hv; simpa using this
  have l2 : ws0.length = ws.length := by have := congrArg List.length he; simpa using this
  refine ⟨by rw [wyE_len (by rw [l1, l2]; exact h.len), List.length_map, l2], fun k h1 h2 => ?_⟩
  rw [List.length_map] at h2
  have hk : k < X.length := by rw [h.len]; exact h2
  rw [wyE_elem k h1 (by omega) (by omega), List.getElem_map]
  have e1 : X0[k].v = X[k].v := by
    have := List.getElem_of_eq hv (i := k) (by rw [List.length_map, l1]; exact hk)
    simpa using this
  have e2 : ws0[k].en = ws[k].en := by
    have := List.getElem_of_eq he (i := k) (by rw [List.length_map, l2]; exact h2)
    simpa using this
  rw [e1, e2]
  refine .st rfl fun i i1 i2 => ?_
  match i, i1 with
  | 0, _ => exact .own X[k] _ _ _ (List.getElem_mem hk) (h.at_ k h2 hk)
  | 1, _ => exact .refl _
theorem rvd_en (k : Nat) (ws : List MW) : ws.map (·.en) = (rvd k ws).map (·.en) := by
  apply List.ext_getElem (by simp [rvd_len])
  intro i h1 h2
  have hi : i < ws.length := by simpa using h1
  rw [List.getElem_map, List.getElem_map, rvd_get _ _ _ _ hi]
  split <;> rfl
/-- What a reader for keys reads: the digest at the top, the ways. -/
def muD (ks : List (List UInt8)) (p : List Br) : List UInt8 := if muE ks p = 0 then (muT ks p).dg else List.replicate 32 0
def muWs (ks : List (List UInt8)) (p : List Br) : List MW := if muE ks p = 0 then ks.map fun k => ⟨k, (muT ks p).way k 0, (muT ks p).fin k 0 Nd.zero⟩ else []
/-- New ways: nil slices. -/
theorem new_E (ks : List (List UInt8)) : WyX (ks.map MW.new) (List.replicate ks.length (xNil 50)) ∧ wyE (ks.map MW.new) (List.replicate ks.length (xNil 50)) = List.replicate ks.length (.st [.v (.slice none 0 0), Nd.zero.av]) := by
  have hx : XH (xNil 50) 50 (.ba 32) (bas []) := ⟨rfl, rfl, rfl, by decide, fun _ => [], [], rfl, by decide, fun u hu => absurd hu (by simp), fun g k h => absurd h (Nat.not_lt_zero _)⟩
  refine ⟨⟨by simp, fun k h1 h2 => ?_⟩, ?_⟩
  · rw [List.getElem_replicate, List.getElem_map]; exact hx
  · apply List.ext_getElem (by rw [wyE_len (by simp)]; simp)
    intro i h1 h2
    have hi : i < ks.length := by simpa using h2
    rw [wyE_elem i h1 (by simpa using hi) (by simpa using hi), List.getElem_replicate, List.getElem_replicate, List.getElem_map]
    rfl
theorem RelY.nils {P : Program} {w0 w : World} {N : Gh} {nt : Nat} {st : St} {a : Act} (H : Rel P w0 N nt st a w) (n e : Nat) : RelY (fun b => w0.heap.size ≤ b) P w0 N nt st (List.replicate n (xNil e)) a w := by
  obtain ⟨g, HI, hF⟩ := H
  refine ⟨g, HI.self, .of HI.fr _, hF, ⟨fun x hx => ?_, ?_⟩⟩
  · obtain rfl := List.eq_of_mem_replicate hx
    exact ⟨⟨Nat.le_refl _, Nat.zero_le _⟩, fun _ => rfl, fun b hb => by cases hb⟩
  · unfold XApart
    rw [List.pairwise_replicate]
    exact .inr (.inl rfl)
end Go.Proofs.Ytigmpdhnhkdeiaa
/- A reader of a sketch for keys: multi.read. -/
namespace Go.Proofs.Ytigmpdhnhkdeiaa
open Go Go.RowKit
attribute [local irreducible] wpT
set_option maxRecDepth 20000 in
set_option maxHeartbeats 16000000 in
theorem mread_v (ks : List (List UInt8)) (hk32 : ∀ k ∈ ks, k.length = 32) (p : List Br) (hw : ∀ b ∈ p, b.wf) (hl1 : ks.length ≤ 34359730000) (hl2 : p.length ≤ 34359730000) :
    VC Try.prog 112 [.sl (.ba 32) (bas ks) none, .st [.sl brT (brs p) none]] [] (.tup [.ba (muD ks p), .sl pfT0 ((muWs ks p).map wyA) none, .v (.int .i64 (muE ks p))]) := by
  have hkl := bas_len ks
  have hpl := brs_len p
  have hz2 : (List.replicate 32 (0 : UInt8)).length = 32 := List.length_replicate
  obtain ⟨U, hU⟩ : ∃ U, upK ks = U := ⟨_, rfl⟩
  have h0 : upK (ks.drop 0) = U := by rw [List.drop_zero]; exact hU
  unfold muD muWs
  refine mE Try.func112 ?_; intro N w0 a w hN hR H
  have hX := And.intro @hkl (And.intro @hpl (@hz2))
  refine mW ?_; clear H; intro a w H
  refine mC H (fun hb => ?_) (fun hb => ?_)
  · have e : 64 < ks.length ∨ 65536 < p.length := by
      cases hd : decide ((64 : Int) < (ks.length : Int))
      · rw [hd] at hb
        have : decide ((65536 : Int) < (p.length : Int)) = true := hb
        rw [decide_eq_true_eq] at this; omega
      · rw [decide_eq_true_eq] at hd; omega
    have e4 : muE ks p = 4 := by unfold muE; rw [if_pos e]
    rw [e4, if_neg (by decide), if_neg (by decide)]
    simp only [List.map_nil]
    clear hb
    refine mW ?_; clear H; intro a w H
    refine wp_ret ?_
    exact v_end [] [] tab_ok ⟨hN, hR⟩ (rs := [.cell 4 50, .tmp 5, .tmp 6]) (ress := [_, _, _]) rfl H (by rfl) (by rfl) trivial rfl ⟨sub_refl _ _, (show sub 4 (AV.v (.slice none 0 0)) (AV.sl pfT0 [] none) from by unfold sub; rfl), sub_refl _ _, trivial⟩ rfl
  · have e : ¬ (64 < ks.length ∨ 65536 < p.length) := by
      cases hd : decide ((64 : Int) < (ks.length : Int))
      · rw [hd] at hb
        have : decide ((65536 : Int) < (p.length : Int)) = false := hb
        rw [decide_eq_false_iff_not] at this hd; omega
      · rw [hd] at hb; cases hb
    clear hb
    refine mS ?_
    replace H := v_ref H 3 0 (Nat.le_trans hN (Nat.le_of_ble_eq_true rfl)) rfl rfl rfl
    simp only [nilT, strip, List.map_cons, List.map_nil, reduceIte, Nat.reduceEqDiff] at H
    replace H := mK [0, 3, 4, 5, 6] 2 0 hN hR H
    refine mW ?_; clear H; intro a w H
    refine v_loop (fun i : Nat => ⟨[(7, none, .v (.int .i64 ((i + 1 : Nat) : Int))), (6, none, .v (.int .i64 0)), (5, none, .v (.slice none 0 0)), (4, none, .ptr 1 []), (3, none, .ref ti44.ty (.st [.sl brT (brs p) none])), (0, none, .sl (.ba 32) (bas ks) none)], [(ti44.ty, .st [.sl brT (brs p) none]), (.ba 32, .ba (List.replicate 32 0))], [0], []⟩) (fun i => (i = 0 ∨ i + 1 ≤ ks.length) ∧ upK (ks.drop i) = U) (fun i => ks.length - i) 0 ⟨.inl rfl, h0⟩
      (H.to 2 0 ⟨Nat.le_trans hN (Nat.le_of_ble_eq_true rfl), Nat.le_trans hR (Nat.zero_le _)⟩ ⟨rfl, rfl, rfl, rfl, rfl, rfl, trivial⟩ rfl rfl rfl rfl rfl) ?_
    clear H
    intro i a w hi H
    obtain ⟨hi1, hi2⟩ := hi
    refine mW ?_; clear H; intro a w H
    refine mC H (fun hb => ?_) (fun hb => ?_)
    · have hlt : i + 1 < ks.length := by rw [decide_eq_true_eq] at hb; omega
      clear hb
      have hlt0 : i < ks.length := by omega
      rw [upK_drop ks i hlt] at hi2
      have g1 := bas_get ks i hlt0
      have g2 := bas_get ks (i + 1) hlt
      have q1 := hk32 _ (List.getElem_mem hlt0)
      have q2 := hk32 _ (List.getElem_mem hlt)
      have ei : ((i + 1 : Nat) : Int) - 1 = (i : Int) := by omega
      generalize ks[i] = x at *
      generalize ks[i + 1] = y at *
      have hc := pcmp_v x y q1 q2
      clear hX; have hX := And.intro @hkl (And.intro @hpl (And.intro @hz2 (And.intro @g1 (And.intro @g2 (And.intro @q1 (And.intro @q2 (@ei)))))))
      refine mS ?_; refine mD 2 [9] [] H ?_; clear H; intro gS H
      refine mTN 3 hN H ?_; clear H; intro a w H; simp only [List.drop_succ_cons, List.drop_zero, List.drop_nil]
      refine mTN 1 hN H ?_; clear H; intro a w H; simp only [List.drop_succ_cons, List.drop_zero, List.drop_nil]
      refine mTN 4 hN H ?_; clear H; intro a w H; simp only [List.drop_succ_cons, List.drop_zero, List.drop_nil]
      refine mT ?_; clear H; intro a w H
      refine mCallT [] [] (hc) H ?_; clear H; intro a w H
      refine mT ?_; clear H; intro a w H
      refine v_drawNil H ?_; clear H; intro H
      refine mC H (fun hb => ?_) (fun hb => ?_)
      · rw [decide_eq_true_eq] at hb
        rw [decide_eq_false (show ¬ Lib.compareBytes x y < 0 by omega), Bool.false_and] at hi2
        subst hi2
        have e4 : muE ks p = 2 := by unfold muE; rw [if_neg e, if_pos hU]
        rw [e4, if_neg (by decide), if_neg (by decide)]
        simp only [List.map_nil]
        clear hb
        refine mW ?_; clear H; intro a w H
        refine wp_ret ?_
        exact v_end [] [] tab_ok ⟨hN, hR⟩ (rs := [.cell 4 50, .tmp 5, .tmp 6]) (ress := [_, _, _]) rfl H (by rfl) (by rfl) trivial rfl ⟨sub_refl _ _, (show sub 4 (AV.v (.slice none 0 0)) (AV.sl pfT0 [] none) from by unfold sub; rfl), sub_refl _ _, trivial⟩ rfl
      · rw [decide_eq_false_iff_not] at hb
        rw [decide_eq_true (show Lib.compareBytes x y < 0 by omega), Bool.true_and] at hi2
        clear hb
        refine mW ?_; clear H; intro a w H
        rw [show ((i + 1 : Nat) : Int) + 1 = ((i + 1 + 1 : Nat) : Int) by omega] at H
        exact ⟨i + 1, ⟨.inr hlt, hi2⟩, by omega, H.to 2 0 ⟨Nat.le_trans hN (Nat.le_of_ble_eq_true rfl), Nat.le_trans hR (Nat.zero_le _)⟩ ⟨rfl, rfl, rfl, rfl, rfl, rfl, trivial⟩ rfl rfl rfl rfl rfl⟩
    · have hge : ks.length ≤ i + 1 := by rw [decide_eq_false_iff_not] at hb; omega
      clear hb
      rw [upK_end ks i hge] at hi2
      subst hi2
      have hem := empty_v
      have hs0 : (sum [0]).length = 32 := sum_length _
      clear hX; have hX := And.intro @hkl (And.intro @hpl (And.intro @hz2 (@hs0)))
      refine mW ?_; clear H; intro a w H
      refine mS ?_
      revert a w
      apply cutG9 (R := fun a w => Rel Try.prog w0 N Try.f112.ntmps ⟨[(8, none, .ptr 3 []), (6, none, .v (.int .i64 0)), (5, none, .v (.slice none 0 0)), (4, none, .ptr 1 []), (0, none, .sl (.ba 32) (bas ks) none)], [(ti44.ty, .st [.sl brT (brs p) none]), (.ba 32, .ba (List.replicate 32 0)), (.vc 68 pfT0, .vc 0 (List.replicate ks.length (.st [.v (.slice none 0 0), .st [.v (.int .u8 0), .ba (List.replicate 32 0), .ba (List.replicate 32 0), .ba (List.replicate 32 0), .ba (List.replicate 32 0)]]))), (mrdT, .st [.sl brT (brs p) none, .ba (sum [0]), .vw 2 0 ks.length])], [0], []⟩ a w)
      · intro key1 a w H
        repeat (first | refine wp_seq ?_ | refine wp_block ?_)
        refine v_drawZ 0 [0, 1, 3, 4, 2, 5, 6, 7, 8] [2, 5, 7] [0, 1, 3, 4] [(2, 5)] (by kernel_rfl) (by kernel_rfl) (by kernel_rfl) (by kernel_rfl) (by kernel_rfl) H (by rfl) ?_; clear H; intro gS H; try replace H := ntf H
        repeat' ((first | refine wpZ_q1 rfl rfl ?_ | refine wpZ_l1 rfl rfl rfl ?_ | refine wpZ_l2 rfl rfl rfl rfl rfl ?_ ?_ | refine wpZ_l3 rfl rfl rfl rfl rfl rfl rfl ?_ ?_ ?_ | refine wpZ_l4 rfl rfl rfl rfl rfl rfl rfl rfl rfl ?_ ?_ ?_ ?_) <;> ((first | (refine wpT_at 2 ?_; refine mCallT [] [] (hem) H ?_; clear H; intro a w H) | (refine v_someT 1 tab_ok hN H rfl ctX ?_; clear H; intro a w H; replace H := ntf H; simp only [List.drop_succ_cons, List.drop_zero, List.drop_nil])); refine wpT_nil ?_; try dsimp only))
        all_goals (refine wpZ_nil ?_; replace H := RelT.toRel H)
        all_goals
          exact key1 _ _ (H.to 4 0 ⟨Nat.le_trans hN (Nat.le_of_ble_eq_true rfl), Nat.le_trans hR (Nat.zero_le _)⟩ ⟨rfl, rfl, rfl, rfl, rfl, trivial⟩ rfl rfl rfl rfl rfl)
      intro a w H
      have hnE : List.replicate ks.length (AV.st [.v (.slice none 0 0), .st [.v (.int .u8 0), .ba (List.replicate 32 0), .ba (List.replicate 32 0), .ba (List.replicate 32 0), .ba (List.replicate 32 0)]]) = wyE (ks.map MW.new) (List.replicate ks.length (xNil 50)) := (new_E ks).2.symm
      rw [hnE] at H
      have hM : N.bx.length ≤ 0 ∧ N.rw.length ≤ 0 := ⟨hN, hR⟩
      have hL : ∀ b, w0.heap.size ≤ b → (fun b => w0.heap.size ≤ b) b := fun b h => h
      have hnew : (ks.map MW.new).map (·.key) = ks := by rw [List.map_map]; exact List.map_id _
      have hcall := mplace_v ks.length (by omega) ks rfl hk32 257 (List.replicate 32 0) 0 [] (ks.map MW.new) [] p (List.replicate ks.length (xNil 50)) (by omega) (by omega) hz2 hw (by omega) (by rw [List.nil_append, List.append_nil]; exact hnew)
        (fun w hw => by rw [List.nil_append, List.append_nil] at hw; obtain ⟨k, hk, rfl⟩ := List.mem_map.1 hw; exact ⟨hk32 k hk, fun g hg => (by cases hg), zero_wf⟩)
        (fun w hw => by rw [List.nil_append, List.append_nil] at hw; obtain ⟨k, hk, rfl⟩ := List.mem_map.1 hw; exact Nat.zero_le _)
        (fun w hw => by obtain ⟨k, hk, rfl⟩ := List.mem_map.1 hw; exact Nat.le_of_ble_eq_true rfl) (by rw [List.nil_append, List.append_nil]; exact (new_E ks).1)
      simp only [List.nil_append, List.append_nil, List.length_nil, Nat.zero_add, List.length_map] at hcall
      rw [show ((0 : Nat) : Int) = 0 from rfl] at hcall
      obtain ⟨m1, m2⟩ := mread_rd (p := p) hk32 hU
      have m3 := plM_len (f := 257) (top := List.replicate 32 0) (d := 0) (ws := ks.map MW.new) (l := p)
      have m4 := plM_wf (f := 257) (top := List.replicate 32 0) (d := 0) (ws := ks.map MW.new) hw (fun w hw => by obtain ⟨k, hk, rfl⟩ := List.mem_map.1 hw; exact ⟨hk32 k hk, fun g hg => (by cases hg), zero_wf⟩)
      have m5 := plM_few (m := 0) (f := 257) (top := List.replicate 32 0) (d := 0) (ws := ks.map MW.new) (l := p) (fun w hw => by obtain ⟨k, hk, rfl⟩ := List.mem_map.1 hw; exact Nat.le_refl _)
      rw [List.length_map] at m3
      generalize plM 257 (List.replicate 32 0) 0 (ks.map MW.new) p = x at *
      obtain ⟨xr, xw, xh, xo⟩ := x
      obtain ⟨x5, x6, x7, x8⟩ := m4
      dsimp only at m3 m5 x5 x6 x7 x8 hcall
      have H := RelY.nils H ks.length 50
      obtain ⟨N1, hB, hZ, H, hN1, hR1⟩ := H.open_
      clear hN hR
      have hN : N1.bx.length ≤ 4 := Nat.le_of_eq hN1
      have hR : N1.rw.length ≤ 0 := Nat.le_of_eq hR1
      clear hN1 hR1
      have hlE : (wyE (ks.map MW.new) (List.replicate ks.length (xNil 50))).length = ks.length := by rw [wyE_len (by simp), List.length_map]
      clear hX; have hX := And.intro @hkl (And.intro @hpl (And.intro @hz2 (And.intro @hs0 (And.intro @hlE (@x8)))))
      refine mW ?_; clear H; intro a w H
      refine v_callY [3, 2] hcall hL hB hZ H (by rintro Y bx' res ⟨_, rfl, rfl⟩; exact ⟨rfl, rfl⟩) ?_
      clear H hB hZ hN hR
      rintro X0 bx' res a w ⟨hW0, rfl, rfl⟩ H
      replace H := nfY H
      obtain ⟨N1, hB, hZ, H, hN1, hR1⟩ := H.open_
      have hN : N1.bx.length ≤ 4 := Nat.le_of_eq hN1
      have hR : N1.rw.length ≤ 0 := Nat.le_of_eq hR1
      clear hN1 hR1
      have hlE : (wyE xw X0).length = ks.length := by rw [wyE_len hW0.len]; exact m3
      have hrl := brs_len xr
      clear hX; have hX := And.intro @hkl (And.intro @hpl (And.intro @hz2 (And.intro @hs0 (And.intro @hlE (And.intro @x8 (@hrl))))))
      refine mW ?_; clear H; intro a w H
      refine mC H (fun hb => ?_) (fun hb => ?_)
      · have e4 : muE ks p = 11 := by
          unfold muE
          rw [if_neg e, if_neg (by rw [hU]; decide)]
          cases hmu : muR ks p with
          | none => rfl
          | some Q =>
            obtain ⟨t, r⟩ := Q
            cases r with
            | cons b r => rfl
            | nil =>
              have := m1 t [] hmu
              simp only [MRd.mk.injEq] at this
              obtain ⟨h1, _, _, h2⟩ := this
              rw [h1, h2] at hb
              cases hb
        rw [e4, if_neg (by decide), if_neg (by decide)]
        simp only [List.map_nil]
        clear hb
        replace H := v_pubY (RelY.close hB hZ H) (fun b h => h) 2 rfl rfl (fun k _ _ => .refl _)
        replace H := nf H
        clear hN
        have hN : N.bx.length ≤ 5 := Nat.le_trans hM.1 (Nat.zero_le _)
        refine mW ?_; clear H; intro a w H
        refine wp_ret ?_
        exact v_end [] [] tab_ok ⟨hM.1, hM.2⟩ (rs := [.cell 4 50, .tmp 5, .tmp 6]) (ress := [_, _, _]) rfl H (by rfl) (by rfl) trivial rfl ⟨sub_refl _ _, (show sub 4 (AV.v (.slice none 0 0)) (AV.sl pfT0 [] none) from by unfold sub; rfl), sub_refl _ _, trivial⟩ rfl
      · obtain ⟨t, hmu⟩ : ∃ t, muR ks p = some (t, []) := by
          cases hmu : muR ks p with
          | none =>
            have h9 : xo = false := m2 hmu
            rw [h9] at hb; cases hb
          | some Q =>
            obtain ⟨t, r⟩ := Q
            have := m1 t r hmu
            simp only [MRd.mk.injEq] at this
            obtain ⟨h1, _, _, h2⟩ := this
            rw [h1, h2] at hb
            have hb2 : decide (0 < (r.length : Int)) = false := hb
            rw [decide_eq_false_iff_not] at hb2
            exact ⟨t, by rw [List.length_eq_zero_iff.1 (show r.length = 0 by omega)]⟩
        clear hb
        have e4 : muE ks p = 0 := by unfold muE; rw [if_neg e, if_neg (by rw [hU]; decide), hmu]
        have et : muT ks p = t := by unfold muT; rw [hmu]
        rw [e4, if_pos rfl, if_pos rfl, et]
        have hmk := m1 t [] hmu
        simp only [MRd.mk.injEq] at hmk
        obtain ⟨h1, h2, h3, h4⟩ := hmk
        subst h1 h3 h4
        have hby := by_rev t ks
        rw [← h2] at hby
        rw [← hby, List.map_map]
        clear m1 m2 h2 hby
        refine mW ?_; clear H; intro a w H
        refine v_loopI (fun k a w => ∃ X : List XR, WyX (rvd k xw) X ∧ X0.map (·.v) = X.map (·.v) ∧ RelY (fun b => w0.heap.size ≤ b) Try.prog w0 N Try.f112.ntmps ⟨[(73, none, .v (.int .i64 ((k : Nat) : Int))), (72, none, .v (.int .i64 (ks.length : Int))), (9, none, .ptr 4 []), (8, none, .ptr 3 []), (4, none, .ptr 1 [])],
          [(ti44.ty, .st [.sl brT (brs p) none]), (.ba 32, .ba (List.replicate 32 0)), (.vc 68 pfT0, .vc 0 (wyE xw X0)), (mrdT, .st [.sl brT (brs []) none, .ba (sum [0]), .vw 2 0 ks.length]), (.ba 32, .ba t.dg)], [0], []⟩ X a w) (fun k => k ≤ ks.length) (fun k => ks.length - k) 0 (Nat.zero_le _)
          ⟨X0, by rw [rvd_zero]; exact hW0, rfl, RelY.close hB hZ (H.to 5 0 ⟨Nat.le_trans hN (Nat.le_of_ble_eq_true rfl), hR⟩ ⟨rfl, rfl, rfl, rfl, rfl, trivial⟩ rfl rfl rfl rfl rfl)⟩ ?_
        clear H hB hZ hN hR
        rintro k a w1 hk ⟨X, hW, hv, HY⟩
        obtain ⟨N1, hB, hZ, H, hN1, hR1⟩ := HY.open_
        clear HY
        have hN : N1.bx.length ≤ 5 := Nat.le_of_eq hN1
        have hR : N1.rw.length ≤ 0 := Nat.le_of_eq hR1
        clear hN1 hR1
        clear hX; have hX := And.intro @hkl (And.intro @hpl (And.intro @hz2 (And.intro @hs0 (And.intro @hlE (@x8)))))
        refine mW ?_; clear H; intro a w H
        refine mC H (fun hb => ?_) (fun hb => ?_)
        · have hlt : k < ks.length := by rw [decide_eq_true_eq] at hb; omega
          clear hb
          have hkw : k < xw.length := by omega
          have hXl := hW.len
          rw [rvd_len] at hXl
          have hX0l : X0.length = xw.length := hW0.len
          obtain ⟨X1, y, X2, rfl, rfl⟩ := split_ex X k (by omega)
          have hka : X1.length < (rvd X1.length xw).length := by rw [rvd_len]; exact hkw
          have hx0 := hW.atS hka
          rw [rvd_at X1.length xw hkw] at hx0
          have hg := wyE_get (ws := xw) (X := X0) X1.length hkw (by omega)
          have hyv : (X0[X1.length]'(by omega)).v = y.v := by
            have := List.getElem_of_eq hv (i := X1.length) (by rw [List.length_map]; omega)
            simpa using this
          rw [hyv] at hg
          have hst := rvd_step X1.length xw hkw
          have hsd := x7 _ (List.getElem_mem hkw)
          have hfew := m5 _ (List.getElem_mem hkw)
          generalize xw[X1.length] = v at *
          have hrev := revV_v v.sd 0 (by omega) hsd.sd
          have hsl := bas_len v.sd
          have hle := (RelY.close hB hZ H).le
          clear hX; have hX := And.intro @hkl (And.intro @hpl (And.intro @hz2 (And.intro @hs0 (And.intro @hlE (And.intro @x8 (And.intro @hg (@hsl)))))))
          refine mW ?_; clear H; intro a w H
          obtain ⟨g9, hL9, hb9, hr9, H⟩ := v_lend (RelY.close hB hZ H) hx0 83 rfl
          simp only [nilT, reduceIte, Nat.reduceEqDiff] at H
          replace H := nf H
          clear hN
          have hN : (g9.push (y.box 50 (.ba 32))).bx.length ≤ 6 := by simp [Gh.push, hb9]
          refine mCall [5] [] (hrev) H ?_; clear H; intro a w H; try refine wpList_nil ?_
          obtain ⟨y', hy', hyv', H⟩ := v_giveS (bx := [(ti44.ty, _), (.ba 32, _), (.vc 68 pfT0, _), (mrdT, _), (.ba 32, _)]) (e := 50) (T := .ba 32) hL hL9 hb9 H (by rw [hx0.n]; simp [bas]) hle [4, 8, 9, 72, 73] rfl (by simp [bas, flat]) rfl rfl
          replace H := nfY H
          clear hB hZ hN hR
          obtain ⟨N1, hB, hZ, H, hN1, hR1⟩ := H.open_
          have hN : N1.bx.length ≤ 5 := Nat.le_of_eq hN1
          have hR : N1.rw.length ≤ 0 := Nat.le_of_eq hR1
          clear hN1 hR1
          have hW2 : WyX (rvd (X1.length + 1) xw) (X1 ++ y' :: X2) := by rw [← hst]; exact hW.setS hy'
          have hv2 : X0.map (·.v) = (X1 ++ y' :: X2).map (·.v) := by rw [hv]; simp [hyv']
          clear hX; have hX := @hlE
          refine mW ?_; clear H; intro a w H
          rw [show (X1.length : Int) + 1 = ((X1.length + 1 : Nat) : Int) by omega] at H
          exact ⟨X1.length + 1, hlt, by omega, X1 ++ y' :: X2, hW2, hv2, RelY.close hB hZ (H.to 5 0 ⟨hN, hR⟩ ⟨rfl, rfl, rfl, rfl, rfl, trivial⟩ rfl rfl rfl rfl rfl)⟩
        · have hge : k = ks.length := by rw [decide_eq_false_iff_not] at hb; omega
          clear hb
          have hre : rvd k xw = xw.map MW.rev := by rw [hge, ← m3]; exact rvd_end xw
          have hen := rvd_en k xw
          rw [hre] at hW hen
          obtain ⟨s1, s2⟩ := wy_see hW hv hen
          replace H := v_pubY (RelY.close hB hZ H) (fun b h => h) 2 rfl s1 s2
          replace H := nf H
          have hpl9 : ((xw.map MW.rev).map wyA).length = ks.length := by rw [List.length_map, List.length_map, m3]
          rw [List.map_map] at H hpl9
          clear s1 s2 hN hR
          replace H := v_frzB H 2 3 [2] (Nat.le_trans hM.1 (Nat.zero_le _)) rfl rfl rfl rfl (by omega)
          rw [List.take_of_length_le (by omega)] at H
          replace H := nf H
          have hN : N.bx.length ≤ 0 := hM.1
          have hR : N.rw.length ≤ 0 := hM.2
          replace H := v_ref H 8 3 (Nat.le_trans hN (Nat.zero_le _)) rfl rfl rfl
          simp only [nilT, strip, List.map_cons, List.map_nil, reduceIte, Nat.reduceEqDiff] at H
          replace H := v_ref H 9 4 (Nat.le_trans hN (Nat.zero_le _)) rfl rfl rfl
          simp only [nilT, strip, List.map_cons, List.map_nil, reduceIte, Nat.reduceEqDiff] at H
          refine mS ?_
          clear hX; have hX := And.intro @hkl (And.intro @hpl (And.intro @hz2 (And.intro @hs0 (And.intro @hpl9 (@x8)))))
          refine mS ?_; refine mD 0 [5] [1, 2, 3, 4] H ?_; clear H; intro gS H
          refine mT ?_; clear H; intro a w H
          refine v_drawNil H ?_; clear H; intro H
          refine mS ?_
          refine wp_ret ?_
          exact v_end [] [] tab_ok ⟨hM.1, hM.2⟩ (rs := [.cell 4 50, .tmp 5, .tmp 6]) (ress := [_, _, _]) rfl H (by rfl) (by rfl) trivial rfl ⟨sub_refl _ _, sub_refl _ _, sub_refl _ _, trivial⟩ rfl
end Go.Proofs.Ytigmpdhnhkdeiaa
/- What a sketch says of keys: ref20.Says. -/
namespace Go.Proofs.Ytigmpdhnhkdeiaa
open Go Go.RowKit
abbrev sdT : Ty := ti76.ty
def muG (t : Tr) (k : List UInt8) : AV := saidA (t.fin k 0 Nd.zero) k
def muA (ks : List (List UInt8)) (p : List Br) : List AV := if muE ks p = 0 then ks.map (muG (muT ks p)) else []
attribute [local irreducible] wpT
end Go.Proofs.Ytigmpdhnhkdeiaa
/- What a sketch for keys is asked: multi.Check, Root, Says, Single. -/
namespace Go.Proofs.Ytigmpdhnhkdeiaa
open Go Go.RowKit
theorem muD_len {ks : List (List UInt8)} {p : List Br} (hw : ∀ b ∈ p, b.wf) : (muD ks p).length = 32 := by
  unfold muD
  split
  · rename_i he
    obtain ⟨_, _, _, t, ht, hmt, _, _, _, hd, _⟩ := muE_zero hw he
    rw [hmt]; exact hd
  · exact List.length_replicate
theorem muWs_len {ks : List (List UInt8)} {p : List Br} (he : muE ks p = 0) : ((muWs ks p).map wyA).length = ks.length := by
  unfold muWs; rw [if_pos he, List.length_map, List.length_map]
theorem muWs_at {ks : List (List UInt8)} {p : List Br} (he : muE ks p = 0) (i : Nat) (h : i < ks.length) : ((muWs ks p).map wyA).getD i .any = (⟨(muT ks p).way ks[i] 0, (muT ks p).fin ks[i] 0 Nd.zero⟩ : Pf).av := by
  unfold muWs; rw [if_pos he]
  simp [List.getD_eq_getElem?_getD, h, wyA]
theorem muWs_no {ks : List (List UInt8)} {p : List Br} (he : muE ks p ≠ 0) : (muWs ks p).map wyA = [] := by
  unfold muWs; rw [if_neg he]; rfl
theorem nilPf (x : AV) : sub 4 (.st [.v (.slice none 0 0), x]) (.st [.sl (.ba 32) [] none, x]) := by
  unfold sub
  exact ⟨by unfold sub; rfl, sub_refl 3 _, trivial⟩
section
variable (ks : List (List UInt8)) (hk32 : ∀ k ∈ ks, k.length = 32) (p : List Br) (hw : ∀ b ∈ p, b.wf) (hl1 : ks.length ≤ 34359730000) (hl2 : p.length ≤ 34359730000)
include hk32 hw hl1 hl2
attribute [local irreducible] wpT
set_option maxRecDepth 20000 in
theorem mcheck_v : VC Try.prog 31 [.sl (.ba 32) (bas ks) none, .st [.sl brT (brs p) none]] [] (.v (.int .i64 (muE ks p))) := by
  have hrd := mread_v ks hk32 p hw hl1 hl2
  have hD := muD_len (ks := ks) hw
  generalize muE ks p = e at *
  generalize muD ks p = D at *
  generalize (muWs ks p).map wyA = W at *
  refine mE Try.func31 ?_; intro N w0 a w hN hR H
  have hX := @hD
  refine mW ?_; clear H; intro a w H
  refine mCall [] [] (hrd) H ?_; clear H; intro a w H; try refine wpList_nil ?_
  refine mW ?_; clear H; intro a w H
  refine wp_ret ?_; exact mEnd [] [] [.tmp 4] [_] hN hR H
set_option maxRecDepth 20000 in
theorem mroot_v : VC Try.prog 26 [.sl (.ba 32) (bas ks) none, .st [.sl brT (brs p) none]] [] (.tup [.ba (muD ks p), .v (.int .i64 (muE ks p))]) := by
  have hrd := mread_v ks hk32 p hw hl1 hl2
  have hD := muD_len (ks := ks) hw
  generalize muE ks p = e at *
  generalize muD ks p = D at *
  generalize (muWs ks p).map wyA = W at *
  refine mE Try.func26 ?_; intro N w0 a w hN hR H
  have hX := @hD
  refine mW ?_; clear H; intro a w H
  refine mCall [] [] (hrd) H ?_; clear H; intro a w H; try refine wpList_nil ?_
  refine mW ?_; clear H; intro a w H
  refine wp_ret ?_; exact mEnd [] [] [.cell 4 50, .tmp 5] [_, _] hN hR H
set_option maxRecDepth 20000 in
set_option maxHeartbeats 4000000 in
theorem msingle_v (i : Int) (hi : -9223372036854775808 ≤ i ∧ i < 9223372036854775808) : VC Try.prog 29 [.sl (.ba 32) (bas ks) none, .st [.sl brT (brs p) none], .v (.int .i64 i)] [] (.tup [(muW ks p i).av, .v (.int .i64 (muS ks p i))]) := by
  have hrd := mread_v ks hk32 p hw hl1 hl2
  have hD := muD_len (ks := ks) hw
  have hkl := bas_len ks
  generalize muD ks p = D at *
  have hz2 : (List.replicate 32 (0 : UInt8)).length = 32 := List.length_replicate
  by_cases he : muE ks p = 0
  · have hWl := muWs_len he
    have hWa := muWs_at he
    obtain ⟨_, _, _, t, ht, hmt, _, _, _, _, hlv⟩ := muE_zero hw he
    by_cases hr : 0 ≤ i ∧ i < (ks.length : Int)
    · obtain ⟨k, rfl⟩ := Int.eq_ofNat_of_zero_le hr.1
      have hk : k < ks.length := by omega
      have hg := hWa k hk
      have hFw := fin_wf ks[k] t 0 hlv
      have eW : muW ks p (k : Int) = ⟨t.way ks[k] 0, t.fin ks[k] 0 Nd.zero⟩ := by
        unfold muW
        rw [if_pos ⟨he, hr⟩, hmt, Int.toNat_natCast, List.getD_eq_getElem?_getD, List.getElem?_eq_getElem hk]; rfl
      have eS : muS ks p (k : Int) = 0 := by unfold muS; rw [if_pos he, if_pos hr]
      rw [hmt] at hg
      rw [eW, eS]
      rw [he] at hrd
      clear hWa eW eS
      generalize t.way ks[k] 0 = Wy at *
      generalize t.fin ks[k] 0 Nd.zero = F at *
      generalize (muWs ks p).map wyA = W at *
      obtain ⟨v1, v2, v3, v4⟩ := hFw
      obtain ⟨fk, fkey, fv, fl, fr2⟩ := F
      dsimp only at v1 v2 v3 v4
      have c1 : decide ((k : Int) < 0) = false := decide_eq_false (by omega)
      have c2 : decide ((ks.length : Int) ≤ (k : Int)) = false := decide_eq_false (by omega)
      simp only [Pf.av, Nd.av] at hg ⊢
      refine mE Try.func29 ?_; intro N w0 a w hN hR H
      have hX := And.intro @hD (And.intro @hkl (And.intro @hWl (And.intro @hg (And.intro @v1 (And.intro @v2 (And.intro @v3 (And.intro @v4 (And.intro @c1 (And.intro @c2 (@hz2))))))))))
      refine mW ?_; clear H; intro a w H
      refine mCall [] [] (hrd) H ?_; clear H; intro a w H; try refine wpList_nil ?_
      refine mW ?_; clear H; intro a w H
      refine mC H (fun hb => ?_) (fun hb => ?_)
      · exact absurd hb (by decide)
      · clear hb
        refine mW ?_; clear H; intro a w H
        refine mC H (fun hb => ?_) (fun hb => ?_)
        · exact absurd hb (by decide)
        · clear hb
          refine mS ?_
          (try refine wp_region_lit ?_); refine mN 3 hN H ?_; clear H; intro a w H
          refine mW ?_; clear H; intro a w H
          refine wp_ret ?_; exact mEnd [] [] [.cell 6 68, .tmp 7] [_, _] hN hR H
    · have eW : muW ks p i = ⟨[], Nd.zero⟩ := by unfold muW; rw [if_neg (fun h => hr h.2)]
      have eS : muS ks p i = 2 := by unfold muS; rw [if_pos he, if_neg hr]
      have hc : (bif decide (i < 0) then true else decide ((ks.length : Int) ≤ i)) = true := by
        cases h1 : decide (i < 0)
        · rw [decide_eq_false_iff_not] at h1
          show decide ((ks.length : Int) ≤ i) = true
          rw [decide_eq_true_eq]; omega
        · rfl
      rw [eW, eS]
      rw [he] at hrd
      clear hWa eW eS
      generalize (muWs ks p).map wyA = W at *
      simp only [Pf.av, Nd.av, Nd.zero, z32]
      rw [show bas [] = ([] : List AV) from rfl]
      refine mE Try.func29 ?_; intro N w0 a w hN hR H
      have hX := And.intro @hD (And.intro @hkl (And.intro @hWl (@hz2)))
      refine mW ?_; clear H; intro a w H
      refine mCall [] [] (hrd) H ?_; clear H; intro a w H; try refine wpList_nil ?_
      refine mW ?_; clear H; intro a w H
      refine mC H (fun hb => ?_) (fun hb => ?_)
      · exact absurd hb (by decide)
      · clear hb
        refine mW ?_; clear H; intro a w H
        refine mC H (fun hb => ?_) (fun hb => ?_)
        · clear hb
          refine mW ?_; clear H; intro a w H
          refine wp_ret ?_
          exact v_end [] [] tab_ok ⟨hN, hR⟩ (rs := [.cell 6 68, .tmp 7]) (ress := [_, _]) rfl H (by rfl) (by rfl) trivial rfl ⟨nilPf _, sub_refl _ _, trivial⟩ rfl
        · rw [hc] at hb; cases hb
  · have eW : muW ks p i = ⟨[], Nd.zero⟩ := by unfold muW; rw [if_neg (fun h => he h.1)]
    have eS : muS ks p i = muE ks p := by unfold muS; rw [if_neg he]
    rw [muWs_no he] at hrd
    rw [eW, eS]
    clear eW eS
    generalize muE ks p = e at *
    have hd0 : decide (e = 0) = false := decide_eq_false he
    simp only [Pf.av, Nd.av, Nd.zero, z32]
    rw [show bas [] = ([] : List AV) from rfl]
    refine mE Try.func29 ?_; intro N w0 a w hN hR H
    have hX := And.intro @hD (And.intro @hkl (@hz2))
    refine mW ?_; clear H; intro a w H
    refine mCall [] [] (hrd) H ?_; clear H; intro a w H; try refine wpList_nil ?_
    refine mW ?_; clear H; intro a w H
    simp only [hd0, Bool.not_false] at H
    refine mC H (fun hb => ?_) (fun hb => ?_)
    · clear hb
      refine mW ?_; clear H; intro a w H
      refine wp_ret ?_
      exact v_end [] [] tab_ok ⟨hN, hR⟩ (rs := [.cell 6 68, .tmp 7]) (ress := [_, _]) rfl H (by rfl) (by rfl) trivial rfl ⟨nilPf _, sub_refl _ _, trivial⟩ rfl
    · exact absurd hb (by decide)
set_option maxRecDepth 20000 in
set_option maxHeartbeats 4000000 in
theorem msays_v : VC Try.prog 27 [.sl (.ba 32) (bas ks) none, .st [.sl brT (brs p) none]] [] (.tup [.sl sdT (muA ks p) none, .v (.int .i64 (muE ks p))]) := by
  have hrd := mread_v ks hk32 p hw hl1 hl2
  have hD := muD_len (ks := ks) hw
  have hkl := bas_len ks
  generalize muD ks p = D at *
  have hz2 : (List.replicate 32 (0 : UInt8)).length = 32 := List.length_replicate
  by_cases he : muE ks p = 0
  · have hWl := muWs_len he
    have hWa := muWs_at he
    obtain ⟨h64, _, _, t, ht, hmt, _, _, _, _, hlv⟩ := muE_zero hw he
    have hmA : muA ks p = ks.map (muG t) := by unfold muA; rw [if_pos he, hmt]
    rw [he] at hrd
    rw [hmA, he]
    rw [hmt] at hWa
    generalize (muWs ks p).map wyA = W at *
    refine mE Try.func27 ?_; intro N w0 a w hN hR H
    have hX := And.intro @hD (And.intro @hkl (And.intro @hWl (@hz2)))
    refine mW ?_; clear H; intro a w H
    refine mCall [] [] (hrd) H ?_; clear H; intro a w H; try refine wpList_nil ?_
    refine mW ?_; clear H; intro a w H
    refine mC H (fun hb => ?_) (fun hb => ?_)
    · exact absurd hb (by decide)
    · clear hb
      refine mW ?_; clear H; intro a w H
      replace H := v_nilE tab_ok H 9 76 sdT (j := ti76) rfl (by decide) rfl
      simp only [nilT, reduceIte, Nat.reduceEqDiff, List.length_nil, List.nil_append] at H
      refine v_loop (fun i : Nat => ⟨[(25, none, .v (.int .i64 (i : Int))), (24, none, .v (.int .i64 (ks.length : Int))), (23, none, .sl pfT0 W none), (9, none, .sl sdT ((ks.take i).map (muG t)) (some 0)), (0, none, .sl (.ba 32) (bas ks) none)],
        [], [], [(76, i)]⟩)
        (fun i => i ≤ ks.length) (fun i => ks.length - i) 0 (Nat.zero_le _)
        (H.to 0 1 ⟨Nat.le_trans hN (Nat.zero_le _), Nat.le_trans hR (Nat.zero_le _)⟩ ⟨rfl, rfl, rfl, rfl, rfl, trivial⟩ rfl rfl rfl rfl rfl) ?_
      clear H
      intro i a w hi H
      have hol : ((ks.take i).map (muG t)).length = i := by rw [List.length_map, List.length_take]; omega
      clear hX; have hX := And.intro @hkl (And.intro @hWl (And.intro @hol (@hz2)))
      refine mW ?_; clear H; intro a w H
      refine mC H (fun hb => ?_) (fun hb => ?_)
      · have hlt : i < ks.length := by rw [decide_eq_true_eq] at hb; omega
        clear hb
        have hg := hWa i hlt
        have hk := bas_get ks i hlt
        have hq := hk32 _ (List.getElem_mem hlt)
        have hFw := fin_wf ks[i] t 0 hlv
        have e2 : (ks.take (i + 1)).map (muG t) = (ks.take i).map (muG t) ++ [saidA (t.fin ks[i] 0 Nd.zero) ks[i]] := by
          rw [List.take_succ_eq_append_getElem hlt, List.map_append]; rfl
        clear hWa
        generalize ks[i] = q at *
        generalize t.way q 0 = Wy at *
        generalize t.fin q 0 Nd.zero = F at *
        obtain ⟨v1, v2, v3, v4⟩ := hFw
        obtain ⟨fk, fkey, fv, fl, fr2⟩ := F
        dsimp only at v1 v2 v3 v4
        have k1 : decide ((fk.toNat : Int) = 1) = decide (fk = 1) := kz fk 1 (by decide)
        simp only [Pf.av, Nd.av] at hg
        generalize (ks.take i).map (muG t) = o at *
        refine mS ?_
        clear hX; have hX := And.intro @hkl (And.intro @hWl (And.intro @hol (And.intro @hg (And.intro @hk (And.intro @hq (And.intro @v1 (And.intro @v2 (And.intro @v3 (And.intro @v4 (@hz2))))))))))
        (try refine wp_region_lit ?_); refine mN 2 hN H ?_; clear H; intro a w H
        refine mW ?_; clear H; intro a w H
        refine mS ?_; refine mD 2 [] [] H ?_; clear H; intro gS H
        refine mTN 5 hN H ?_; clear H; intro a w H; simp only [List.drop_succ_cons, List.drop_zero, List.drop_nil]
        refine mTN 5 hN H ?_; clear H; intro a w H; simp only [List.drop_succ_cons, List.drop_zero, List.drop_nil]
        refine mTN 1 hN H ?_; clear H; intro a w H; simp only [List.drop_succ_cons, List.drop_zero, List.drop_nil]
        refine mT ?_; clear H; intro a w H
        refine v_drawNil H ?_; clear H; intro H
        simp only [k1] at H
        refine mC H (fun hb => ?_) (fun hb => ?_)
        · have e : fk = 1 ∧ fkey = q := by
            cases hd : decide (fk = 1)
            · rw [hd] at hb; cases hb
            · rw [hd] at hb; exact ⟨of_decide_eq_true hd, of_decide_eq_true hb⟩
          clear hb
          have es : saidA ⟨fk, fkey, fv, fl, fr2⟩ q = .st [.v (.bool true), .ba fv] := by unfold saidA; rw [if_pos e]
          rw [es] at e2
          refine mW ?_; clear H; intro a w H
          rw [← e2, show (i : Int) + 1 = ((i + 1 : Nat) : Int) by omega] at H
          exact ⟨i + 1, hlt, by omega, H.to 0 1 ⟨Nat.le_trans hN (Nat.zero_le _), Nat.le_trans hR (Nat.zero_le _)⟩ ⟨rfl, rfl, rfl, rfl, rfl, trivial⟩ rfl rfl rfl rfl rfl⟩
        · have e : ¬ (fk = 1 ∧ fkey = q) := by
            intro h
            rw [decide_eq_true h.1, decide_eq_true h.2] at hb
            cases hb
          clear hb
          have es : saidA ⟨fk, fkey, fv, fl, fr2⟩ q = .st [.v (.bool false), .ba (List.replicate 32 0)] := by unfold saidA; rw [if_neg e]; rfl
          rw [es] at e2
          refine mW ?_; clear H; intro a w H
          rw [← e2, show (i : Int) + 1 = ((i + 1 : Nat) : Int) by omega] at H
          exact ⟨i + 1, hlt, by omega, H.to 0 1 ⟨Nat.le_trans hN (Nat.zero_le _), Nat.le_trans hR (Nat.zero_le _)⟩ ⟨rfl, rfl, rfl, rfl, rfl, trivial⟩ rfl rfl rfl rfl rfl⟩
      · have hge : i = ks.length := by rw [decide_eq_false_iff_not] at hb; omega
        clear hb
        subst hge
        rw [List.take_length] at H
        clear hX; have hX := And.intro @hkl (@hWl)
        refine mW ?_; clear H; intro a w H
        refine wp_ret ?_; exact mEnd [] [] [.tmp 4, .tmp 5] [_, _] hN hR H
  · have hmA : muA ks p = [] := by unfold muA; rw [if_neg he]
    rw [muWs_no he] at hrd
    rw [hmA]
    generalize muE ks p = e at *
    have hd0 : decide (e = 0) = false := decide_eq_false he
    refine mE Try.func27 ?_; intro N w0 a w hN hR H
    have hX := And.intro @hD (And.intro @hkl (@hz2))
    refine mW ?_; clear H; intro a w H
    refine mCall [] [] (hrd) H ?_; clear H; intro a w H; try refine wpList_nil ?_
    refine mW ?_; clear H; intro a w H
    simp only [hd0, Bool.not_false] at H
    refine mC H (fun hb => ?_) (fun hb => ?_)
    · clear hb
      refine mW ?_; clear H; intro a w H
      refine wp_ret ?_; exact mEnd [] [] [.tmp 4, .tmp 5] [_, _] hN hR H
    · exact absurd hb (by decide)
end
end Go.Proofs.Ytigmpdhnhkdeiaa
/- The statement MultiSingles, in values. -/
namespace Go.Proofs.Ytigmpdhnhkdeiaa
open Go Go.RowKit
structure MuOk (ks : List (List UInt8)) (p : List Br) (k : List UInt8) (W : Pf) : Prop where
  wf : W.wf
  chk : W.chk = 0
  up : topH k W = muD ks p
  holds : holdsB (muD ks p) k W = true
theorem mu_ok {ks : List (List UInt8)} (hk32 : ∀ k ∈ ks, k.length = 32) {p : List Br} (hw : ∀ b ∈ p, b.wf) (he : muE ks p = 0) {k : List UInt8} (hk : k ∈ ks) :
    MuOk ks p k ⟨(muT ks p).way k 0, (muT ks p).fin k 0 Nd.zero⟩ ∧ muG (muT ks p) k = .st [.v (.bool (saysB k ⟨(muT ks p).way k 0, (muT ks p).fin k 0 Nd.zero⟩)), .ba (saysH k ⟨(muT ks p).way k 0, (muT ks p).fin k 0 Nd.zero⟩)] := by
  obtain ⟨_, _, hu, t, ht, hmt, _, _, _, hdl, hlv⟩ := muE_zero hw he
  have ht' : rdTr (opK ks) 257 (List.replicate 32 0) 0 p = some (t, []) := ht
  obtain ⟨_, p2, p3, p4, _, _⟩ := rd_parts ht' hw
  have hsd := rd_said (op := opK ks) (k := k) (fun top d hd hu => List.any_eq_true.2 ⟨k, hk, hu⟩) (by omega) Low.zero ht' (by unfold und; simp)
  have hH : muD ks p = t.dg := by unfold muD; rw [if_pos he, hmt]
  rw [hmt]
  have hfin : t.fin k 0 Nd.zero = Nd.zero ∨ ∃ x ∈ t.leaves, t.fin k 0 Nd.zero = Nd.one x.1 x.2 := by
    rcases hsd.cases with h | ⟨x, hx, h, _⟩
    · exact .inl h.1
    · exact .inr ⟨x, hx, h⟩
  have hup : topH k ⟨t.way k 0, t.fin k 0 Nd.zero⟩ = t.dg := hsd.up
  refine ⟨⟨⟨p4 _ _, fin_wf k t 0 hlv⟩, ?_, hup.trans hH.symm, ?_⟩, ?_⟩
  · unfold Pf.chk
    have := hsd.len
    rw [if_neg (by dsimp only; omega)]
    dsimp only
    rcases hfin with h | ⟨x, hx, h⟩
    · rw [h, if_pos ⟨zero_ok, by decide⟩]
    · rw [h, if_pos ⟨by simp [Nd.ok, Nd.bare, Nd.one], by simp [Nd.one]⟩]
  · unfold holdsB
    rw [hup, hH, decide_eq_true rfl, Bool.true_and]
    dsimp only
    rcases hsd.cases with h | ⟨x, hx, h, h3', _⟩
    · rw [h.1]; rfl
    · rw [h]
      rw [Nat.zero_add] at h3'
      have := hsd.len
      have h5 := (com_ge (by omega)).2 h3'
      rw [Bool.or_eq_true]
      exact .inr (decide_eq_true h5)
  · unfold muG saidA saysH saysB
    dsimp only
    generalize t.fin k 0 Nd.zero = F
    by_cases h : F.k = 1 ∧ F.key = k
    · rw [if_pos h, decide_eq_true h.1, decide_eq_true h.2]; rfl
    · rw [if_neg h]
      have : (decide (F.k = 1) && decide (F.key = k)) = false := by
        cases h1 : decide (F.k = 1)
        · rfl
        · cases h2 : decide (F.key = k)
          · rfl
          · exact absurd ⟨of_decide_eq_true h1, of_decide_eq_true h2⟩ h
      rw [this]; rfl
theorem muE_none : muE [] [] = 11 := by
  unfold muE
  rw [if_neg (by simp), if_neg (by decide)]
  rfl
attribute [local irreducible] wpT
set_option maxRecDepth 20000 in
set_option maxHeartbeats 16000000 in
theorem multiSingles_v (ks : List (List UInt8)) (hk32 : ∀ k ∈ ks, k.length = 32) (p : List Br) (hw : ∀ b ∈ p, b.wf) (hl1 : ks.length ≤ 34359730000) (hl2 : p.length ≤ 34359730000) :
    VC Try.prog 8 [.sl (.ba 32) (bas ks) none, .st [.sl brT (brs p) none]] [] (.v (.bool true)) := by
  have hkl := bas_len ks
  have hpl := brs_len p
  have hz2 : (List.replicate 32 (0 : UInt8)).length = 32 := List.length_replicate
  have c0 := mcheck_v [] (fun _ h => (by cases h)) [] (fun _ h => (by cases h)) (by decide) (by decide)
  rw [muE_none] at c0
  rw [show bas [] = ([] : List AV) from rfl, show brs [] = ([] : List AV) from rfl] at c0
  refine mE Try.func8 ?_; intro N w0 a w hN hR H
  have hX := And.intro @hkl (And.intro @hpl (@hz2))
  refine mW ?_; clear H; intro a w H
  refine mC H (fun hb => ?_) (fun hb => ?_)
  · clear hb
    refine mW ?_; clear H; intro a w H
    refine wp_ret ?_; exact mEnd [] [] [.tmp 4] [_] hN hR H
  · have e : ¬ (70 < ks.length ∨ 3000 < p.length) := by
      cases hd : decide ((70 : Int) < (ks.length : Int))
      · rw [hd] at hb
        have : decide ((3000 : Int) < (p.length : Int)) = false := hb
        rw [decide_eq_false_iff_not] at this hd; omega
      · rw [hd] at hb; cases hb
    clear hb
    have hl70 : ks.length ≤ 70 := by omega
    clear e
    have c2 := mroot_v ks hk32 p hw hl1 hl2
    have c3 := msays_v ks hk32 p hw hl1 hl2
    have c5 := fun i hi => msingle_v ks hk32 p hw hl1 hl2 i hi
    have c7 := mcheck_v ks hk32 p hw hl1 hl2
    have hD := muD_len (ks := ks) hw
    have hok := fun he k hk => mu_ok hk32 hw (k := k) he hk
    refine mS ?_
    replace H := v_ref H 3 0 (Nat.le_trans hN (Nat.le_of_ble_eq_true rfl)) rfl rfl rfl
    simp only [nilT, strip, List.map_cons, List.map_nil, reduceIte, Nat.reduceEqDiff] at H
    replace H := mK [0, 3, 4] 1 0 hN hR H
    by_cases he : muE ks p = 0
    · have hAl : (muA ks p).length = ks.length := by unfold muA; rw [if_pos he, List.length_map]
      have hok := fun k hk => hok he k hk
      have hA : ∀ n (h : n < ks.length), (muA ks p).getD n .any = muG (muT ks p) ks[n] := fun n h => by
        unfold muA; rw [if_pos he]
        simp [List.getD_eq_getElem?_getD, h]
      have hW : ∀ n (h : n < ks.length), muW ks p (n : Int) = ⟨(muT ks p).way ks[n] 0, (muT ks p).fin ks[n] 0 Nd.zero⟩ ∧ muS ks p (n : Int) = 0 := fun n h => by
        refine ⟨?_, ?_⟩
        · unfold muW
          rw [if_pos ⟨he, by omega, by omega⟩, Int.toNat_natCast, List.getD_eq_getElem?_getD, List.getElem?_eq_getElem h]; rfl
        · unfold muS; rw [if_pos he, if_pos ⟨by omega, by omega⟩]
      rw [he] at c2 c3 c7
      generalize muA ks p = A at *
      obtain ⟨D, hDe⟩ : ∃ D, muD ks p = D := ⟨_, rfl⟩
      rw [hDe] at hD c2
      clear hX; have hX := And.intro @hkl (And.intro @hpl (And.intro @hz2 (And.intro @hD (@hAl))))
      refine mW ?_; clear H; intro a w H
      refine mCall [] [] (c2) H ?_; clear H; intro a w H; try refine wpList_nil ?_
      refine mW ?_; clear H; intro a w H
      refine mCall [] [] (c3) H ?_; clear H; intro a w H; try refine wpList_nil ?_
      refine mW ?_; clear H; intro a w H
      refine mCallG [] [] (c7) H ?_; clear H; intro a w H; try refine wpList_nil ?_
      refine mW ?_; clear H; intro a w H
      refine mC H (fun hb => ?_) (fun hb => ?_)
      · simp at hb
      clear hb
      refine mW ?_; clear H; intro a w H
      refine mC H (fun hb => ?_) (fun hb => ?_)
      · simp at hb
      clear hb
      refine mW ?_; clear H; intro a w H
      refine mC H (fun hb => ?_) (fun hb => ?_)
      · simp at hb
      clear hb
      refine mW ?_; clear H; intro a w H
      replace H := v_ref H 5 1 (Nat.le_trans hN (Nat.zero_le _)) rfl rfl rfl
      simp only [nilT, strip, List.map_cons, List.map_nil, reduceIte, Nat.reduceEqDiff] at H
      refine v_loop (fun i : Nat => ⟨[(10, none, .v (.int .i64 (i : Int))), (7, none, .sl sdT A none), (5, none, .ref (.ba 32) (.ba D)), (4, none, .v (.bool false)), (3, none, .ref ti44.ty (.st [.sl brT (brs p) none])), (0, none, .sl (.ba 32) (bas ks) none)], [(ti44.ty, .st [.sl brT (brs p) none]), (.ba 32, .ba D)], [1, 0], []⟩)
        (fun i => i ≤ ks.length) (fun i => ks.length - i) 0 (Nat.zero_le _)
        (H.to 2 0 ⟨Nat.le_trans hN (Nat.zero_le _), Nat.le_trans hR (Nat.zero_le _)⟩ ⟨rfl, rfl, rfl, rfl, rfl, rfl, trivial⟩ rfl rfl rfl rfl rfl) ?_
      clear H
      intro i a w hi H
      refine mW ?_; clear H; intro a w H
      refine mC H (fun hb => ?_) (fun hb => ?_)
      · have hlt : i < ks.length := by rw [decide_eq_true_eq] at hb; omega
        clear hb
        have hg := bas_get ks i hlt
        have hk := hk32 _ (List.getElem_mem hlt)
        obtain ⟨hok, hG⟩ := hok _ (List.getElem_mem hlt)
        have hAi := hA i hlt
        obtain ⟨e1, e2⟩ := hW i hlt
        have c5 := c5 (i : Int) ⟨by omega, by omega⟩
        rw [e1, e2] at c5
        rw [hG] at hAi
        clear hG e1 e2 hA hW
        generalize ks[i] = k at *
        generalize (⟨(muT ks p).way k 0, (muT ks p).fin k 0 Nd.zero⟩ : Pf) = W at *
        obtain ⟨f1, f2, f3, f4⟩ := hok
        rw [hDe] at f3 f4
        have u1 := up_v k hk W f1 f2
        have u2 := says_v k hk W f1
        have u3 := holds_v D k hD hk W f1 f2
        have u4 := saysH_len k W f1
        rw [f3] at u1
        rw [f4] at u3
        generalize saysH k W = sh at *
        generalize saysB k W = sb at *
        obtain ⟨f5, w1, w2, w3, w4⟩ := f1
        obtain ⟨Ws, ⟨ek, ekey, ev, el, er⟩⟩ := W
        dsimp only at w1 w2 w3 w4
        simp only [Pf.av, Nd.av] at c5 u1 u2 u3
        clear hX; have hX := And.intro @hkl (And.intro @hpl (And.intro @hz2 (And.intro @hD (And.intro @hAl (And.intro @hg (And.intro @hk (And.intro @hAi (And.intro @w1 (And.intro @w2 (And.intro @w3 (And.intro @w4 (@u4))))))))))))
        refine mW ?_; clear H; intro a w H
        refine mCall [] [] (c5) H ?_; clear H; intro a w H; try refine wpList_nil ?_
        refine mW ?_; clear H; intro a w H
        replace H := v_ref H 11 2 (Nat.le_trans hN (Nat.zero_le _)) rfl rfl rfl
        simp only [nilT, strip, List.map_cons, List.map_nil, reduceIte, Nat.reduceEqDiff] at H
        revert a w
        apply cutG9 (R := fun a w => Rel Try.prog w0 N Try.f8.ntmps ⟨[(14, none, errv 0), (13, none, .ptr 3 []), (12, none, .v (.int .i64 0)), (11, none, .ref ti68.ty (.st [.sl (.ba 32) (bas Ws) none, .st [.v (B8 ek), .ba ekey, .ba ev, .ba el, .ba er]])), (10, none, .v (.int .i64 (i : Int))), (7, none, .sl sdT A none), (5, none, .ref (.ba 32) (.ba D)), (4, none, .v (.bool false)), (3, none, .ref ti44.ty (.st [.sl brT (brs p) none])), (0, none, .sl (.ba 32) (bas ks) none)], [(ti44.ty, .st [.sl brT (brs p) none]), (.ba 32, .ba D), (ti68.ty, .st [.sl (.ba 32) (bas Ws) none, .st [.v (B8 ek), .ba ekey, .ba ev, .ba el, .ba er]]), (.ba 32, .ba D)], [2, 1, 0], []⟩ a w)
        · intro key1 a w H
          repeat (first | refine wp_seq ?_ | refine wp_block ?_)
          refine v_drawZ 0 [0, 1, 2, 3, 4, 5, 6, 7, 8, 9, 10, 11] [5, 9, 10] [0, 1, 2, 3, 4, 6, 7, 8] [(5, 9)] (by kernel_rfl) (by kernel_rfl) (by kernel_rfl) (by kernel_rfl) (by kernel_rfl) H (by rfl) ?_; clear H; intro gS H; try replace H := ntf H
          repeat' ((first | refine wpZ_q1 rfl rfl ?_ | refine wpZ_l1 rfl rfl rfl ?_ | refine wpZ_l2 rfl rfl rfl rfl rfl ?_ ?_ | refine wpZ_l3 rfl rfl rfl rfl rfl rfl rfl ?_ ?_ ?_ | refine wpZ_l4 rfl rfl rfl rfl rfl rfl rfl rfl rfl ?_ ?_ ?_ ?_) <;> ((first | (refine wpT_at 5 ?_; refine mCallT [] [] (u1) H ?_; clear H; intro a w H) | (refine v_someT 1 tab_ok hN H rfl ctX ?_; clear H; intro a w H; replace H := ntf H; simp only [List.drop_succ_cons, List.drop_zero, List.drop_nil])); refine wpT_nil ?_; try dsimp only))
          all_goals (refine wpZ_nil ?_; replace H := RelT.toRel H)
          all_goals
            exact key1 _ _ (H.to 4 0 ⟨Nat.le_trans hN (Nat.zero_le _), Nat.le_trans hR (Nat.zero_le _)⟩ ⟨rfl, rfl, rfl, rfl, rfl, rfl, rfl, rfl, rfl, rfl, trivial⟩ rfl rfl rfl rfl rfl)
        intro a w H
        replace H := v_ref H 13 3 (Nat.le_trans hN (Nat.zero_le _)) rfl rfl rfl
        simp only [nilT, strip, List.map_cons, List.map_nil, reduceIte, Nat.reduceEqDiff] at H
        revert a w
        apply cutG9 (R := fun a w => Rel Try.prog w0 N Try.f8.ntmps ⟨[(16, none, .ptr 4 []), (15, none, .v (.bool sb)), (14, none, errv 0), (13, none, .ref (.ba 32) (.ba D)), (12, none, .v (.int .i64 0)), (11, none, .ref ti68.ty (.st [.sl (.ba 32) (bas Ws) none, .st [.v (B8 ek), .ba ekey, .ba ev, .ba el, .ba er]])), (10, none, .v (.int .i64 (i : Int))), (7, none, .sl sdT A none), (5, none, .ref (.ba 32) (.ba D)), (4, none, .v (.bool false)), (3, none, .ref ti44.ty (.st [.sl brT (brs p) none])), (0, none, .sl (.ba 32) (bas ks) none)], [(ti44.ty, .st [.sl brT (brs p) none]), (.ba 32, .ba D), (ti68.ty, .st [.sl (.ba 32) (bas Ws) none, .st [.v (B8 ek), .ba ekey, .ba ev, .ba el, .ba er]]), (.ba 32, .ba D), (.ba 32, .ba sh)], [3, 2, 1, 0], []⟩ a w)
        · intro key1 a w H
          repeat (first | refine wp_seq ?_ | refine wp_block ?_)
          refine v_drawZ 0 [0, 1, 2, 3, 4, 5, 6, 7, 8, 9, 10, 11] [5, 9, 11] [0, 1, 2, 3, 4, 6, 7, 8] [(5, 9)] (by kernel_rfl) (by kernel_rfl) (by kernel_rfl) (by kernel_rfl) (by kernel_rfl) H (by rfl) ?_; clear H; intro gS H; try replace H := ntf H
          repeat' ((first | refine wpZ_q1 rfl rfl ?_ | refine wpZ_l1 rfl rfl rfl ?_ | refine wpZ_l2 rfl rfl rfl rfl rfl ?_ ?_ | refine wpZ_l3 rfl rfl rfl rfl rfl rfl rfl ?_ ?_ ?_ | refine wpZ_l4 rfl rfl rfl rfl rfl rfl rfl rfl rfl ?_ ?_ ?_ ?_) <;> ((first | (refine wpT_at 5 ?_; refine mCallT [] [] (u2) H ?_; clear H; intro a w H) | (refine v_someT 1 tab_ok hN H rfl ctX ?_; clear H; intro a w H; replace H := ntf H; simp only [List.drop_succ_cons, List.drop_zero, List.drop_nil])); refine wpT_nil ?_; try dsimp only))
          all_goals (refine wpZ_nil ?_; replace H := RelT.toRel H)
          all_goals
            exact key1 _ _ (H.to 5 0 ⟨Nat.le_trans hN (Nat.zero_le _), Nat.le_trans hR (Nat.zero_le _)⟩ ⟨rfl, rfl, rfl, rfl, rfl, rfl, rfl, rfl, rfl, rfl, rfl, rfl, trivial⟩ rfl rfl rfl rfl rfl)
        intro a w H
        replace H := v_ref H 16 4 (Nat.le_trans hN (Nat.zero_le _)) rfl rfl rfl
        simp only [nilT, strip, List.map_cons, List.map_nil, reduceIte, Nat.reduceEqDiff] at H
        refine mS ?_; refine mD 5 [6] [] H ?_; clear H; intro gS H
        refine mTN 4 hN H ?_; clear H; intro a w H; simp only [List.drop_succ_cons, List.drop_zero, List.drop_nil]
        refine mT ?_; clear H; intro a w H
        refine mCallT [] [] (u3) H ?_; clear H; intro a w H
        refine mT ?_; clear H; intro a w H
        refine v_drawNil H ?_; clear H; intro H
        refine mS ?_; refine mD 5 [] [] H ?_; clear H; intro gS H
        refine mTN 5 hN H ?_; clear H; intro a w H; simp only [List.drop_succ_cons, List.drop_zero, List.drop_nil]
        refine mTN 5 hN H ?_; clear H; intro a w H; simp only [List.drop_succ_cons, List.drop_zero, List.drop_nil]
        refine mTN 5 hN H ?_; clear H; intro a w H; simp only [List.drop_succ_cons, List.drop_zero, List.drop_nil]
        refine mTN 5 hN H ?_; clear H; intro a w H; simp only [List.drop_succ_cons, List.drop_zero, List.drop_nil]
        refine mTN 4 hN H ?_; clear H; intro a w H; simp only [List.drop_succ_cons, List.drop_zero, List.drop_nil]
        refine mTN 5 hN H ?_; clear H; intro a w H; simp only [List.drop_succ_cons, List.drop_zero, List.drop_nil]
        refine mTN 4 hN H ?_; clear H; intro a w H; simp only [List.drop_succ_cons, List.drop_zero, List.drop_nil]
        refine mT ?_; clear H; intro a w H
        refine v_drawNil H ?_; clear H; intro H
        refine mC H (fun hb => ?_) (fun hb => ?_)
        · cases sb <;> cases hb
        · clear hb
          replace H := mK [0, 3, 4, 5, 7, 10] 2 0 hN hR H
          replace H := v_fz H
          simp only [List.filter_cons, List.filter_nil, List.length_cons, List.length_nil, Nat.reduceAdd, Nat.reduceLT, Nat.not_lt_zero, Nat.zero_add, Nat.lt_irrefl, Nat.zero_lt_succ, decide_false, decide_true, Bool.false_eq_true, reduceIte] at H
          clear hX; have hX := And.intro @hkl (And.intro @hpl (And.intro @hz2 (And.intro @hD (@hAl))))
          refine mW ?_; clear H; intro a w H
          rw [show (i : Int) + 1 = ((i + 1 : Nat) : Int) by omega] at H
          exact ⟨i + 1, hlt, by omega, (H.to 2 0 ⟨Nat.le_trans hN (Nat.zero_le _), Nat.le_trans hR (Nat.zero_le _)⟩ ⟨rfl, rfl, rfl, rfl, rfl, rfl, trivial⟩ rfl rfl rfl rfl rfl)⟩
      · clear hb
        refine mW ?_; clear H; intro a w H
        refine mCall [] [] (c0) H ?_; clear H; intro a w H; try refine wpList_nil ?_
        refine mW ?_; clear H; intro a w H
        refine wp_ret ?_; exact mEnd [] [] [.tmp 4] [_] hN hR H
    · have hDz : muD ks p = List.replicate 32 0 := by unfold muD; rw [if_neg he]
      have hAz : muA ks p = [] := by unfold muA; rw [if_neg he]
      have hd0 : decide (muE ks p = 0) = false := decide_eq_false he
      rw [hDz] at c2
      rw [hAz] at c3
      generalize muE ks p = e at *
      clear hok hDz
      clear hX; have hX := And.intro @hkl (And.intro @hpl (And.intro @hz2 (@hd0)))
      refine mW ?_; clear H; intro a w H
      refine mCall [] [] (c2) H ?_; clear H; intro a w H; try refine wpList_nil ?_
      refine mW ?_; clear H; intro a w H
      refine mCall [] [] (c3) H ?_; clear H; intro a w H; try refine wpList_nil ?_
      refine mW ?_; clear H; intro a w H
      refine mCallG [] [] (c7) H ?_; clear H; intro a w H; try refine wpList_nil ?_
      refine mW ?_; clear H; intro a w H
      refine mC H (fun hb => ?_) (fun hb => ?_)
      · simp at hb
      · clear hb
        refine mW ?_; clear H; intro a w H
        refine mC H (fun hb => ?_) (fun hb => ?_)
        · clear hb
          refine mW ?_; clear H; intro a w H
          refine mCall [] [] (c0) H ?_; clear H; intro a w H; try refine wpList_nil ?_
          refine mW ?_; clear H; intro a w H
          refine wp_ret ?_; exact mEnd [] [] [.tmp 4] [_] hN hR H
        · simp at hb
end Go.Proofs.Ytigmpdhnhkdeiaa
/- Nodes among the arguments. -/
namespace Go.Proofs.Ytigmpdhnhkdeiaa
open Go Go.RowKit
end Go.Proofs.Ytigmpdhnhkdeiaa
/- Parts of sketches and spans among the arguments. -/
namespace Go.Proofs.Ytigmpdhnhkdeiaa
open Go Go.RowKit
theorem br_sh {M d : Nat} {a : AV} (h : Sh tab M (d + 2) 54 a) : ∃ b : Br, a = b.av ∧ b.wf := by
  obtain ⟨az, rfl, hs⟩ := h.rcd rfl rfl
  clear h; have h := hs; clear hs; dsimp only [List.map] at h
  obtain ⟨a0, r, rfl, h0, h⟩ := shl_cons h
  obtain ⟨a1, r, rfl, h1, h⟩ := shl_cons h
  obtain ⟨a2, r, rfl, h2, h⟩ := shl_cons h
  obtain ⟨a3, r, rfl, h3, h⟩ := shl_cons h
  obtain rfl := shl_nil h
  obtain ⟨n, rfl, hn⟩ := h0.int rfl rfl
  obtain ⟨u, hu⟩ := u8_of hn
  obtain ⟨k, rfl, hk⟩ := h1.arr rfl rfl
  obtain ⟨v, rfl, hv⟩ := h2.arr rfl rfl
  obtain ⟨g, rfl, hg⟩ := h3.arr rfl rfl
  exact ⟨⟨u, k, v, g⟩, by rw [hu]; rfl, ⟨hk, hv, hg⟩⟩
theorem brs_sh {M d : Nat} {a : AV} (h : Sh tab M (d + 3) 22 a) : ∃ l : List Br, a = .sl ti54.ty (l.map Br.av) none ∧ (∀ b ∈ l, b.wf) ∧ l.length ≤ M := by
  obtain ⟨es, rfl, hl, he⟩ := h.slc rfl rfl rfl
  obtain ⟨ys, rfl, hy⟩ := sh_list (q := Br.wf) (f := Br.av) (fun x hx => br_sh hx) he
  exact ⟨ys, rfl, hy, by simpa using hl⟩
end Go.Proofs.Ytigmpdhnhkdeiaa
/- MultiSingles, of all arguments of its types. -/
namespace Go.Proofs.Ytigmpdhnhkdeiaa
open Go Go.RowKit
theorem muS_sh {M d : Nat} {a : AV} (h : Sh tab M (d + 4) 44 a) : ∃ p : List Br, a = .st [.sl ti54.ty (p.map Br.av) none] ∧ (∀ b ∈ p, b.wf) ∧ p.length ≤ M := by
  obtain ⟨az, rfl, hs⟩ := h.rcd rfl rfl
  clear h; have h := hs; clear hs; dsimp only [List.map] at h
  obtain ⟨a0, r, rfl, h0, h⟩ := shl_cons h
  obtain rfl := shl_nil h
  obtain ⟨p, rfl, hp, hpl⟩ := brs_sh h0
  exact ⟨p, rfl, hp, hpl⟩
theorem multiSingles_az (az : List AV) (h : ShL (Sh tab 1048576 6) [42, 44] az) : VC Try.prog 8 az [] (.v (.bool true)) := by
  obtain ⟨a0, r, rfl, h0, h⟩ := shl_cons h
  obtain ⟨a1, r, rfl, h1, h⟩ := shl_cons h
  obtain rfl := shl_nil h
  obtain ⟨es, rfl, hl0, he⟩ := h0.slc rfl rfl rfl
  obtain ⟨ks, rfl, hk⟩ := sh_list (q := fun l : List UInt8 => l.length = 32) (f := AV.ba) (fun x hx => hx.arr rfl rfl) he
  obtain ⟨p, rfl, hp, hpl⟩ := muS_sh h1
  rw [List.length_map] at hl0
  exact multiSingles_v ks hk p hp (Nat.le_trans hl0 (by decide)) (Nat.le_trans hpl (by decide))
end Go.Proofs.Ytigmpdhnhkdeiaa
