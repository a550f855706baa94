/- node.Way: the way of a key among entries. -/
import Derived.Test.YthphhnkoilcofaaThaw
import Derived.Test.YthphhnkoilcofaaRShaZ
import Derived.Lib.SliceRun
set_option linter.unusedSimpArgs false
set_option linter.unusedVariables false
namespace Go.Proofs.Ythphhnkoilcofaa
open Go Go.RowKit
/-- The other sides' digests on a key's way; with what it ends. -/
def wayA (key : List UInt8) : Nat → Nat → List En → List (List UInt8)
  | 0, _, _ => []
  | f + 1, d, l => if l.length < 2 then [] else rootA f (d + 1) (half (!bitN key d) d l) :: wayA key f (d + 1) (half (bitN key d) d l)
def endB (l : List En) : Nd := match l with
  | [] => Nd.zero
  | x :: _ => Nd.one x.1 x.2
def endA (key : List UInt8) : Nat → Nat → List En → Nd
  | 0, _, l => endB l
  | f + 1, d, l => if l.length < 2 then endB l else endA key f (d + 1) (half (bitN key d) d l)
theorem wayA_small (key : List UInt8) (f d : Nat) (l : List En) (h : l.length < 2) : wayA key f d l = [] := by cases f with
  | zero => rfl
  | succ f => rw [wayA, if_pos h]
theorem endA_small (key : List UInt8) (f d : Nat) (l : List En) (h : l.length < 2) : endA key f d l = endB l := by cases f with
  | zero => rfl
  | succ f => rw [endA, if_pos h]
theorem wayA_w (key : List UInt8) : ∀ f d l, ∀ x ∈ wayA key f d l, x.length = 32
  | 0, _, _, x, hx => by cases hx
  | f + 1, d, l, x, hx => by
    unfold wayA at hx
    split at hx
    · cases hx
    · rcases List.mem_cons.1 hx with rfl | hx
      · exact rootA_len _ _ _
      · exact wayA_w key f _ _ x hx
theorem wayA_le (key : List UInt8) : ∀ f d l, (wayA key f d l).length ≤ f
  | 0, _, _ => Nat.le_refl _
  | f + 1, d, l => by
    unfold wayA
    split
    · exact Nat.zero_le _
    · have := wayA_le key f (d + 1) (half (bitN key d) d l); simp only [List.length_cons]; omega
theorem Nd.one_wf {a b : List UInt8} (ha : a.length = 32) (hb : b.length = 32) : (Nd.one a b).wf := ⟨ha, hb, z32_len, z32_len⟩
/-- The state of the walk down: what is done, what is to do. -/
structure Wy (key : List UInt8) (W : List (List UInt8)) (E : Nd) (i : Nat × List Pr × List (List UInt8)) : Prop where
  d : i.1 ≤ 256
  w : i.2.2 ++ wayA key (256 - i.1) i.1 (dgs i.2.1) = W
  e : endA key (256 - i.1) i.1 (dgs i.2.1) = E
  r : Rise i.1 (dgs i.2.1)
  k : K32 i.2.1
  v : V0 i.2.1
  n : i.2.1.length ≤ 34359730000
  s : i.2.2.length = i.1
theorem bas_snoc (s : List (List UInt8)) (x : List UInt8) : bas (s ++ [x]) = bas s ++ [.ba x] := by simp [bas]
theorem Wy.go {key : List UInt8} {W : List (List UInt8)} {E : Nd} {d : Nat} {s : List Pr} {ss : List (List UInt8)} (h : Wy key W E (d, s, ss)) (h2 : 1 < s.length) :
    d < 256 ∧ ∀ o q : List Pr, (o, q) = (if bitN key d then (s.drop (partN d (dgs s)), s.take (partN d (dgs s))) else (s.take (partN d (dgs s)), s.drop (partN d (dgs s)))) →
      Wy key W E (d + 1, o, ss ++ [rootA (255 - d) (d + 1) (dgs q)]) ∧ Rise (d + 1) (dgs q) ∧ K32 q ∧ V0 q ∧ q.length ≤ 34359730000 := by
  have hl : ¬ (dgs s).length < 2 := by rw [dgs_len]; omega
  have hd : d < 256 := by
    by_cases hd : d < 256
    · exact hd
    · exact absurd (h.r.sep.deep (by show 256 ≤ d; omega)) (by rw [dgs_len]; show ¬ s.length < 2; omega)
  refine ⟨hd, fun o q hoq => ?_⟩
  obtain ⟨e1, e2⟩ := Rise.part hd h.r
  have f1 : 256 - d = (255 - d) + 1 := by omega
  have hw := h.w
  have he := h.e
  have hn := h.n
  have hs := h.s
  dsimp only at hw he e1 e2 hn hs
  rw [f1, wayA, if_neg hl] at hw
  rw [f1, endA, if_neg hl] at he
  have f2 : 256 - (d + 1) = 255 - d := by omega
  cases hb : bitN key d with
  | true =>
    rw [hb, if_pos rfl] at hoq
    obtain ⟨rfl, rfl⟩ := Prod.mk.inj hoq
    rw [hb] at hw he
    rw [e2, dgs_drop] at hw he
    rw [Bool.not_true, e1, dgs_take] at hw
    have r1 := h.r.side false
    have r2 := h.r.side true
    dsimp only at r1 r2
    rw [e1, dgs_take] at r1
    rw [e2, dgs_drop] at r2
    refine ⟨⟨by show d + 1 ≤ 256; omega, ?_, ?_, r2, h.k.drop _, h.v.drop _, by dsimp only; rw [List.length_drop]; omega, by dsimp only; rw [List.length_append, hs]; rfl⟩, r1, h.k.take _, h.v.take _, by rw [List.length_take]; omega⟩
    · dsimp only; rw [f2, List.append_assoc]; exact hw
    · dsimp only; rw [f2]; exact he
  | false =>
    rw [hb, if_neg (by decide)] at hoq
    obtain ⟨rfl, rfl⟩ := Prod.mk.inj hoq
    rw [hb] at hw he
    rw [e1, dgs_take] at hw he
    rw [Bool.not_false, e2, dgs_drop] at hw
    have r1 := h.r.side false
    have r2 := h.r.side true
    dsimp only at r1 r2
    rw [e1, dgs_take] at r1
    rw [e2, dgs_drop] at r2
    refine ⟨⟨by show d + 1 ≤ 256; omega, ?_, ?_, r1, h.k.take _, h.v.take _, by dsimp only; rw [List.length_take]; omega, by dsimp only; rw [List.length_append, hs]; rfl⟩, r2, h.k.drop _, h.v.drop _, by rw [List.length_drop]; omega⟩
    · dsimp only; rw [f2, List.append_assoc]; exact hw
    · dsimp only; rw [f2]; exact he
/-- The way of a key among entries. -/
def wayE (l : List Pr) (key : List UInt8) : Pf := ⟨wayA key 256 0 (dgs (srt l)), endA key 256 0 (dgs (srt l))⟩
theorem cutH {B R : Act → World → Prop} {G : Prop} (h : (∀ a w, R a w → B a w) → G) (k : ∀ a w, R a w → B a w) : G := h k
set_option maxRecDepth 20000 in
set_option maxHeartbeats 2000000 in
theorem nway_v (l : List Pr) (hk : K32 l) (hl : l.length ≤ 34359730000) (key : List UInt8) (hk32 : key.length = 32) (he : errP l = 0) :
    VC Try.prog 58 [.sl prT (l.map prA) none, .ba key] [(27, (wayE l key).s.length)] (.tup [.st [.sl (.ba 32) (bas (wayE l key).s) (some 0), (wayE l key).e.av], errv 0]) := by
  have hs := sorted_v l hk (by omega)
  obtain ⟨hle, hdis, hvals⟩ := errP_ok he
  have hr : resP l = .tup [.sl prT ((srt l).map prA) none, .v (.int .i64 0)] := by unfold resP; rw [if_pos he]
  rw [hr] at hs
  have hsl : (srt l).length = l.length := (srt_perm l).length_eq
  have hsk : K32 (srt l) := hk.perm (srt_perm l)
  have hsr := srt_ris l hk hdis
  have hsv : V0 (srt l) := fun x hx => Nat.le_trans (hvals x ((srt_perm l).mem_iff.1 hx)) (by decide)
  have hrise := ends_rise (d := 0) (srt l) hsk hsr (by omega) (.inr (by omega))
  unfold wayE
  generalize srt l = m at *
  have hm0 : Wy key (wayA key 256 0 (dgs m)) (endA key 256 0 (dgs m)) (0, m, []) := ⟨Nat.zero_le _, rfl, rfl, hrise, hsk, hsv, by dsimp only; omega, rfl⟩
  have hWle := wayA_le key 256 0 (dgs m)
  generalize wayA key 256 0 (dgs m) = W at *
  generalize endA key 256 0 (dgs m) = E at *
  dsimp only
  have hWl := bas_len W
  have hz2 := z32_len
  refine mE Try.func58 ?_; intro N w0 a w hN hR H
  refine mW ?_; clear H; intro a w H
  refine mCall [] [] (hs) H ?_; clear H; intro a w H; try refine wpList_nil ?_
  refine mW ?_; clear H; intro a w H
  refine mC H (fun hb => ?_) (fun hb => ?_)
  · simp at hb
  · clear hb
    refine mW ?_; clear H; intro a w H
    have H := v_nilX tab_ok H 2 0 27 (j := ti27) (.ba 32) rfl (by decide) rfl rfl
    simp only [List.set_cons_succ, List.set_cons_zero, List.length_cons, List.length_nil, Nat.reduceAdd, List.cons_append, List.nil_append, hz] at H
    refine v_loop (fun i : Nat × List Pr × List (List UInt8) => ⟨[(9, none, .v (.int .i64 (i.1 : Int))), (8, none, .ptr 2 []), (6, none, .sl prT (i.2.1.map prA) none), (5, none, .v (.int .i64 0)), (4, none, .ptr 1 []), (3, none, .ptr 0 [])],
      [(.ba 32, .ba key), (ti41.ty, .st [.v (.slice none 0 0), .st [.v (.int .u8 0), .ba z32, .ba z32, .ba z32, .ba z32]]), (ti41.ty, .st [.sl (.ba 32) (bas i.2.2) (some 0), .st [.v (.int .u8 0), .ba z32, .ba z32, .ba z32, .ba z32]])], [], [(27, i.2.2.length)]⟩)
      (Wy key W E) (fun i => 256 - i.1) (0, m, []) hm0 (H.to 3 1 ⟨Nat.le_trans hN (by decide), Nat.le_trans hR (by decide)⟩ ⟨rfl, rfl, rfl, rfl, rfl, rfl, trivial⟩ rfl rfl rfl rfl rfl) ?_
    clear H hm0
    rintro ⟨d, s, ss⟩ a w hwy H
    dsimp only at H
    have hml : (s.map prA).length = s.length := List.length_map ..
    have hssl := bas_len ss
    have hn := hwy.n
    have hssd := hwy.s
    dsimp only at hn hssd
    have hX := And.intro @hml (@hssl)
    refine mW ?_; clear H; intro a w H
    refine mC H (fun hb => ?_) (fun hb => ?_)
    · have h2 : 1 < s.length := by rw [decide_eq_true_eq] at hb; omega
      clear hb
      obtain ⟨hd, hgo⟩ := hwy.go h2
      have hp := npart_v s hwy.k d hd hn
      have hbit := bit_v key hk32 (d : Int)
      have hpn := partN_le d (dgs s)
      rw [dgs_len] at hpn
      have hpb : decide (pbit key (d : Int) = 1) = bitN key d := by
        rw [pbit, if_pos (by omega), Int.toNat_natCast]; cases bitN key d <;> rfl
      refine mW ?_; clear H; intro a w H
      refine mCall [] [] (hp) H ?_; clear H; intro a w H; try refine wpList_nil ?_
      clear hX; have hX := And.intro @hml (And.intro @hssl (And.intro @prs_take (@prs_drop)))
      refine mW ?_; clear H; intro a w H
      refine mS ?_; refine mD 0 [] [] H ?_; clear H; intro gS H; refine mT ?_; clear H; intro a w H
      refine v_drawNil H ?_; clear H; intro H
      refine mW ?_; clear H; intro a w H
      refine mCall [] [] (hbit) H ?_; clear H; intro a w H; try refine wpList_nil ?_
      refine mW ?_; clear H; intro a w H
      simp only [hpb] at H
      obtain ⟨o, q, hoq⟩ : ∃ o q : List Pr, (o, q) = (if bitN key d then (s.drop (partN d (dgs s)), s.take (partN d (dgs s))) else (s.take (partN d (dgs s)), s.drop (partN d (dgs s)))) := ⟨_, _, rfl⟩
      obtain ⟨hnext, hq1, hq2, hq3, hq4⟩ := hgo o q hoq
      have hrt := nroot_v (255 - d) (d + 1) q (by omega) hq1 hq2 hq3 hq4
      have hrl := rootA_len (255 - d) (d + 1) (dgs q)
      revert a w
      apply cutH (R := fun a w => Rel Try.prog w0 N Try.f58.ntmps ⟨[(12, none, .sl prT (q.map prA) none), (11, none, .sl prT (o.map prA) none), (9, none, .v (.int .i64 (d : Int))), (8, none, .ptr 2 []), (5, none, .v (.int .i64 0)), (4, none, .ptr 1 []), (3, none, .ptr 0 [])],
        [(.ba 32, .ba key), (ti41.ty, .st [.v (.slice none 0 0), .st [.v (.int .u8 0), .ba z32, .ba z32, .ba z32, .ba z32]]), (ti41.ty, .st [.sl (.ba 32) (bas ss) (some 0), .st [.v (.int .u8 0), .ba z32, .ba z32, .ba z32, .ba z32]])], [], [(27, ss.length)]⟩ a w)
      · intro key1 a w H
        refine mC H (fun hb => ?_) (fun hb => ?_)
        · rw [hb, if_pos rfl] at hoq
          obtain ⟨rfl, rfl⟩ := Prod.mk.inj hoq
          refine mW ?_; clear H; intro a w H
          exact key1 _ _ (H.to 3 1 ⟨Nat.le_trans hN (by decide), Nat.le_trans hR (by decide)⟩ ⟨rfl, rfl, rfl, rfl, rfl, rfl, rfl, trivial⟩ rfl rfl rfl rfl rfl)
        · rw [hb, if_neg (by decide)] at hoq
          obtain ⟨rfl, rfl⟩ := Prod.mk.inj hoq
          refine mS ?_
          exact key1 _ _ (H.to 3 1 ⟨Nat.le_trans hN (by decide), Nat.le_trans hR (by decide)⟩ ⟨rfl, rfl, rfl, rfl, rfl, rfl, rfl, trivial⟩ rfl rfl rfl rfl rfl)
      intro a w H
      generalize rootA (255 - d) (d + 1) (dgs q) = x at *
      clear hX; have hX := @hssl
      repeat (first | refine wp_seq ?_ | refine wp_block ?_)
      refine v_drawZ 0 [2, 3, 4, 0, 1, 5, 6, 7, 8, 9] [0, 1, 5, 6, 7, 9] [2, 3, 4] [(0, 5), (0, 6), (1, 5), (1, 6), (1006, 5)] (by kernel_rfl) (by kernel_rfl) (by kernel_rfl) (by kernel_rfl) (by kernel_rfl) H (by rfl) ?_; clear H; intro gS H; try replace H := ntf H
      refine wpZ_run 3 (i := 2) (n' := 7) (pend' := [0, 1, 5, 6, 7, 8, 9]) (by rfl) (by rfl) (by rfl) (by rfl) (by rfl) ?_
      repeat ((first | refine v_someT 3 tab_ok hN H (by rfl) ctX ?_ | refine v_someT 2 tab_ok hN H (by rfl) ctX ?_ | refine v_someT 1 tab_ok hN H (by rfl) ctX ?_); clear H; intro a w H; replace H := ntf H; simp only [List.drop_succ_cons, List.drop_zero, List.drop_nil])
      refine wpT_nil ?_
      try dsimp only
      refine wpZ_two (cs := [5]) (by rfl) (by rfl) ?_
      refine all2 ?_
      refine ⟨?_, ?_⟩
      focus
        refine wpZ_pick (pend' := [1, 5, 6, 7, 8, 9]) (by rfl) (by rfl) ?_
        repeat ((first | refine v_someT 3 tab_ok hN H (by rfl) ctX ?_ | refine v_someT 2 tab_ok hN H (by rfl) ctX ?_ | refine v_someT 1 tab_ok hN H (by rfl) ctX ?_); clear H; intro a w H; replace H := ntf H; simp only [List.drop_succ_cons, List.drop_zero, List.drop_nil])
        refine wpT_nil ?_
        try dsimp only
        refine wpZ_two (cs := [5]) (by rfl) (by rfl) ?_
        refine all2 ?_
        refine ⟨?_, ?_⟩
        focus
          refine wpZ_pick (pend' := [5, 6, 7, 8, 9]) (by rfl) (by rfl) ?_
          repeat ((first | refine v_someT 3 tab_ok hN H (by rfl) ctX ?_ | refine v_someT 2 tab_ok hN H (by rfl) ctX ?_ | refine v_someT 1 tab_ok hN H (by rfl) ctX ?_); clear H; intro a w H; replace H := ntf H; simp only [List.drop_succ_cons, List.drop_zero, List.drop_nil])
          refine wpT_nil ?_
          try dsimp only
          refine wpZ_two (cs := []) (by rfl) (by rfl) ?_
          refine all1 ?_
          refine wpZ_pick (pend' := [6, 7, 8, 9]) (by rfl) (by rfl) ?_
          refine mCallT [] [] (hrt) H ?_; clear H; intro a w H
          refine wpT_nil ?_
          try dsimp only
          refine wpZ_two (cs := []) (by rfl) (by rfl) ?_
          refine all1 ?_
          refine wpZ_pick (pend' := [7, 8, 9]) (by rfl) (by rfl) ?_
          repeat ((first | refine v_someT 3 tab_ok hN H (by rfl) ctX ?_ | refine v_someT 2 tab_ok hN H (by rfl) ctX ?_ | refine v_someT 1 tab_ok hN H (by rfl) ctX ?_); clear H; intro a w H; replace H := ntf H; simp only [List.drop_succ_cons, List.drop_zero, List.drop_nil])
          refine wpT_nil ?_
          try dsimp only
          refine wpZ_two (cs := []) (by rfl) (by rfl) ?_
          refine all1 ?_
          refine wpZ_pick (pend' := [8, 9]) (by rfl) (by rfl) ?_
          repeat ((first | refine v_someT 3 tab_ok hN H (by rfl) ctX ?_ | refine v_someT 2 tab_ok hN H (by rfl) ctX ?_ | refine v_someT 1 tab_ok hN H (by rfl) ctX ?_); clear H; intro a w H; replace H := ntf H; simp only [List.drop_succ_cons, List.drop_zero, List.drop_nil])
          refine wpT_nil ?_
          try dsimp only
          refine wpZ_run 1 (i := 8) (n' := 1) (pend' := [9]) (by rfl) (by rfl) (by rfl) (by rfl) (by rfl) ?_
          repeat ((first | refine v_someT 3 tab_ok hN H (by rfl) ctX ?_ | refine v_someT 2 tab_ok hN H (by rfl) ctX ?_ | refine v_someT 1 tab_ok hN H (by rfl) ctX ?_); clear H; intro a w H; replace H := ntf H; simp only [List.drop_succ_cons, List.drop_zero, List.drop_nil])
          refine wpT_nil ?_
          try dsimp only
          refine wpZ_two (cs := []) (by rfl) (by rfl) ?_
          refine all1 ?_
          refine wpZ_pick (pend' := []) (by rfl) (by rfl) ?_
          repeat ((first | refine v_someT 3 tab_ok hN H (by rfl) ctX ?_ | refine v_someT 2 tab_ok hN H (by rfl) ctX ?_ | refine v_someT 1 tab_ok hN H (by rfl) ctX ?_); clear H; intro a w H; replace H := ntf H; simp only [List.drop_succ_cons, List.drop_zero, List.drop_nil])
          refine wpT_nil ?_
          try dsimp only
          refine wpZ_nil ?_
          replace H := RelT.toRel H
        rotate_left 1
        focus
          refine wpZ_pick (pend' := [1, 6, 7, 8, 9]) (by rfl) (by rfl) ?_
          refine mCallT [] [] (hrt) H ?_; clear H; intro a w H
          refine wpT_nil ?_
          try dsimp only
          refine wpZ_two (cs := [6]) (by rfl) (by rfl) ?_
          refine all2 ?_
          refine ⟨?_, ?_⟩
          focus
            refine wpZ_pick (pend' := [6, 7, 8, 9]) (by rfl) (by rfl) ?_
            repeat ((first | refine v_someT 3 tab_ok hN H (by rfl) ctX ?_ | refine v_someT 2 tab_ok hN H (by rfl) ctX ?_ | refine v_someT 1 tab_ok hN H (by rfl) ctX ?_); clear H; intro a w H; replace H := ntf H; simp only [List.drop_succ_cons, List.drop_zero, List.drop_nil])
            refine wpT_nil ?_
            try dsimp only
            refine wpZ_two (cs := []) (by rfl) (by rfl) ?_
            refine all1 ?_
            refine wpZ_pick (pend' := [7, 8, 9]) (by rfl) (by rfl) ?_
            repeat ((first | refine v_someT 3 tab_ok hN H (by rfl) ctX ?_ | refine v_someT 2 tab_ok hN H (by rfl) ctX ?_ | refine v_someT 1 tab_ok hN H (by rfl) ctX ?_); clear H; intro a w H; replace H := ntf H; simp only [List.drop_succ_cons, List.drop_zero, List.drop_nil])
            refine wpT_nil ?_
            try dsimp only
            refine wpZ_two (cs := []) (by rfl) (by rfl) ?_
            refine all1 ?_
            refine wpZ_pick (pend' := [8, 9]) (by rfl) (by rfl) ?_
            repeat ((first | refine v_someT 3 tab_ok hN H (by rfl) ctX ?_ | refine v_someT 2 tab_ok hN H (by rfl) ctX ?_ | refine v_someT 1 tab_ok hN H (by rfl) ctX ?_); clear H; intro a w H; replace H := ntf H; simp only [List.drop_succ_cons, List.drop_zero, List.drop_nil])
            refine wpT_nil ?_
            try dsimp only
            refine wpZ_run 1 (i := 8) (n' := 1) (pend' := [9]) (by rfl) (by rfl) (by rfl) (by rfl) (by rfl) ?_
            repeat ((first | refine v_someT 3 tab_ok hN H (by rfl) ctX ?_ | refine v_someT 2 tab_ok hN H (by rfl) ctX ?_ | refine v_someT 1 tab_ok hN H (by rfl) ctX ?_); clear H; intro a w H; replace H := ntf H; simp only [List.drop_succ_cons, List.drop_zero, List.drop_nil])
            refine wpT_nil ?_
            try dsimp only
            refine wpZ_two (cs := []) (by rfl) (by rfl) ?_
            refine all1 ?_
            refine wpZ_pick (pend' := []) (by rfl) (by rfl) ?_
            repeat ((first | refine v_someT 3 tab_ok hN H (by rfl) ctX ?_ | refine v_someT 2 tab_ok hN H (by rfl) ctX ?_ | refine v_someT 1 tab_ok hN H (by rfl) ctX ?_); clear H; intro a w H; replace H := ntf H; simp only [List.drop_succ_cons, List.drop_zero, List.drop_nil])
            refine wpT_nil ?_
            try dsimp only
            refine wpZ_nil ?_
            replace H := RelT.toRel H
          rotate_left 1
          focus
            refine wpZ_pick (pend' := [1, 7, 8, 9]) (by rfl) (by rfl) ?_
            repeat ((first | refine v_someT 3 tab_ok hN H (by rfl) ctX ?_ | refine v_someT 2 tab_ok hN H (by rfl) ctX ?_ | refine v_someT 1 tab_ok hN H (by rfl) ctX ?_); clear H; intro a w H; replace H := ntf H; simp only [List.drop_succ_cons, List.drop_zero, List.drop_nil])
            refine wpT_nil ?_
            try dsimp only
            refine wpZ_two (cs := []) (by rfl) (by rfl) ?_
            refine all1 ?_
            refine wpZ_pick (pend' := [7, 8, 9]) (by rfl) (by rfl) ?_
            repeat ((first | refine v_someT 3 tab_ok hN H (by rfl) ctX ?_ | refine v_someT 2 tab_ok hN H (by rfl) ctX ?_ | refine v_someT 1 tab_ok hN H (by rfl) ctX ?_); clear H; intro a w H; replace H := ntf H; simp only [List.drop_succ_cons, List.drop_zero, List.drop_nil])
            refine wpT_nil ?_
            try dsimp only
            refine wpZ_two (cs := []) (by rfl) (by rfl) ?_
            refine all1 ?_
            refine wpZ_pick (pend' := [8, 9]) (by rfl) (by rfl) ?_
            repeat ((first | refine v_someT 3 tab_ok hN H (by rfl) ctX ?_ | refine v_someT 2 tab_ok hN H (by rfl) ctX ?_ | refine v_someT 1 tab_ok hN H (by rfl) ctX ?_); clear H; intro a w H; replace H := ntf H; simp only [List.drop_succ_cons, List.drop_zero, List.drop_nil])
            refine wpT_nil ?_
            try dsimp only
            refine wpZ_run 1 (i := 8) (n' := 1) (pend' := [9]) (by rfl) (by rfl) (by rfl) (by rfl) (by rfl) ?_
            repeat ((first | refine v_someT 3 tab_ok hN H (by rfl) ctX ?_ | refine v_someT 2 tab_ok hN H (by rfl) ctX ?_ | refine v_someT 1 tab_ok hN H (by rfl) ctX ?_); clear H; intro a w H; replace H := ntf H; simp only [List.drop_succ_cons, List.drop_zero, List.drop_nil])
            refine wpT_nil ?_
            try dsimp only
            refine wpZ_two (cs := []) (by rfl) (by rfl) ?_
            refine all1 ?_
            refine wpZ_pick (pend' := []) (by rfl) (by rfl) ?_
            repeat ((first | refine v_someT 3 tab_ok hN H (by rfl) ctX ?_ | refine v_someT 2 tab_ok hN H (by rfl) ctX ?_ | refine v_someT 1 tab_ok hN H (by rfl) ctX ?_); clear H; intro a w H; replace H := ntf H; simp only [List.drop_succ_cons, List.drop_zero, List.drop_nil])
            refine wpT_nil ?_
            try dsimp only
            refine wpZ_nil ?_
            replace H := RelT.toRel H
      rotate_left 3
      focus
        refine wpZ_pick (pend' := [0, 1, 6, 7, 8, 9]) (by rfl) (by rfl) ?_
        refine mCallT [] [] (hrt) H ?_; clear H; intro a w H
        refine wpT_nil ?_
        try dsimp only
        refine wpZ_two (cs := [6]) (by rfl) (by rfl) ?_
        refine all2 ?_
        refine ⟨?_, ?_⟩
        focus
          refine wpZ_pick (pend' := [1, 6, 7, 8, 9]) (by rfl) (by rfl) ?_
          repeat ((first | refine v_someT 3 tab_ok hN H (by rfl) ctX ?_ | refine v_someT 2 tab_ok hN H (by rfl) ctX ?_ | refine v_someT 1 tab_ok hN H (by rfl) ctX ?_); clear H; intro a w H; replace H := ntf H; simp only [List.drop_succ_cons, List.drop_zero, List.drop_nil])
          refine wpT_nil ?_
          try dsimp only
          refine wpZ_two (cs := [6]) (by rfl) (by rfl) ?_
          refine all2 ?_
          refine ⟨?_, ?_⟩
          focus
            refine wpZ_pick (pend' := [6, 7, 8, 9]) (by rfl) (by rfl) ?_
            repeat ((first | refine v_someT 3 tab_ok hN H (by rfl) ctX ?_ | refine v_someT 2 tab_ok hN H (by rfl) ctX ?_ | refine v_someT 1 tab_ok hN H (by rfl) ctX ?_); clear H; intro a w H; replace H := ntf H; simp only [List.drop_succ_cons, List.drop_zero, List.drop_nil])
            refine wpT_nil ?_
            try dsimp only
            refine wpZ_two (cs := []) (by rfl) (by rfl) ?_
            refine all1 ?_
            refine wpZ_pick (pend' := [7, 8, 9]) (by rfl) (by rfl) ?_
            repeat ((first | refine v_someT 3 tab_ok hN H (by rfl) ctX ?_ | refine v_someT 2 tab_ok hN H (by rfl) ctX ?_ | refine v_someT 1 tab_ok hN H (by rfl) ctX ?_); clear H; intro a w H; replace H := ntf H; simp only [List.drop_succ_cons, List.drop_zero, List.drop_nil])
            refine wpT_nil ?_
            try dsimp only
            refine wpZ_two (cs := []) (by rfl) (by rfl) ?_
            refine all1 ?_
            refine wpZ_pick (pend' := [8, 9]) (by rfl) (by rfl) ?_
            repeat ((first | refine v_someT 3 tab_ok hN H (by rfl) ctX ?_ | refine v_someT 2 tab_ok hN H (by rfl) ctX ?_ | refine v_someT 1 tab_ok hN H (by rfl) ctX ?_); clear H; intro a w H; replace H := ntf H; simp only [List.drop_succ_cons, List.drop_zero, List.drop_nil])
            refine wpT_nil ?_
            try dsimp only
            refine wpZ_run 1 (i := 8) (n' := 1) (pend' := [9]) (by rfl) (by rfl) (by rfl) (by rfl) (by rfl) ?_
            repeat ((first | refine v_someT 3 tab_ok hN H (by rfl) ctX ?_ | refine v_someT 2 tab_ok hN H (by rfl) ctX ?_ | refine v_someT 1 tab_ok hN H (by rfl) ctX ?_); clear H; intro a w H; replace H := ntf H; simp only [List.drop_succ_cons, List.drop_zero, List.drop_nil])
            refine wpT_nil ?_
            try dsimp only
            refine wpZ_two (cs := []) (by rfl) (by rfl) ?_
            refine all1 ?_
            refine wpZ_pick (pend' := []) (by rfl) (by rfl) ?_
            repeat ((first | refine v_someT 3 tab_ok hN H (by rfl) ctX ?_ | refine v_someT 2 tab_ok hN H (by rfl) ctX ?_ | refine v_someT 1 tab_ok hN H (by rfl) ctX ?_); clear H; intro a w H; replace H := ntf H; simp only [List.drop_succ_cons, List.drop_zero, List.drop_nil])
            refine wpT_nil ?_
            try dsimp only
            refine wpZ_nil ?_
            replace H := RelT.toRel H
          rotate_left 1
          focus
            refine wpZ_pick (pend' := [1, 7, 8, 9]) (by rfl) (by rfl) ?_
            repeat ((first | refine v_someT 3 tab_ok hN H (by rfl) ctX ?_ | refine v_someT 2 tab_ok hN H (by rfl) ctX ?_ | refine v_someT 1 tab_ok hN H (by rfl) ctX ?_); clear H; intro a w H; replace H := ntf H; simp only [List.drop_succ_cons, List.drop_zero, List.drop_nil])
            refine wpT_nil ?_
            try dsimp only
            refine wpZ_two (cs := []) (by rfl) (by rfl) ?_
            refine all1 ?_
            refine wpZ_pick (pend' := [7, 8, 9]) (by rfl) (by rfl) ?_
            repeat ((first | refine v_someT 3 tab_ok hN H (by rfl) ctX ?_ | refine v_someT 2 tab_ok hN H (by rfl) ctX ?_ | refine v_someT 1 tab_ok hN H (by rfl) ctX ?_); clear H; intro a w H; replace H := ntf H; simp only [List.drop_succ_cons, List.drop_zero, List.drop_nil])
            refine wpT_nil ?_
            try dsimp only
            refine wpZ_two (cs := []) (by rfl) (by rfl) ?_
            refine all1 ?_
            refine wpZ_pick (pend' := [8, 9]) (by rfl) (by rfl) ?_
            repeat ((first | refine v_someT 3 tab_ok hN H (by rfl) ctX ?_ | refine v_someT 2 tab_ok hN H (by rfl) ctX ?_ | refine v_someT 1 tab_ok hN H (by rfl) ctX ?_); clear H; intro a w H; replace H := ntf H; simp only [List.drop_succ_cons, List.drop_zero, List.drop_nil])
            refine wpT_nil ?_
            try dsimp only
            refine wpZ_run 1 (i := 8) (n' := 1) (pend' := [9]) (by rfl) (by rfl) (by rfl) (by rfl) (by rfl) ?_
            repeat ((first | refine v_someT 3 tab_ok hN H (by rfl) ctX ?_ | refine v_someT 2 tab_ok hN H (by rfl) ctX ?_ | refine v_someT 1 tab_ok hN H (by rfl) ctX ?_); clear H; intro a w H; replace H := ntf H; simp only [List.drop_succ_cons, List.drop_zero, List.drop_nil])
            refine wpT_nil ?_
            try dsimp only
            refine wpZ_two (cs := []) (by rfl) (by rfl) ?_
            refine all1 ?_
            refine wpZ_pick (pend' := []) (by rfl) (by rfl) ?_
            repeat ((first | refine v_someT 3 tab_ok hN H (by rfl) ctX ?_ | refine v_someT 2 tab_ok hN H (by rfl) ctX ?_ | refine v_someT 1 tab_ok hN H (by rfl) ctX ?_); clear H; intro a w H; replace H := ntf H; simp only [List.drop_succ_cons, List.drop_zero, List.drop_nil])
            refine wpT_nil ?_
            try dsimp only
            refine wpZ_nil ?_
            replace H := RelT.toRel H
        rotate_left 2
        focus
          refine wpZ_pick (pend' := [0, 1, 7, 8, 9]) (by rfl) (by rfl) ?_
          repeat ((first | refine v_someT 3 tab_ok hN H (by rfl) ctX ?_ | refine v_someT 2 tab_ok hN H (by rfl) ctX ?_ | refine v_someT 1 tab_ok hN H (by rfl) ctX ?_); clear H; intro a w H; replace H := ntf H; simp only [List.drop_succ_cons, List.drop_zero, List.drop_nil])
          refine wpT_nil ?_
          try dsimp only
          refine wpZ_two (cs := []) (by rfl) (by rfl) ?_
          refine all1 ?_
          refine wpZ_pick (pend' := [1, 7, 8, 9]) (by rfl) (by rfl) ?_
          repeat ((first | refine v_someT 3 tab_ok hN H (by rfl) ctX ?_ | refine v_someT 2 tab_ok hN H (by rfl) ctX ?_ | refine v_someT 1 tab_ok hN H (by rfl) ctX ?_); clear H; intro a w H; replace H := ntf H; simp only [List.drop_succ_cons, List.drop_zero, List.drop_nil])
          refine wpT_nil ?_
          try dsimp only
          refine wpZ_two (cs := []) (by rfl) (by rfl) ?_
          refine all1 ?_
          refine wpZ_pick (pend' := [7, 8, 9]) (by rfl) (by rfl) ?_
          repeat ((first | refine v_someT 3 tab_ok hN H (by rfl) ctX ?_ | refine v_someT 2 tab_ok hN H (by rfl) ctX ?_ | refine v_someT 1 tab_ok hN H (by rfl) ctX ?_); clear H; intro a w H; replace H := ntf H; simp only [List.drop_succ_cons, List.drop_zero, List.drop_nil])
          refine wpT_nil ?_
          try dsimp only
          refine wpZ_two (cs := []) (by rfl) (by rfl) ?_
          refine all1 ?_
          refine wpZ_pick (pend' := [8, 9]) (by rfl) (by rfl) ?_
          repeat ((first | refine v_someT 3 tab_ok hN H (by rfl) ctX ?_ | refine v_someT 2 tab_ok hN H (by rfl) ctX ?_ | refine v_someT 1 tab_ok hN H (by rfl) ctX ?_); clear H; intro a w H; replace H := ntf H; simp only [List.drop_succ_cons, List.drop_zero, List.drop_nil])
          refine wpT_nil ?_
          try dsimp only
          refine wpZ_run 1 (i := 8) (n' := 1) (pend' := [9]) (by rfl) (by rfl) (by rfl) (by rfl) (by rfl) ?_
          repeat ((first | refine v_someT 3 tab_ok hN H (by rfl) ctX ?_ | refine v_someT 2 tab_ok hN H (by rfl) ctX ?_ | refine v_someT 1 tab_ok hN H (by rfl) ctX ?_); clear H; intro a w H; replace H := ntf H; simp only [List.drop_succ_cons, List.drop_zero, List.drop_nil])
          refine wpT_nil ?_
          try dsimp only
          refine wpZ_two (cs := []) (by rfl) (by rfl) ?_
          refine all1 ?_
          refine wpZ_pick (pend' := []) (by rfl) (by rfl) ?_
          repeat ((first | refine v_someT 3 tab_ok hN H (by rfl) ctX ?_ | refine v_someT 2 tab_ok hN H (by rfl) ctX ?_ | refine v_someT 1 tab_ok hN H (by rfl) ctX ?_); clear H; intro a w H; replace H := ntf H; simp only [List.drop_succ_cons, List.drop_zero, List.drop_nil])
          refine wpT_nil ?_
          try dsimp only
          refine wpZ_nil ?_
          replace H := RelT.toRel H
      all_goals
        refine mS ?_
        refine mW ?_; clear H; intro a w H
        try rw [← bas_snoc] at H
        exact ⟨(d + 1, o, ss ++ [x]), hnext, by dsimp only; omega, H.to 3 1 ⟨Nat.le_trans hN (by decide), Nat.le_trans hR (by decide)⟩ ⟨rfl, rfl, rfl, rfl, rfl, rfl, trivial⟩ rfl (by dsimp only; rw [List.length_append]; rfl) rfl rfl rfl⟩
    · have h2 : s.length < 2 := by rw [decide_eq_false_iff_not] at hb; omega
      clear hb
      have hE := hwy.e
      have hW := hwy.w
      have hsk2 := hwy.k
      have hsv2 := hwy.v
      dsimp only at hE hW hsk2 hsv2
      rw [endA_small _ _ _ _ (by rw [dgs_len]; exact h2)] at hE
      rw [wayA_small _ _ _ _ (by rw [dgs_len]; exact h2), List.append_nil] at hW
      subst hW
      clear hwy
      match s, h2 with
      | [], _ =>
        subst hE
        simp only [List.map_nil] at H
        clear hX; have hX := @hssl
        refine mW ?_; clear H; intro a w H
        refine mC H (fun hb => ?_) (fun hb => ?_)
        · simp at hb
        · refine mW ?_; clear H; intro a w H
          simp only [endB, dgs, List.map_nil, Nd.zero, Nd.av]
          refine wp_ret ?_; exact mEnd [] [0] [.cell 4 41, .tmp 5] [_, _] hN hR H
      | [x], _ =>
        subst hE
        have q1 := hsk2 x List.mem_cons_self
        have q2 := value_v x.2 (hsv2 x List.mem_cons_self)
        have q3 := valH_len x.2
        obtain ⟨kb, vb⟩ := x
        dsimp only at q1 q2 q3
        simp only [List.map_cons, List.map_nil, prA] at H
        clear hX; have hX := @hssl
        refine mW ?_; clear H; intro a w H
        refine mC H (fun hb => ?_) (fun hb => ?_)
        · refine mS ?_; refine mD 0 [8, 11] [0, 1, 2, 3] H ?_; clear H; intro gS H
          refine mT ?_; clear H; intro a w H
          refine mCallT [] [] (q2) H ?_; clear H; intro a w H
          refine mT ?_; clear H; intro a w H
          refine v_drawNil H ?_; clear H; intro H
          refine mW ?_; clear H; intro a w H
          simp only [endB, dgs, List.map_nil, List.map_cons, Nd.one, Nd.av]
          refine wp_ret ?_; exact mEnd [] [0] [.cell 4 41, .tmp 5] [_, _] hN hR H
        · simp at hb
end Go.Proofs.Ythphhnkoilcofaa
/- node.Way: the way of a key among entries, in memory that may be written. -/
namespace Go.Proofs.Ythphhnkoilcofaa
open Go Go.RowKit
set_option maxRecDepth 20000 in
set_option maxHeartbeats 2000000 in
theorem nwayV_v (l : List Pr) (hk : K32 l) (hl : l.length ≤ 34359730000) (key : List UInt8) (hk32 : key.length = 32) (he : errP l = 0) :
    VX Try.prog 58 [] [] [] [.sl prT (l.map prA) none, .ba key] [(.vc 27 (.ba 32), .vc (wayE l key).s.length (bas (wayE l key).s))] [] [] (.tup [.st [.vw 0 (wayE l key).s.length (wayE l key).s.length, (wayE l key).e.av], errv 0]) := by
  have hs := sorted_v l hk (by omega)
  obtain ⟨hle, hdis, hvals⟩ := errP_ok he
  have hr : resP l = .tup [.sl prT ((srt l).map prA) none, .v (.int .i64 0)] := by unfold resP; rw [if_pos he]
  rw [hr] at hs
  have hsl : (srt l).length = l.length := (srt_perm l).length_eq
  have hsk : K32 (srt l) := hk.perm (srt_perm l)
  have hsr := srt_ris l hk hdis
  have hsv : V0 (srt l) := fun x hx => Nat.le_trans (hvals x ((srt_perm l).mem_iff.1 hx)) (by decide)
  have hrise := ends_rise (d := 0) (srt l) hsk hsr (by omega) (.inr (by omega))
  unfold wayE
  generalize srt l = m at *
  have hm0 : Wy key (wayA key 256 0 (dgs m)) (endA key 256 0 (dgs m)) (0, m, []) := ⟨Nat.zero_le _, rfl, rfl, hrise, hsk, hsv, by dsimp only; omega, rfl⟩
  have hWle := wayA_le key 256 0 (dgs m)
  generalize wayA key 256 0 (dgs m) = W at *
  generalize endA key 256 0 (dgs m) = E at *
  dsimp only
  have hWl := bas_len W
  have hz2 := z32_len
  refine mE Try.func58 ?_; intro N w0 a w hN hR H
  refine mW ?_; clear H; intro a w H
  refine mCall [] [] (hs) H ?_; clear H; intro a w H; try refine wpList_nil ?_
  refine mW ?_; clear H; intro a w H
  refine mC H (fun hb => ?_) (fun hb => ?_)
  · simp at hb
  · clear hb
    refine mW ?_; clear H; intro a w H
    replace H := v_nilVB tab_ok H 2 [0] 27 (j := ti27) rfl (by decide) rfl rfl rfl
    simp only [List.set_cons_succ, List.set_cons_zero, List.length_cons, List.length_nil, Nat.reduceAdd, List.cons_append, List.nil_append, hz, AV.put, List.getElem?_cons_zero] at H
    refine v_loop (fun i : Nat × List Pr × List (List UInt8) => ⟨[(9, none, .v (.int .i64 (i.1 : Int))), (8, none, .ptr 2 []), (6, none, .sl prT (i.2.1.map prA) none), (5, none, .v (.int .i64 0)), (4, none, .ptr 1 []), (3, none, .ptr 0 [])],
      [(.ba 32, .ba key), (ti41.ty, .st [.v (.slice none 0 0), .st [.v (.int .u8 0), .ba z32, .ba z32, .ba z32, .ba z32]]), (ti41.ty, .st [.vw 3 i.2.2.length i.2.2.length, .st [.v (.int .u8 0), .ba z32, .ba z32, .ba z32, .ba z32]]), (.vc 27 (.ba 32), .vc i.2.2.length (bas i.2.2))], [], []⟩)
      (Wy key W E) (fun i => 256 - i.1) (0, m, []) hm0 (H.to 4 0 ⟨Nat.le_trans hN (by decide), hR⟩ ⟨rfl, rfl, rfl, rfl, rfl, rfl, trivial⟩ rfl rfl rfl rfl rfl) ?_
    clear H hm0
    rintro ⟨d, s, ss⟩ a w hwy H
    dsimp only at H
    have hml : (s.map prA).length = s.length := List.length_map ..
    have hssl := bas_len ss
    have hsst : (bas ss).take ss.length = bas ss := List.take_of_length_le (by omega)
    have hn := hwy.n
    have hssd := hwy.s
    dsimp only at hn hssd
    have hX := And.intro @hml (@hssl)
    refine mW ?_; clear H; intro a w H
    refine mC H (fun hb => ?_) (fun hb => ?_)
    · have h2 : 1 < s.length := by rw [decide_eq_true_eq] at hb; omega
      clear hb
      obtain ⟨hd, hgo⟩ := hwy.go h2
      have hp := npart_v s hwy.k d hd hn
      have hbit := bit_v key hk32 (d : Int)
      have hpn := partN_le d (dgs s)
      rw [dgs_len] at hpn
      have hpb : decide (pbit key (d : Int) = 1) = bitN key d := by
        rw [pbit, if_pos (by omega), Int.toNat_natCast]; cases bitN key d <;> rfl
      refine mW ?_; clear H; intro a w H
      refine mCall [] [] (hp) H ?_; clear H; intro a w H; try refine wpList_nil ?_
      clear hX; have hX := And.intro @hml (And.intro @hssl (And.intro @prs_take (@prs_drop)))
      refine mW ?_; clear H; intro a w H
      refine mS ?_; refine mD 0 [] [] H ?_; clear H; intro gS H; refine mT ?_; clear H; intro a w H
      refine v_drawNil H ?_; clear H; intro H
      refine mW ?_; clear H; intro a w H
      refine mCall [] [] (hbit) H ?_; clear H; intro a w H; try refine wpList_nil ?_
      refine mW ?_; clear H; intro a w H
      simp only [hpb] at H
      obtain ⟨o, q, hoq⟩ : ∃ o q : List Pr, (o, q) = (if bitN key d then (s.drop (partN d (dgs s)), s.take (partN d (dgs s))) else (s.take (partN d (dgs s)), s.drop (partN d (dgs s)))) := ⟨_, _, rfl⟩
      obtain ⟨hnext, hq1, hq2, hq3, hq4⟩ := hgo o q hoq
      have hrt := nroot_v (255 - d) (d + 1) q (by omega) hq1 hq2 hq3 hq4
      have hrl := rootA_len (255 - d) (d + 1) (dgs q)
      revert a w
      apply cutH (R := fun a w => Rel Try.prog w0 N Try.f58.ntmps ⟨[(12, none, .sl prT (q.map prA) none), (11, none, .sl prT (o.map prA) none), (9, none, .v (.int .i64 (d : Int))), (8, none, .ptr 2 []), (5, none, .v (.int .i64 0)), (4, none, .ptr 1 []), (3, none, .ptr 0 [])],
        [(.ba 32, .ba key), (ti41.ty, .st [.v (.slice none 0 0), .st [.v (.int .u8 0), .ba z32, .ba z32, .ba z32, .ba z32]]), (ti41.ty, .st [.vw 3 ss.length ss.length, .st [.v (.int .u8 0), .ba z32, .ba z32, .ba z32, .ba z32]]), (.vc 27 (.ba 32), .vc ss.length (bas ss))], [], []⟩ a w)
      · intro key1 a w H
        refine mC H (fun hb => ?_) (fun hb => ?_)
        · rw [hb, if_pos rfl] at hoq
          obtain ⟨rfl, rfl⟩ := Prod.mk.inj hoq
          refine mW ?_; clear H; intro a w H
          exact key1 _ _ (H.to 4 0 ⟨Nat.le_trans hN (by decide), hR⟩ ⟨rfl, rfl, rfl, rfl, rfl, rfl, rfl, trivial⟩ rfl rfl rfl rfl rfl)
        · rw [hb, if_neg (by decide)] at hoq
          obtain ⟨rfl, rfl⟩ := Prod.mk.inj hoq
          refine mS ?_
          exact key1 _ _ (H.to 4 0 ⟨Nat.le_trans hN (by decide), hR⟩ ⟨rfl, rfl, rfl, rfl, rfl, rfl, rfl, trivial⟩ rfl rfl rfl rfl rfl)
      intro a w H
      generalize rootA (255 - d) (d + 1) (dgs q) = x at *
      clear hX; have hX := And.intro @hssl (@hsst)
      repeat (first | refine wp_seq ?_ | refine wp_block ?_)
      refine v_drawZ 0 [2, 3, 4, 0, 1, 5, 6, 7, 8, 9] [0, 1, 5, 6, 7, 9] [2, 3, 4] [(0, 5), (0, 6), (1, 5), (1, 6), (1006, 5)] (by kernel_rfl) (by kernel_rfl) (by kernel_rfl) (by kernel_rfl) (by kernel_rfl) H (by rfl) ?_; clear H; intro gS H; try replace H := ntf H
      refine wpZ_run 3 (i := 2) (n' := 7) (pend' := [0, 1, 5, 6, 7, 8, 9]) (by rfl) (by rfl) (by rfl) (by rfl) (by rfl) ?_
      repeat ((first | refine v_someT 3 tab_ok hN H (by rfl) ctX ?_ | refine v_someT 2 tab_ok hN H (by rfl) ctX ?_ | refine v_someT 1 tab_ok hN H (by rfl) ctX ?_); clear H; intro a w H; replace H := ntf H; simp only [List.drop_succ_cons, List.drop_zero, List.drop_nil])
      refine wpT_nil ?_
      try dsimp only
      refine wpZ_two (cs := [5]) (by rfl) (by rfl) ?_
      refine all2 ?_
      refine ⟨?_, ?_⟩
      focus
        refine wpZ_pick (pend' := [1, 5, 6, 7, 8, 9]) (by rfl) (by rfl) ?_
        repeat ((first | refine v_someT 3 tab_ok hN H (by rfl) ctX ?_ | refine v_someT 2 tab_ok hN H (by rfl) ctX ?_ | refine v_someT 1 tab_ok hN H (by rfl) ctX ?_); clear H; intro a w H; replace H := ntf H; simp only [List.drop_succ_cons, List.drop_zero, List.drop_nil])
        refine wpT_nil ?_
        try dsimp only
        refine wpZ_two (cs := [5]) (by rfl) (by rfl) ?_
        refine all2 ?_
        refine ⟨?_, ?_⟩
        focus
          refine wpZ_pick (pend' := [5, 6, 7, 8, 9]) (by rfl) (by rfl) ?_
          repeat ((first | refine v_someT 3 tab_ok hN H (by rfl) ctX ?_ | refine v_someT 2 tab_ok hN H (by rfl) ctX ?_ | refine v_someT 1 tab_ok hN H (by rfl) ctX ?_); clear H; intro a w H; replace H := ntf H; simp only [List.drop_succ_cons, List.drop_zero, List.drop_nil])
          refine wpT_nil ?_
          try dsimp only
          refine wpZ_two (cs := []) (by rfl) (by rfl) ?_
          refine all1 ?_
          refine wpZ_pick (pend' := [6, 7, 8, 9]) (by rfl) (by rfl) ?_
          refine mCallT [] [] (hrt) H ?_; clear H; intro a w H
          refine wpT_nil ?_
          try dsimp only
          refine wpZ_two (cs := []) (by rfl) (by rfl) ?_
          refine all1 ?_
          refine wpZ_pick (pend' := [7, 8, 9]) (by rfl) (by rfl) ?_
          repeat ((first | refine v_someT 3 tab_ok hN H (by rfl) ctX ?_ | refine v_someT 2 tab_ok hN H (by rfl) ctX ?_ | refine v_someT 1 tab_ok hN H (by rfl) ctX ?_); clear H; intro a w H; replace H := ntf H; simp only [List.drop_succ_cons, List.drop_zero, List.drop_nil])
          refine wpT_nil ?_
          try dsimp only
          refine wpZ_two (cs := []) (by rfl) (by rfl) ?_
          refine all1 ?_
          refine wpZ_pick (pend' := [8, 9]) (by rfl) (by rfl) ?_
          repeat ((first | refine v_someT 3 tab_ok hN H (by rfl) ctX ?_ | refine v_someT 2 tab_ok hN H (by rfl) ctX ?_ | refine v_someT 1 tab_ok hN H (by rfl) ctX ?_); clear H; intro a w H; replace H := ntf H; simp only [List.drop_succ_cons, List.drop_zero, List.drop_nil])
          refine wpT_nil ?_
          try dsimp only
          refine wpZ_run 1 (i := 8) (n' := 1) (pend' := [9]) (by rfl) (by rfl) (by rfl) (by rfl) (by rfl) ?_
          repeat ((first | refine v_someT 3 tab_ok hN H (by rfl) ctX ?_ | refine v_someT 2 tab_ok hN H (by rfl) ctX ?_ | refine v_someT 1 tab_ok hN H (by rfl) ctX ?_); clear H; intro a w H; replace H := ntf H; simp only [List.drop_succ_cons, List.drop_zero, List.drop_nil])
          refine wpT_nil ?_
          try dsimp only
          refine wpZ_two (cs := []) (by rfl) (by rfl) ?_
          refine all1 ?_
          refine wpZ_pick (pend' := []) (by rfl) (by rfl) ?_
          repeat ((first | refine v_someT 3 tab_ok hN H (by rfl) ctX ?_ | refine v_someT 2 tab_ok hN H (by rfl) ctX ?_ | refine v_someT 1 tab_ok hN H (by rfl) ctX ?_); clear H; intro a w H; replace H := ntf H; simp only [List.drop_succ_cons, List.drop_zero, List.drop_nil])
          refine wpT_nil ?_
          try dsimp only
          refine wpZ_nil ?_
          replace H := RelT.toRel H
        rotate_left 1
        focus
          refine wpZ_pick (pend' := [1, 6, 7, 8, 9]) (by rfl) (by rfl) ?_
          refine mCallT [] [] (hrt) H ?_; clear H; intro a w H
          refine wpT_nil ?_
          try dsimp only
          refine wpZ_two (cs := [6]) (by rfl) (by rfl) ?_
          refine all2 ?_
          refine ⟨?_, ?_⟩
          focus
            refine wpZ_pick (pend' := [6, 7, 8, 9]) (by rfl) (by rfl) ?_
            repeat ((first | refine v_someT 3 tab_ok hN H (by rfl) ctX ?_ | refine v_someT 2 tab_ok hN H (by rfl) ctX ?_ | refine v_someT 1 tab_ok hN H (by rfl) ctX ?_); clear H; intro a w H; replace H := ntf H; simp only [List.drop_succ_cons, List.drop_zero, List.drop_nil])
            refine wpT_nil ?_
            try dsimp only
            refine wpZ_two (cs := []) (by rfl) (by rfl) ?_
            refine all1 ?_
            refine wpZ_pick (pend' := [7, 8, 9]) (by rfl) (by rfl) ?_
            repeat ((first | refine v_someT 3 tab_ok hN H (by rfl) ctX ?_ | refine v_someT 2 tab_ok hN H (by rfl) ctX ?_ | refine v_someT 1 tab_ok hN H (by rfl) ctX ?_); clear H; intro a w H; replace H := ntf H; simp only [List.drop_succ_cons, List.drop_zero, List.drop_nil])
            refine wpT_nil ?_
            try dsimp only
            refine wpZ_two (cs := []) (by rfl) (by rfl) ?_
            refine all1 ?_
            refine wpZ_pick (pend' := [8, 9]) (by rfl) (by rfl) ?_
            repeat ((first | refine v_someT 3 tab_ok hN H (by rfl) ctX ?_ | refine v_someT 2 tab_ok hN H (by rfl) ctX ?_ | refine v_someT 1 tab_ok hN H (by rfl) ctX ?_); clear H; intro a w H; replace H := ntf H; simp only [List.drop_succ_cons, List.drop_zero, List.drop_nil])
            refine wpT_nil ?_
            try dsimp only
            refine wpZ_run 1 (i := 8) (n' := 1) (pend' := [9]) (by rfl) (by rfl) (by rfl) (by rfl) (by rfl) ?_
            repeat ((first | refine v_someT 3 tab_ok hN H (by rfl) ctX ?_ | refine v_someT 2 tab_ok hN H (by rfl) ctX ?_ | refine v_someT 1 tab_ok hN H (by rfl) ctX ?_); clear H; intro a w H; replace H := ntf H; simp only [List.drop_succ_cons, List.drop_zero, List.drop_nil])
            refine wpT_nil ?_
            try dsimp only
            refine wpZ_two (cs := []) (by rfl) (by rfl) ?_
            refine all1 ?_
            refine wpZ_pick (pend' := []) (by rfl) (by rfl) ?_
            repeat ((first | refine v_someT 3 tab_ok hN H (by rfl) ctX ?_ | refine v_someT 2 tab_ok hN H (by rfl) ctX ?_ | refine v_someT 1 tab_ok hN H (by rfl) ctX ?_); clear H; intro a w H; replace H := ntf H; simp only [List.drop_succ_cons, List.drop_zero, List.drop_nil])
            refine wpT_nil ?_
            try dsimp only
            refine wpZ_nil ?_
            replace H := RelT.toRel H
          rotate_left 1
          focus
            refine wpZ_pick (pend' := [1, 7, 8, 9]) (by rfl) (by rfl) ?_
            repeat ((first | refine v_someT 3 tab_ok hN H (by rfl) ctX ?_ | refine v_someT 2 tab_ok hN H (by rfl) ctX ?_ | refine v_someT 1 tab_ok hN H (by rfl) ctX ?_); clear H; intro a w H; replace H := ntf H; simp only [List.drop_succ_cons, List.drop_zero, List.drop_nil])
            refine wpT_nil ?_
            try dsimp only
            refine wpZ_two (cs := []) (by rfl) (by rfl) ?_
            refine all1 ?_
            refine wpZ_pick (pend' := [7, 8, 9]) (by rfl) (by rfl) ?_
            repeat ((first | refine v_someT 3 tab_ok hN H (by rfl) ctX ?_ | refine v_someT 2 tab_ok hN H (by rfl) ctX ?_ | refine v_someT 1 tab_ok hN H (by rfl) ctX ?_); clear H; intro a w H; replace H := ntf H; simp only [List.drop_succ_cons, List.drop_zero, List.drop_nil])
            refine wpT_nil ?_
            try dsimp only
            refine wpZ_two (cs := []) (by rfl) (by rfl) ?_
            refine all1 ?_
            refine wpZ_pick (pend' := [8, 9]) (by rfl) (by rfl) ?_
            repeat ((first | refine v_someT 3 tab_ok hN H (by rfl) ctX ?_ | refine v_someT 2 tab_ok hN H (by rfl) ctX ?_ | refine v_someT 1 tab_ok hN H (by rfl) ctX ?_); clear H; intro a w H; replace H := ntf H; simp only [List.drop_succ_cons, List.drop_zero, List.drop_nil])
            refine wpT_nil ?_
            try dsimp only
            refine wpZ_run 1 (i := 8) (n' := 1) (pend' := [9]) (by rfl) (by rfl) (by rfl) (by rfl) (by rfl) ?_
            repeat ((first | refine v_someT 3 tab_ok hN H (by rfl) ctX ?_ | refine v_someT 2 tab_ok hN H (by rfl) ctX ?_ | refine v_someT 1 tab_ok hN H (by rfl) ctX ?_); clear H; intro a w H; replace H := ntf H; simp only [List.drop_succ_cons, List.drop_zero, List.drop_nil])
            refine wpT_nil ?_
            try dsimp only
            refine wpZ_two (cs := []) (by rfl) (by rfl) ?_
            refine all1 ?_
            refine wpZ_pick (pend' := []) (by rfl) (by rfl) ?_
            repeat ((first | refine v_someT 3 tab_ok hN H (by rfl) ctX ?_ | refine v_someT 2 tab_ok hN H (by rfl) ctX ?_ | refine v_someT 1 tab_ok hN H (by rfl) ctX ?_); clear H; intro a w H; replace H := ntf H; simp only [List.drop_succ_cons, List.drop_zero, List.drop_nil])
            refine wpT_nil ?_
            try dsimp only
            refine wpZ_nil ?_
            replace H := RelT.toRel H
      rotate_left 3
      focus
        refine wpZ_pick (pend' := [0, 1, 6, 7, 8, 9]) (by rfl) (by rfl) ?_
        refine mCallT [] [] (hrt) H ?_; clear H; intro a w H
        refine wpT_nil ?_
        try dsimp only
        refine wpZ_two (cs := [6]) (by rfl) (by rfl) ?_
        refine all2 ?_
        refine ⟨?_, ?_⟩
        focus
          refine wpZ_pick (pend' := [1, 6, 7, 8, 9]) (by rfl) (by rfl) ?_
          repeat ((first | refine v_someT 3 tab_ok hN H (by rfl) ctX ?_ | refine v_someT 2 tab_ok hN H (by rfl) ctX ?_ | refine v_someT 1 tab_ok hN H (by rfl) ctX ?_); clear H; intro a w H; replace H := ntf H; simp only [List.drop_succ_cons, List.drop_zero, List.drop_nil])
          refine wpT_nil ?_
          try dsimp only
          refine wpZ_two (cs := [6]) (by rfl) (by rfl) ?_
          refine all2 ?_
          refine ⟨?_, ?_⟩
          focus
            refine wpZ_pick (pend' := [6, 7, 8, 9]) (by rfl) (by rfl) ?_
            repeat ((first | refine v_someT 3 tab_ok hN H (by rfl) ctX ?_ | refine v_someT 2 tab_ok hN H (by rfl) ctX ?_ | refine v_someT 1 tab_ok hN H (by rfl) ctX ?_); clear H; intro a w H; replace H := ntf H; simp only [List.drop_succ_cons, List.drop_zero, List.drop_nil])
            refine wpT_nil ?_
            try dsimp only
            refine wpZ_two (cs := []) (by rfl) (by rfl) ?_
            refine all1 ?_
            refine wpZ_pick (pend' := [7, 8, 9]) (by rfl) (by rfl) ?_
            repeat ((first | refine v_someT 3 tab_ok hN H (by rfl) ctX ?_ | refine v_someT 2 tab_ok hN H (by rfl) ctX ?_ | refine v_someT 1 tab_ok hN H (by rfl) ctX ?_); clear H; intro a w H; replace H := ntf H; simp only [List.drop_succ_cons, List.drop_zero, List.drop_nil])
            refine wpT_nil ?_
            try dsimp only
            refine wpZ_two (cs := []) (by rfl) (by rfl) ?_
            refine all1 ?_
            refine wpZ_pick (pend' := [8, 9]) (by rfl) (by rfl) ?_
            repeat ((first | refine v_someT 3 tab_ok hN H (by rfl) ctX ?_ | refine v_someT 2 tab_ok hN H (by rfl) ctX ?_ | refine v_someT 1 tab_ok hN H (by rfl) ctX ?_); clear H; intro a w H; replace H := ntf H; simp only [List.drop_succ_cons, List.drop_zero, List.drop_nil])
            refine wpT_nil ?_
            try dsimp only
            refine wpZ_run 1 (i := 8) (n' := 1) (pend' := [9]) (by rfl) (by rfl) (by rfl) (by rfl) (by rfl) ?_
            repeat ((first | refine v_someT 3 tab_ok hN H (by rfl) ctX ?_ | refine v_someT 2 tab_ok hN H (by rfl) ctX ?_ | refine v_someT 1 tab_ok hN H (by rfl) ctX ?_); clear H; intro a w H; replace H := ntf H; simp only [List.drop_succ_cons, List.drop_zero, List.drop_nil])
            refine wpT_nil ?_
            try dsimp only
            refine wpZ_two (cs := []) (by rfl) (by rfl) ?_
            refine all1 ?_
            refine wpZ_pick (pend' := []) (by rfl) (by rfl) ?_
            repeat ((first | refine v_someT 3 tab_ok hN H (by rfl) ctX ?_ | refine v_someT 2 tab_ok hN H (by rfl) ctX ?_ | refine v_someT 1 tab_ok hN H (by rfl) ctX ?_); clear H; intro a w H; replace H := ntf H; simp only [List.drop_succ_cons, List.drop_zero, List.drop_nil])
            refine wpT_nil ?_
            try dsimp only
            refine wpZ_nil ?_
            replace H := RelT.toRel H
          rotate_left 1
          focus
            refine wpZ_pick (pend' := [1, 7, 8, 9]) (by rfl) (by rfl) ?_
            repeat ((first | refine v_someT 3 tab_ok hN H (by rfl) ctX ?_ | refine v_someT 2 tab_ok hN H (by rfl) ctX ?_ | refine v_someT 1 tab_ok hN H (by rfl) ctX ?_); clear H; intro a w H; replace H := ntf H; simp only [List.drop_succ_cons, List.drop_zero, List.drop_nil])
            refine wpT_nil ?_
            try dsimp only
            refine wpZ_two (cs := []) (by rfl) (by rfl) ?_
            refine all1 ?_
            refine wpZ_pick (pend' := [7, 8, 9]) (by rfl) (by rfl) ?_
            repeat ((first | refine v_someT 3 tab_ok hN H (by rfl) ctX ?_ | refine v_someT 2 tab_ok hN H (by rfl) ctX ?_ | refine v_someT 1 tab_ok hN H (by rfl) ctX ?_); clear H; intro a w H; replace H := ntf H; simp only [List.drop_succ_cons, List.drop_zero, List.drop_nil])
            refine wpT_nil ?_
            try dsimp only
            refine wpZ_two (cs := []) (by rfl) (by rfl) ?_
            refine all1 ?_
            refine wpZ_pick (pend' := [8, 9]) (by rfl) (by rfl) ?_
            repeat ((first | refine v_someT 3 tab_ok hN H (by rfl) ctX ?_ | refine v_someT 2 tab_ok hN H (by rfl) ctX ?_ | refine v_someT 1 tab_ok hN H (by rfl) ctX ?_); clear H; intro a w H; replace H := ntf H; simp only [List.drop_succ_cons, List.drop_zero, List.drop_nil])
            refine wpT_nil ?_
            try dsimp only
            refine wpZ_run 1 (i := 8) (n' := 1) (pend' := [9]) (by rfl) (by rfl) (by rfl) (by rfl) (by rfl) ?_
            repeat ((first | refine v_someT 3 tab_ok hN H (by rfl) ctX ?_ | refine v_someT 2 tab_ok hN H (by rfl) ctX ?_ | refine v_someT 1 tab_ok hN H (by rfl) ctX ?_); clear H; intro a w H; replace H := ntf H; simp only [List.drop_succ_cons, List.drop_zero, List.drop_nil])
            refine wpT_nil ?_
            try dsimp only
            refine wpZ_two (cs := []) (by rfl) (by rfl) ?_
            refine all1 ?_
            refine wpZ_pick (pend' := []) (by rfl) (by rfl) ?_
            repeat ((first | refine v_someT 3 tab_ok hN H (by rfl) ctX ?_ | refine v_someT 2 tab_ok hN H (by rfl) ctX ?_ | refine v_someT 1 tab_ok hN H (by rfl) ctX ?_); clear H; intro a w H; replace H := ntf H; simp only [List.drop_succ_cons, List.drop_zero, List.drop_nil])
            refine wpT_nil ?_
            try dsimp only
            refine wpZ_nil ?_
            replace H := RelT.toRel H
        rotate_left 2
        focus
          refine wpZ_pick (pend' := [0, 1, 7, 8, 9]) (by rfl) (by rfl) ?_
          repeat ((first | refine v_someT 3 tab_ok hN H (by rfl) ctX ?_ | refine v_someT 2 tab_ok hN H (by rfl) ctX ?_ | refine v_someT 1 tab_ok hN H (by rfl) ctX ?_); clear H; intro a w H; replace H := ntf H; simp only [List.drop_succ_cons, List.drop_zero, List.drop_nil])
          refine wpT_nil ?_
          try dsimp only
          refine wpZ_two (cs := []) (by rfl) (by rfl) ?_
          refine all1 ?_
          refine wpZ_pick (pend' := [1, 7, 8, 9]) (by rfl) (by rfl) ?_
          repeat ((first | refine v_someT 3 tab_ok hN H (by rfl) ctX ?_ | refine v_someT 2 tab_ok hN H (by rfl) ctX ?_ | refine v_someT 1 tab_ok hN H (by rfl) ctX ?_); clear H; intro a w H; replace H := ntf H; simp only [List.drop_succ_cons, List.drop_zero, List.drop_nil])
          refine wpT_nil ?_
          try dsimp only
          refine wpZ_two (cs := []) (by rfl) (by rfl) ?_
          refine all1 ?_
          refine wpZ_pick (pend' := [7, 8, 9]) (by rfl) (by rfl) ?_
          repeat ((first | refine v_someT 3 tab_ok hN H (by rfl) ctX ?_ | refine v_someT 2 tab_ok hN H (by rfl) ctX ?_ | refine v_someT 1 tab_ok hN H (by rfl) ctX ?_); clear H; intro a w H; replace H := ntf H; simp only [List.drop_succ_cons, List.drop_zero, List.drop_nil])
          refine wpT_nil ?_
          try dsimp only
          refine wpZ_two (cs := []) (by rfl) (by rfl) ?_
          refine all1 ?_
          refine wpZ_pick (pend' := [8, 9]) (by rfl) (by rfl) ?_
          repeat ((first | refine v_someT 3 tab_ok hN H (by rfl) ctX ?_ | refine v_someT 2 tab_ok hN H (by rfl) ctX ?_ | refine v_someT 1 tab_ok hN H (by rfl) ctX ?_); clear H; intro a w H; replace H := ntf H; simp only [List.drop_succ_cons, List.drop_zero, List.drop_nil])
          refine wpT_nil ?_
          try dsimp only
          refine wpZ_run 1 (i := 8) (n' := 1) (pend' := [9]) (by rfl) (by rfl) (by rfl) (by rfl) (by rfl) ?_
          repeat ((first | refine v_someT 3 tab_ok hN H (by rfl) ctX ?_ | refine v_someT 2 tab_ok hN H (by rfl) ctX ?_ | refine v_someT 1 tab_ok hN H (by rfl) ctX ?_); clear H; intro a w H; replace H := ntf H; simp only [List.drop_succ_cons, List.drop_zero, List.drop_nil])
          refine wpT_nil ?_
          try dsimp only
          refine wpZ_two (cs := []) (by rfl) (by rfl) ?_
          refine all1 ?_
          refine wpZ_pick (pend' := []) (by rfl) (by rfl) ?_
          repeat ((first | refine v_someT 3 tab_ok hN H (by rfl) ctX ?_ | refine v_someT 2 tab_ok hN H (by rfl) ctX ?_ | refine v_someT 1 tab_ok hN H (by rfl) ctX ?_); clear H; intro a w H; replace H := ntf H; simp only [List.drop_succ_cons, List.drop_zero, List.drop_nil])
          refine wpT_nil ?_
          try dsimp only
          refine wpZ_nil ?_
          replace H := RelT.toRel H
      all_goals
        refine mS ?_
        refine mW ?_; clear H; intro a w H
        try rw [← bas_snoc] at H
        exact ⟨(d + 1, o, ss ++ [x]), hnext, by dsimp only; omega, H.to 4 0 ⟨Nat.le_trans hN (by decide), hR⟩ ⟨rfl, rfl, rfl, rfl, rfl, rfl, trivial⟩ (by dsimp only; rw [List.length_append]; rfl) rfl rfl rfl rfl⟩
    · have h2 : s.length < 2 := by rw [decide_eq_false_iff_not] at hb; omega
      clear hb
      have hE := hwy.e
      have hW := hwy.w
      have hsk2 := hwy.k
      have hsv2 := hwy.v
      dsimp only at hE hW hsk2 hsv2
      rw [endA_small _ _ _ _ (by rw [dgs_len]; exact h2)] at hE
      rw [wayA_small _ _ _ _ (by rw [dgs_len]; exact h2), List.append_nil] at hW
      subst hW
      clear hwy
      match s, h2 with
      | [], _ =>
        subst hE
        simp only [List.map_nil] at H
        clear hX; have hX := And.intro @hssl (@hsst)
        refine mW ?_; clear H; intro a w H
        refine mC H (fun hb => ?_) (fun hb => ?_)
        · simp at hb
        · refine mW ?_; clear H; intro a w H
          simp only [endB, dgs, List.map_nil, Nd.zero, Nd.av]
          refine wp_ret ?_; exact mEnd [3] [] [.cell 4 41, .tmp 5] [_, _] hN hR H
      | [x], _ =>
        subst hE
        have q1 := hsk2 x List.mem_cons_self
        have q2 := value_v x.2 (hsv2 x List.mem_cons_self)
        have q3 := valH_len x.2
        obtain ⟨kb, vb⟩ := x
        dsimp only at q1 q2 q3
        simp only [List.map_cons, List.map_nil, prA] at H
        clear hX; have hX := And.intro @hssl (@hsst)
        refine mW ?_; clear H; intro a w H
        refine mC H (fun hb => ?_) (fun hb => ?_)
        · refine mS ?_; refine mD 0 [8, 11] [0, 1, 2, 3] H ?_; clear H; intro gS H
          refine mT ?_; clear H; intro a w H
          refine mCallT [] [] (q2) H ?_; clear H; intro a w H
          refine mT ?_; clear H; intro a w H
          refine v_drawNil H ?_; clear H; intro H
          refine mW ?_; clear H; intro a w H
          simp only [endB, dgs, List.map_nil, List.map_cons, Nd.one, Nd.av]
          refine wp_ret ?_; exact mEnd [3] [] [.cell 4 41, .tmp 5] [_, _] hN hR H
        · simp at hb
end Go.Proofs.Ythphhnkoilcofaa
/- The statements' kit: proofs compared and copied. -/
namespace Go.Proofs.Ythphhnkoilcofaa
open Go Go.RowKit
theorem sameH_v (x y : List (List UInt8)) (hx : ∀ h ∈ x, h.length = 32) (hy : ∀ h ∈ y, h.length = 32) (hl : x.length ≤ 34359730000) : VC Try.prog 106 [.sl (.ba 32) (bas x) none, .sl (.ba 32) (bas y) none] [] (.v (.bool (decide (x = y)))) := by
  have hxl := bas_len x
  have hyl := bas_len y
  refine mE Try.func106 ?_; intro N w0 a w hN hR H
  refine mW ?_; clear H; intro a w H
  refine mC H (fun hb => ?_) (fun hb => ?_)
  · have hne : ¬ x = y := fun e => by rw [hxl, hyl, e] at hb; simp at hb
    rw [decide_eq_false hne]
    refine mW ?_; clear H; intro a w H
    refine wp_ret ?_; exact mEnd [] [] [.tmp 4] [_] hN hR H
  · have hll : x.length = y.length := by rw [hxl, hyl] at hb; simp at hb; omega
    have hX := And.intro @hxl (@hyl)
    refine mW ?_; clear H; intro a w H
    refine v_loop (fun k : Nat => ⟨[(5, none, .v (.int .i64 (k : Int))), (4, none, .v (.bool false)), (0, none, .sl (.ba 32) (bas x) none), (1, none, .sl (.ba 32) (bas y) none)], [], [], []⟩) (fun k => k ≤ x.length ∧ x.take k = y.take k) (fun k => x.length - k) 0 ⟨Nat.zero_le _, rfl⟩ (H.to 0 0 ⟨hN, hR⟩ ⟨rfl, rfl, rfl, rfl, trivial⟩ rfl rfl rfl rfl rfl) ?_
    clear H
    intro k a w hk H
    obtain ⟨hk, hkt⟩ := hk
    refine mW ?_; clear H; intro a w H
    refine mC H (fun hb => ?_) (fun hb => ?_)
    · have hlt : k < x.length := by simpa using hb
      have g1 := bas_get x k hlt
      have g2 := bas_get y k (by omega)
      have l1 := hx _ (List.getElem_mem hlt)
      have l2 := hy _ (List.getElem_mem (show k < y.length by omega))
      clear hX; have hX := And.intro @hxl (And.intro @hyl (And.intro @g1 (@g2)))
      refine mW ?_; clear H; intro a w H
      refine mS ?_; refine mD 0 [] [] H ?_; clear H; intro gS H
      refine mTN 3 hN H ?_; clear H; intro a w H; simp only [List.drop_succ_cons, List.drop_zero, List.drop_nil]
      refine mTN 4 hN H ?_; clear H; intro a w H; simp only [List.drop_succ_cons, List.drop_zero, List.drop_nil]
      refine mT ?_; clear H; intro a w H
      refine v_drawNil H ?_; clear H; intro H
      refine mC H (fun hb => ?_) (fun hb => ?_)
      · have hne : ¬ x = y := fun e => by subst e; simp at hb
        rw [decide_eq_false hne]
        refine mW ?_; clear H; intro a w H
        refine wp_ret ?_; exact mEnd [] [] [.tmp 4] [_] hN hR H
      · have he : x[k] = y[k]'(by omega) := by simpa using hb
        refine mW ?_; clear H; intro a w H
        exact ⟨k + 1, ⟨hlt, by rw [List.take_succ_eq_append_getElem hlt, List.take_succ_eq_append_getElem (show k < y.length by omega), hkt, he]⟩, by omega, H.to 0 0 ⟨hN, hR⟩ ⟨rfl, rfl, rfl, rfl, trivial⟩ rfl rfl rfl rfl rfl⟩
    · have hge : k = x.length := by simp at hb; omega
      subst hge
      have he : x = y := by rw [List.take_length, hll, List.take_length] at hkt; exact hkt
      rw [decide_eq_true he]
      clear hX
      refine mW ?_; clear H; intro a w H
      refine wp_ret ?_; exact mEnd [] [] [.tmp 4] [_] hN hR H
theorem copyH_v (l : List (List UInt8)) (hw : ∀ h ∈ l, h.length = 32) (hl : l.length ≤ 34359730000) : VC Try.prog 107 [.sl (.ba 32) (bas l) none] [(27, l.length)] (.sl (.ba 32) (bas l) (some 0)) := by
  have hbl := bas_len l
  refine mE Try.func107 ?_; intro N w0 a w hN hR H
  have hX := @hbl
  refine mW ?_; clear H; intro a w H
  simp only [List.replicate_zero, List.nil_append, List.length_nil, Nat.zero_add] at H
  refine wp_ret ?_; exact mEnd [] [0] [.tmp 2] [_] hN hR H
theorem sameP_eq (p q : List (List UInt8)) (n m : Nd) : (bif decide ((n.k.toNat : Int) = (m.k.toNat : Int)) && (decide (n.key = m.key) && (decide (n.v = m.v) && (decide (n.l = m.l) && decide (n.r = m.r)))) then decide (p = q) else false) = decide (Pf.mk p n = Pf.mk q m) := by
  obtain ⟨k1, a1, b1, c1, d1⟩ := n
  obtain ⟨k2, a2, b2, c2, d2⟩ := m
  have hk : ((k1.toNat : Int) = (k2.toNat : Int)) ↔ k1 = k2 := ⟨fun h => UInt8.toNat_inj.1 (by omega), fun h => by rw [h]⟩
  dsimp only
  by_cases h : (Pf.mk p ⟨k1, a1, b1, c1, d1⟩ = Pf.mk q ⟨k2, a2, b2, c2, d2⟩)
  · rw [decide_eq_true h]
    simp only [Pf.mk.injEq, Nd.mk.injEq] at h
    obtain ⟨rfl, rfl, rfl, rfl, rfl, rfl⟩ := h
    simp
  · rw [decide_eq_false h]
    rw [Bool.eq_false_iff]
    intro h2
    apply h
    rw [Bool.cond_eq_ite] at h2
    split at h2
    · rename_i h3
      simp only [Bool.and_eq_true, decide_eq_true_eq, hk] at h2 h3
      obtain ⟨rfl, rfl, rfl, rfl, rfl⟩ := h3
      rw [h2]
    · cases h2
set_option maxHeartbeats 1000000 in
theorem sameP_v (p q : Pf) (hp : p.wf) (hq : q.wf) (hl : p.s.length ≤ 34359730000) : VC Try.prog 60 [p.av, q.av] [] (.v (.bool (decide (p = q)))) := by
  have hs := sameH_v p.s q.s hp.s hq.s hl
  obtain ⟨p, n⟩ := p
  obtain ⟨q, m⟩ := q
  dsimp only at hs hl
  obtain ⟨g1, g2, g3, g4⟩ := id hp.e
  obtain ⟨f1, f2, f3, f4⟩ := id hq.e
  dsimp only at g1 g2 g3 g4 f1 f2 f3 f4
  refine mE Try.func60 ?_; intro N w0 a w hN hR H
  simp only [Pf.av, Nd.av] at H
  refine mW ?_; clear H; intro a w H
  refine mCallG [] [] (hs) H ?_; clear H; intro a w H; try refine wpList_nil ?_
  refine mW ?_; clear H; intro a w H
  rw [← sameP_eq] 
  refine wp_ret ?_; exact mEnd [] [] [.tmp 4] [_] hN hR H
end Go.Proofs.Ythphhnkoilcofaa
/- A contract that says less: rows that nobody will make longer. -/
namespace Go.Proofs.Ythphhnkoilcofaa
open Go Go.RowKit
theorem VC.less1 {P : Program} {f : FuncId} {args : List AV} {rws : List (TypeId × Nat)} {r r' : AV} (h : VC P f args rws r) (ha : isAny r = false) (ht : ∀ az, r ≠ .tup az) (hs : sub 4 r r') (hl : low 0 0 4 r' = true) : VC P f args [] r' := by
  refine ⟨h.1, fun w N vs HI h1 h2 => (h.2 w N vs HI h1 h2).mono ?_⟩
  rintro e w' ⟨g, v, he, HI', hv⟩
  have hnb : N.bx.length ≤ 0 := by rw [HI.br.len]; exact Nat.le_refl _
  have hnr : N.rw.length ≤ 0 := by have := congrArg List.length HI.wr; rw [List.length_map] at this; rw [this]; exact Nat.le_refl _
  refine ⟨g.cut 0 0, v, he, Inv.cut (st := ⟨[], [], [], rws⟩) HI' hnb hnr rfl, ?_⟩
  have h1 : RV1 g r v := hv.rv1 ha ht
  exact RV.low_ (d := 3) ((h1.sub_ hs).rv) hl
theorem VC.lessT {P : Program} {f : FuncId} {args : List AV} {rws : List (TypeId × Nat)} {az az' : List AV} (h : VC P f args rws (.tup az)) (hs : allP (sub 4) az az') (hl : az'.all (low 0 0 3) = true) : VC P f args [] (.tup az') := by
  refine ⟨h.1, fun w N vs HI h1 h2 => (h.2 w N vs HI h1 h2).mono ?_⟩
  rintro e w' ⟨g, v, he, HI', hv⟩
  have hnb : N.bx.length ≤ 0 := by rw [HI.br.len]; exact Nat.le_refl _
  have hnr : N.rw.length ≤ 0 := by have := congrArg List.length HI.wr; rw [List.length_map] at this; rw [this]; exact Nat.le_refl _
  refine ⟨g.cut 0 0, v, he, Inv.cut (st := ⟨[], [], [], rws⟩) HI' hnb hnr rfl, ?_⟩
  refine RV.low_ (d := 3) (a := .tup az') ?_ (by simpa only [low] using hl)
  obtain ⟨us, e1, e2, e3⟩ := hv
  have key : ∀ (az az' : List AV), allP (sub 4) az az' → az.length = az'.length ∧ ∀ (i : Nat) b, az'[i]? = some b → ∃ a, az[i]? = some a ∧ sub 4 a b := by
    intro az
    induction az with
    | nil => intro az' h; cases az' with
      | nil => exact ⟨rfl, fun i b hb => by simp at hb⟩
      | cons _ _ => exact h.elim
    | cons a az ih => intro az' h; cases az' with
      | nil => exact h.elim
      | cons b az' =>
        obtain ⟨h1, h2⟩ := h
        obtain ⟨k1, k2⟩ := ih az' h2
        refine ⟨by simp [k1], fun i c hc => ?_⟩
        cases i with
        | zero => simp at hc; subst hc; exact ⟨a, rfl, h1⟩
        | succ i => simp at hc; obtain ⟨x, q1, q2⟩ := k2 i c hc; exact ⟨x, by simpa using q1, q2⟩
  obtain ⟨k1, k2⟩ := key az az' hs
  refine ⟨us, e1, e2.trans k1, fun i b u hb hu => ?_⟩
  obtain ⟨x, q1, q2⟩ := k2 i b hb
  exact (e3 i x u q1 hu).sub_ q2
end Go.Proofs.Ythphhnkoilcofaa
/- node.Up of any proof; copies of proofs. -/
namespace Go.Proofs.Ythphhnkoilcofaa
open Go Go.RowKit
def topX (key : List UInt8) (p : Pf) : List UInt8 := if p.chk = 0 then topH key p else z32
theorem topX_len (key : List UInt8) (p : Pf) : (topX key p).length = 32 := by unfold topX; split; exact topH_len _ _; exact z32_len
theorem chk_cases (p : Pf) : (256 < p.s.length ∧ p.chk = 4) ∨ (p.s.length ≤ 256 ∧ p.e.ok ∧ p.e.k ≠ 2 ∧ p.chk = 0) ∨ (p.s.length ≤ 256 ∧ p.e.ok ∧ p.e.k = 2 ∧ p.chk = 2) ∨ (p.s.length ≤ 256 ∧ ¬ p.e.ok ∧ p.chk = 2) := by
  unfold Pf.chk
  by_cases h1 : 256 < p.s.length
  · left; rw [if_pos h1]; exact ⟨h1, rfl⟩
  · right
    rw [if_neg h1]
    by_cases h2 : p.e.ok
    · by_cases h3 : p.e.k = 2
      · right; left; rw [if_neg (fun h => h.2 h3)]; exact ⟨by omega, h2, h3, rfl⟩
      · left; rw [if_pos ⟨h2, h3⟩]; exact ⟨by omega, h2, h3, rfl⟩
    · right; right; rw [if_neg (fun h => h2 h.1)]; exact ⟨by omega, h2, rfl⟩
set_option maxRecDepth 20000 in
theorem upX_v (key : List UInt8) (hk32 : key.length = 32) (p : Pf) (hw : p.wf) (hl : p.s.length ≤ 34359730000) : VC Try.prog 15 [.ba key, p.av] [] (.tup [.ba (topX key p), errv p.chk]) := by
  rcases chk_cases p with ⟨h1, h2⟩ | ⟨h1, h3, h4, h2⟩ | ⟨h1, h3, h4, h2⟩ | ⟨h1, h3, h2⟩
  · rw [topX, if_neg (by rw [h2]; decide), h2]
    obtain ⟨s, n⟩ := p
    obtain ⟨g1, g2, g3, g4⟩ := id hw.e
    dsimp only at h1 g1 g2 g3 g4 hl
    have hsl := bas_len s
    refine mE Try.func15 ?_; intro N w0 a w hN hR H
    simp only [Pf.av, Nd.av] at H
    have hX := @hsl
    refine mW ?_; clear H; intro a w H
    refine mC H (fun hb => ?_) (fun hb => ?_)
    · refine mW ?_; clear H; intro a w H
      try simp only [hz] at H
      refine wp_ret ?_; exact mEnd [] [] [.cell 4 27, .tmp 5] [_, _] hN hR H
    · exfalso; rw [decide_eq_false_iff_not] at hb; omega
  · rw [topX, if_pos h2, h2]; exact up_v key hk32 p hw h2
  · rw [topX, if_neg (by rw [h2]; decide), h2]
    obtain ⟨s, n⟩ := p
    have hdg := digest_ok n hw.e h3
    obtain ⟨g1, g2, g3, g4⟩ := id hw.e
    dsimp only at h1 h4 g1 g2 g3 g4 hl
    have hsl := bas_len s
    have hd2 : decide ((n.k.toNat : Int) = 2) = true := decide_eq_true (by rw [h4]; rfl)
    have hsum := sum_length n.text
    generalize sum n.text = h0 at *
    refine mE Try.func15 ?_; intro N w0 a w hN hR H
    simp only [Pf.av, Nd.av] at H hdg
    have hX := @hsl
    refine mW ?_; clear H; intro a w H
    refine mC H (fun hb => ?_) (fun hb => ?_)
    · exfalso; rw [decide_eq_true_eq] at hb; omega
    · refine mW ?_; clear H; intro a w H
      refine mCall [] [] (hdg) H ?_; clear H; intro a w H; try refine wpList_nil ?_
      refine mW ?_; clear H; intro a w H
      refine mC H (fun hb => ?_) (fun hb => ?_)
      · refine mW ?_; clear H; intro a w H
        try simp only [hz] at H
        refine wp_ret ?_; exact mEnd [] [] [.cell 4 27, .tmp 5] [_, _] hN hR H
      · exfalso; simp only [hd2] at hb; simp at hb
  · rw [topX, if_neg (by rw [h2]; decide), h2]
    obtain ⟨s, n⟩ := p
    have hdg := digest_bad n hw.e h3
    obtain ⟨g1, g2, g3, g4⟩ := id hw.e
    dsimp only at h1 g1 g2 g3 g4 hl
    have hsl := bas_len s
    have hz2 := z32_len
    refine mE Try.func15 ?_; intro N w0 a w hN hR H
    simp only [Pf.av, Nd.av] at H hdg
    have hX := @hsl
    refine mW ?_; clear H; intro a w H
    refine mC H (fun hb => ?_) (fun hb => ?_)
    · exfalso; rw [decide_eq_true_eq] at hb; omega
    · refine mW ?_; clear H; intro a w H
      refine mCall [] [] (hdg) H ?_; clear H; intro a w H; try refine wpList_nil ?_
      refine mW ?_; clear H; intro a w H
      refine mC H (fun hb => ?_) (fun hb => ?_)
      · refine mW ?_; clear H; intro a w H
        try simp only [hz] at H
        refine wp_ret ?_; exact mEnd [] [] [.cell 4 27, .tmp 5] [_, _] hN hR H
      · exfalso; simp at hb
set_option maxRecDepth 20000 in
theorem upXR_v (key : List UInt8) (hk32 : key.length = 32) (p : Pf) (hw : p.wf) (hl : p.s.length ≤ 34359730000) : VC Try.prog 62 [.ba key, p.av] [] (.tup [.ba (topX key p), errv p.chk]) := by
  rcases chk_cases p with ⟨h1, h2⟩ | ⟨h1, h3, h4, h2⟩ | ⟨h1, h3, h4, h2⟩ | ⟨h1, h3, h2⟩
  · rw [topX, if_neg (by rw [h2]; decide), h2]
    obtain ⟨s, n⟩ := p
    obtain ⟨g1, g2, g3, g4⟩ := id hw.e
    dsimp only at h1 g1 g2 g3 g4 hl
    have hsl := bas_len s
    refine mE Try.func62 ?_; intro N w0 a w hN hR H
    simp only [Pf.av, Nd.av] at H
    have hX := @hsl
    refine mW ?_; clear H; intro a w H
    refine mC H (fun hb => ?_) (fun hb => ?_)
    · refine mW ?_; clear H; intro a w H
      try simp only [hz] at H
      refine wp_ret ?_; exact mEnd [] [] [.cell 4 27, .tmp 5] [_, _] hN hR H
    · exfalso; rw [decide_eq_false_iff_not] at hb; omega
  · rw [topX, if_pos h2, h2]; exact upR_v key hk32 p hw h2
  · rw [topX, if_neg (by rw [h2]; decide), h2]
    obtain ⟨s, n⟩ := p
    have hck := checkR_v n hw.e
    rw [if_pos h3] at hck
    obtain ⟨g1, g2, g3, g4⟩ := id hw.e
    dsimp only at h1 h4 g1 g2 g3 g4 hl
    have hsl := bas_len s
    have hd2 : decide ((n.k.toNat : Int) = 2) = true := decide_eq_true (by rw [h4]; rfl)
    refine mE Try.func62 ?_; intro N w0 a w hN hR H
    simp only [Pf.av, Nd.av] at H hck
    have hX := @hsl
    refine mW ?_; clear H; intro a w H
    refine mC H (fun hb => ?_) (fun hb => ?_)
    · exfalso; rw [decide_eq_true_eq] at hb; omega
    · refine mW ?_; clear H; intro a w H
      refine mCall [] [] (hck) H ?_; clear H; intro a w H; try refine wpList_nil ?_
      refine mW ?_; clear H; intro a w H
      refine mC H (fun hb => ?_) (fun hb => ?_)
      · refine mW ?_; clear H; intro a w H
        try simp only [hz] at H
        refine wp_ret ?_; exact mEnd [] [] [.cell 4 27, .tmp 5] [_, _] hN hR H
      · exfalso; simp only [hd2] at hb; simp at hb
  · rw [topX, if_neg (by rw [h2]; decide), h2]
    obtain ⟨s, n⟩ := p
    have hck := checkR_v n hw.e
    rw [if_neg h3] at hck
    obtain ⟨g1, g2, g3, g4⟩ := id hw.e
    dsimp only at h1 g1 g2 g3 g4 hl
    have hsl := bas_len s
    refine mE Try.func62 ?_; intro N w0 a w hN hR H
    simp only [Pf.av, Nd.av] at H hck
    have hX := @hsl
    refine mW ?_; clear H; intro a w H
    refine mC H (fun hb => ?_) (fun hb => ?_)
    · exfalso; rw [decide_eq_true_eq] at hb; omega
    · refine mW ?_; clear H; intro a w H
      refine mCall [] [] (hck) H ?_; clear H; intro a w H; try refine wpList_nil ?_
      refine mW ?_; clear H; intro a w H
      refine mC H (fun hb => ?_) (fun hb => ?_)
      · refine mW ?_; clear H; intro a w H
        try simp only [hz] at H
        refine wp_ret ?_; exact mEnd [] [] [.cell 4 27, .tmp 5] [_, _] hN hR H
      · exfalso; simp at hb
theorem copyH0_v (l : List (List UInt8)) (hw : ∀ h ∈ l, h.length = 32) (hl : l.length ≤ 34359730000) : VC Try.prog 107 [.sl (.ba 32) (bas l) none] [] (.sl (.ba 32) (bas l) none) :=
  (copyH_v l hw hl).less1 rfl (fun az h => by cases h) ⟨rfl, rfl⟩ rfl
set_option maxRecDepth 20000 in
theorem copyPf_v (p : Pf) (hw : p.wf) (hl : p.s.length ≤ 34359730000) : VC Try.prog 61 [p.av] [] p.av := by
  have hc := copyH0_v p.s hw.s hl
  obtain ⟨g1, g2, g3, g4⟩ := id hw.e
  obtain ⟨s, n⟩ := p
  dsimp only at hc g1 g2 g3 g4
  refine mE Try.func61 ?_; intro N w0 a w hN hR H
  simp only [Pf.av, Nd.av] at H ⊢
  refine mW ?_; clear H; intro a w H
  replace H := v_ref H 1 0 (Nat.le_trans hN (by decide)) rfl rfl rfl
  simp only [nilT, strip, List.map_cons, List.map_nil, reduceIte, Nat.reduceEqDiff] at H
  refine mS ?_; refine mD 0 [2, 6] [3, 4] H ?_; clear H; intro gS H; refine mT ?_; clear H; intro a w H
  refine mCallT [] [] (hc) H ?_; clear H; intro a w H
  refine mT ?_; clear H; intro a w H
  refine v_drawNil H ?_; clear H; intro H
  refine wp_ret ?_; exact mEnd [] [] [.cell 2 41] [_] hN hR H
end Go.Proofs.Ythphhnkoilcofaa
/- The document's entries: side, At. -/
namespace Go.Proofs.Ythphhnkoilcofaa
open Go Go.RowKit
def halfP (b : Bool) (d : Nat) (l : List Pr) : List Pr := l.filter fun x => bitN x.1 d == b
theorem halfP_dgs (b : Bool) (d : Nat) (l : List Pr) : dgs (halfP b d l) = half b d (dgs l) := by
  unfold dgs halfP half
  rw [List.filter_map]; rfl
theorem halfP_le (b : Bool) (d : Nat) (l : List Pr) : (halfP b d l).length ≤ l.length := List.length_filter_le _ _
theorem halfP_yes (b : Bool) (d : Nat) (l : List Pr) (k : Nat) (hk : k < l.length) (h : bitN l[k].1 d = b) : halfP b d (l.take (k + 1)) = halfP b d (l.take k) ++ [l[k]] := by
  unfold halfP; rw [List.take_succ_eq_append_getElem hk, List.filter_append]; congr 1; simp [List.filter_cons, h]
theorem halfP_no (b : Bool) (d : Nat) (l : List Pr) (k : Nat) (hk : k < l.length) (h : bitN l[k].1 d = !b) : halfP b d (l.take (k + 1)) = halfP b d (l.take k) := by
  unfold halfP; rw [List.take_succ_eq_append_getElem hk, List.filter_append]; simp [List.filter_cons, h]
theorem rootA_perm : ∀ (f d : Nat) (l m : List En), f + d = 256 → Sep d l → l.Perm m → rootA f d l = rootA f d m := by
  have small : ∀ (l m : List En), l.length < 2 → l.Perm m → l = m := fun l m hl hp => by
    match l, hl with
    | [], _ => exact (List.nil_perm.1 hp).symm
    | [x], _ => exact (List.singleton_perm.1 hp)
  intro f
  induction f with
  | zero => intro d l m hd hs hp; rw [small l m (hs.deep (by omega)) hp]
  | succ f ih =>
    intro d l m hd hs hp
    by_cases h : l.length < 2
    · rw [small l m h hp]
    · rw [rootA, rootA, if_neg h, if_neg (by rw [← hp.length_eq]; exact h), ih (d + 1) _ _ (by omega) (hs.side false) (hp.filter _), ih (d + 1) _ _ (by omega) (hs.side true) (hp.filter _)]
      rfl
theorem prs_app (l : List Pr) (x : Pr) : (l ++ [x]).map prA = l.map prA ++ [.st [.ba x.1, .bs x.2 none]] := by simp [prA]
set_option maxRecDepth 20000 in
set_option maxHeartbeats 1000000 in
theorem sideR_v (l : List Pr) (hw : K32 l) (b : Bool) (c : Int) (hc : c = if b then 1 else 0) (d : Nat) (hd : d < 256) (hl : l.length ≤ 34359730000) : VC Try.prog 104 [.sl prT (l.map prA) none, .v (.int .i64 (d : Int)), .v (.int .i64 c)] [] (.sl prT ((halfP b d l).map prA) none) := by
  have hxl : (l.map prA).length = l.length := List.length_map ..
  refine mE Try.func104 ?_; intro N w0 a w hN hR H
  refine mW ?_; clear H; intro a w H
  have H := v_nilE tab_ok H 7 62 (j := ti62) prT rfl (by decide) (by rfl)
  refine v_loop (fun k : Nat => ⟨[(8, none, .v (.int .i64 (k : Int))), (7, none, .sl prT ((halfP b d (l.take k)).map prA) (some 0)), (0, none, .sl prT (l.map prA) none), (1, none, .v (.int .i64 (d : Int))), (2, none, .v (.int .i64 c))], [], [], [(62, (halfP b d (l.take k)).length)]⟩) (fun k => k ≤ l.length) (fun k => l.length - k) 0 (Nat.zero_le _) (H.to 0 1 ⟨Nat.le_trans hN (by decide), Nat.le_trans hR (by decide)⟩ ⟨rfl, rfl, rfl, rfl, rfl, trivial⟩ rfl rfl rfl rfl rfl) ?_
  clear H
  intro k a w hk H
  have hh1 : (halfP b d (l.take k)).length ≤ l.length := Nat.le_trans (halfP_le _ _ _) (List.length_take_le' _ _)
  have hx1 : ((halfP b d (l.take k)).map prA).length = (halfP b d (l.take k)).length := List.length_map ..
  have hX := @hxl
  refine mW ?_; clear H; intro a w H
  refine mC H (fun hb => ?_) (fun hb => ?_)
  · have hlt : k < l.length := by rw [decide_eq_true_eq] at hb; omega
    clear hb
    have g1 := prA_get l k hlt
    have w1 := hw _ (List.getElem_mem hlt)
    have hbit := bitR_v l[k].1 w1 (d : Int)
    have hpb : pbit l[k].1 (d : Int) = if bitN l[k].1 d then 1 else 0 := by unfold pbit; rw [if_pos (by omega), Int.toNat_natCast]
    have q1 := halfP_yes b d l k hlt
    have q2 := halfP_no b d l k hlt
    have q3 := prs_app (halfP b d (l.take k)) l[k]
    generalize l[k] = p at *
    obtain ⟨kb, vb⟩ := p
    dsimp only at g1 w1 hbit hpb q1 q2 q3
    refine mS ?_
    clear hX; have hX := And.intro @hxl (And.intro @hx1 (@g1))
    have hY := @w1
    (try refine wp_region_lit ?_); refine mN 3 hN H ?_; clear H; intro a w H
    refine mW ?_; clear H; intro a w H
    refine mCall [] [] (hbit) H ?_; clear H; intro a w H; try refine wpList_nil ?_
    refine mW ?_; clear H; intro a w H
    cases hbb : bitN kb d == b with
    | true =>
      have hbe : bitN kb d = b := by simpa using hbb
      have q1 := q1 hbe
      have he : decide (pbit kb (d : Int) = c) = true := by rw [hpb, hc, hbe]; simp
      simp only [he] at H
      refine mC H (fun hb => ?_) (fun hb => ?_)
      · refine mS ?_
        (try refine wp_region_lit ?_); refine mN 4 hN H ?_; clear H; intro a w H
        refine mW ?_; clear H; intro a w H
        exact ⟨k + 1, hlt, by omega, H.to 0 1 ⟨Nat.le_trans hN (by decide), Nat.le_trans hR (by decide)⟩ ⟨rfl, by rw [q1, q3]; rfl, rfl, rfl, rfl, trivial⟩ rfl (by rw [q1, List.length_append]; rfl) rfl rfl rfl⟩
      · cases hb
    | false =>
      have hbe : bitN kb d = !b := by
        cases h1 : bitN kb d <;> cases h2 : b <;> rw [h1, h2] at hbb <;> first | rfl | cases hbb
      have q2 := q2 hbe
      have he : decide (pbit kb (d : Int) = c) = false := by rw [hpb, hc, hbe]; cases b <;> simp
      simp only [he] at H
      refine mC H (fun hb => ?_) (fun hb => ?_)
      · cases hb
      · refine mW ?_; clear H; intro a w H
        exact ⟨k + 1, hlt, by omega, H.to 0 1 ⟨Nat.le_trans hN (by decide), Nat.le_trans hR (by decide)⟩ ⟨rfl, by rw [q2]; rfl, rfl, rfl, rfl, trivial⟩ rfl (by rw [q2]; rfl) rfl rfl rfl⟩
  · have hge : k = l.length := by rw [decide_eq_false_iff_not] at hb; omega
    subst hge
    rw [List.take_length] at H
    clear hX
    refine mW ?_; clear H; intro a w H
    refine wp_ret ?_; exact mEnd [] [] [.tmp 6] [_] hN hR H
theorem K32.half {l : List Pr} (h : K32 l) (b : Bool) (d : Nat) : K32 (halfP b d l) := fun x hx => h x (List.mem_filter.1 hx).1
theorem V0.half {l : List Pr} (h : V0 l) (b : Bool) (d : Nat) : V0 (halfP b d l) := fun x hx => h x (List.mem_filter.1 hx).1
set_option maxRecDepth 20000 in
theorem atP_small (f d : Nat) (l : List Pr) (hs : l.length < 2) (hw : K32 l) (hv : V0 l) : VC Try.prog 87 [.sl prT (l.map prA) none, .v (.int .i64 (d : Int))] [] (.ba (rootA f d (dgs l))) := by
  rw [rootA_small f d _ (by rw [dgs_len]; exact hs)]
  match l, hs with
  | [], _ =>
    have hsl := sum_length [0]
    refine mE Try.func87 ?_; intro N w0 a w hN hR H
    simp only [List.map_nil] at H
    refine mW ?_; clear H; intro a w H
    refine mC H (fun hb => ?_) (fun hb => ?_)
    · refine mW ?_; clear H; intro a w H
      refine mCall [] [] (emptyR_v) H ?_; clear H; intro a w H; try refine wpList_nil ?_
      refine mW ?_; clear H; intro a w H
      refine wp_ret ?_; exact mEnd [] [] [.cell 4 26] [_] hN hR H
    · simp at hb
  | [x], _ =>
    have h1 := hw x List.mem_cons_self
    have h2 := valueR_v x.2 (hv x List.mem_cons_self)
    have h3 := valH_len x.2
    have hlf := leafHR_v x.1 (valH x.2) h1 h3
    have hsl := leafH_len x.1 (valH x.2)
    obtain ⟨kb, vb⟩ := x
    dsimp only at h1 h2 h3 hlf hsl
    refine mE Try.func87 ?_; intro N w0 a w hN hR H
    simp only [List.map_cons, List.map_nil, prA] at H
    refine mW ?_; clear H; intro a w H
    refine mC H (fun hb => ?_) (fun hb => ?_)
    · simp at hb
    · refine mW ?_; clear H; intro a w H
      refine mC H (fun hb => ?_) (fun hb => ?_)
      · refine mW ?_; clear H; intro a w H
        refine mS ?_; refine mD 0 [8, 9, 10] [0, 1, 2, 3] H ?_; clear H; intro gS H; refine mT ?_; clear H; intro a w H
        refine mCallT [] [] (h2) H ?_; clear H; intro a w H
        refine mT ?_; clear H; intro a w H
        refine mCallT [] [] (hlf) H ?_; clear H; intro a w H
        refine mT ?_; clear H; intro a w H
        refine v_drawNil H ?_; clear H; intro H
        refine wp_ret ?_; exact mEnd [] [] [.cell 4 26] [_] hN hR H
      · simp at hb
set_option maxRecDepth 20000 in
set_option maxHeartbeats 1000000 in
theorem atP_v : ∀ (f d : Nat) (l : List Pr), f + d = 256 → Sep d (dgs l) → K32 l → V0 l → l.length ≤ 34359730000 →
    VC Try.prog 87 [.sl prT (l.map prA) none, .v (.int .i64 (d : Int))] [] (.ba (rootA f d (dgs l))) := by
  intro f
  induction f with
  | zero =>
    intro d l hd hr hw hv hl
    exact atP_small 0 d l (by have := hr.deep (by omega); rwa [dgs_len] at this) hw hv
  | succ f ih =>
    intro d l hd hr hw hv hl
    by_cases hs : l.length < 2
    · exact atP_small _ d l hs hw hv
    · rw [rootA, if_neg (by rw [dgs_len]; exact hs)]
      have hxl : (l.map prA).length = l.length := List.length_map ..
      have s0 := sideR_v l hw false 0 rfl d (by omega) hl
      have s1 := sideR_v l hw true 1 rfl d (by omega) hl
      have r0 := hr.side false
      have r1 := hr.side true
      rw [← halfP_dgs] at r0 r1
      rw [← halfP_dgs, ← halfP_dgs]
      have c1 := ih (d + 1) (halfP false d l) (by omega) r0 (hw.half _ _) (hv.half _ _) (Nat.le_trans (halfP_le _ _ _) hl)
      have c2 := ih (d + 1) (halfP true d l) (by omega) r1 (hw.half _ _) (hv.half _ _) (Nat.le_trans (halfP_le _ _ _) hl)
      have e1 := rootA_len f (d + 1) (dgs (halfP false d l))
      have e2 := rootA_len f (d + 1) (dgs (halfP true d l))
      generalize rootA f (d + 1) (dgs (halfP false d l)) = a1 at *
      generalize rootA f (d + 1) (dgs (halfP true d l)) = a2 at *
      have hin := innerHR_v a1 a2 e1 e2
      have hsl := innerH_len a1 a2
      clear ih r0 r1
      generalize halfP false d l = l0 at *
      generalize halfP true d l = l1 at *
      refine mE Try.func87 ?_; intro N w0 a w hN hR H
      have hX := @hxl
      refine mW ?_; clear H; intro a w H
      refine mC H (fun hb => ?_) (fun hb => ?_)
      · exfalso; rw [decide_eq_true_eq] at hb; omega
      · refine mW ?_; clear H; intro a w H
        refine mC H (fun hb => ?_) (fun hb => ?_)
        · exfalso; rw [decide_eq_true_eq] at hb; omega
        · refine mW ?_; clear H; intro a w H
          refine mCall [] [] (s0) H ?_; clear H; intro a w H; try refine wpList_nil ?_
          refine mW ?_; clear H; intro a w H
          refine mCall [] [] (c1) H ?_; clear H; intro a w H; try refine wpList_nil ?_
          refine mW ?_; clear H; intro a w H
          refine mCall [] [] (s1) H ?_; clear H; intro a w H; try refine wpList_nil ?_
          refine mW ?_; clear H; intro a w H
          refine mCall [] [] (c2) H ?_; clear H; intro a w H; try refine wpList_nil ?_
          refine mW ?_; clear H; intro a w H
          refine mCall [] [] (hin) H ?_; clear H; intro a w H; try refine wpList_nil ?_
          refine mW ?_; clear H; intro a w H
          refine wp_ret ?_; exact mEnd [] [] [.cell 4 26] [_] hN hR H
end Go.Proofs.Ythphhnkoilcofaa
/- The document's List, RootAt, Root: any entries. -/
namespace Go.Proofs.Ythphhnkoilcofaa
open Go Go.RowKit
set_option maxRecDepth 20000 in
set_option maxHeartbeats 1000000 in
theorem listR_v (l : List Pr) (hk : K32 l) (hl : l.length ≤ 34359730000) : VC Try.prog 86 [.sl prT (l.map prA) none] [] (.v (.int .i64 (errP l : Int))) := by
  have hlm : (l.map prA).length = l.length := List.length_map ..
  refine mE Try.func86 ?_; intro N w0 a w hN hR H
  have hX := @hlm
  refine mW ?_; clear H; intro a w H
  refine mC H (fun hb => ?_) (fun hb => ?_)
  · have he : errP l = 4 := by unfold errP; rw [if_pos (by simp at hb; omega)]
    rw [he]
    refine mW ?_; clear H; intro a w H
    refine wp_ret ?_; exact mEnd [] [] [.tmp 2] [_] hN hR H
  · have hle : l.length ≤ 4096 := by simp at hb; omega
    have he : errP l = chkP [] l := by unfold errP; rw [if_neg (by omega)]
    clear hb
    replace H := mK [0, 2] 0 0 hN hR H
    refine mW ?_; clear H; intro a w H
    refine v_loop (fun k : Nat => ⟨[(3, none, .v (.int .i64 (k : Int))), (2, none, .v (.int .i64 0)), (0, none, .sl prT (l.map prA) none)], [], [], []⟩) (fun k => k ≤ l.length ∧ chkP (keysP (l.take k)) (l.drop k) = chkP [] l) (fun k => l.length - k) 0 ⟨Nat.zero_le _, rfl⟩ (H.to 0 0 ⟨hN, hR⟩ ⟨rfl, rfl, rfl, trivial⟩ rfl rfl rfl rfl rfl) ?_
    clear H
    rintro k a w ⟨hk1, hk2⟩ H
    refine mW ?_; clear H; intro a w H
    refine mC H (fun hb => ?_) (fun hb => ?_)
    · have hlt : k < l.length := by simpa using hb
      clear hb
      have hg := prA_get l k hlt
      have hp32 := hk _ (List.getElem_mem hlt)
      have hstep := chkP_cons (keysP (l.take k)) l k hlt
      rw [hk2] at hstep
      have htk : keysP (l.take (k + 1)) = keysP (l.take k) ++ [l[k].1] := by unfold keysP; rw [List.take_succ_eq_append_getElem hlt, List.map_append]; rfl
      obtain ⟨p, hpp⟩ : ∃ p, p = l[k] := ⟨_, rfl⟩
      rw [← hpp] at hg hp32 hstep htk
      obtain ⟨kb, vb⟩ := p
      dsimp only at hg hp32 hstep htk
      refine mS ?_
      clear hX; have hX := And.intro @hlm (@hg)
      (try refine wp_region_lit ?_); refine mN 3 hN H ?_; clear H; intro a w H
      refine mW ?_; clear H; intro a w H
      refine mC H (fun hb => ?_) (fun hb => ?_)
      · have hv : 1024 < vb.length := by simp at hb; omega
        have he4 : errP l = 4 := by rw [he, hstep, if_pos hv]
        rw [he4]
        refine mW ?_; clear H; intro a w H
        refine wp_ret ?_; exact mEnd [] [] [.tmp 2] [_] hN hR H
      · have hv : ¬ 1024 < vb.length := by simp at hb; omega
        clear hb
        rw [if_neg hv] at hstep
        replace H := mK [0, 2, 3] 0 0 hN hR H
        refine mW ?_; clear H; intro a w H
        refine v_loop (fun j : Nat => ⟨[(4, none, .v (.int .i64 (j : Int))), (3, none, .v (.int .i64 (k : Int))), (2, none, .v (.int .i64 0)), (0, none, .sl prT (l.map prA) none)], [], [], []⟩) (fun j => j ≤ k ∧ kb ∉ keysP (l.take j)) (fun j => k - j) 0 ⟨Nat.zero_le _, by simp [keysP]⟩ (H.to 0 0 ⟨hN, hR⟩ ⟨rfl, rfl, rfl, rfl, trivial⟩ rfl rfl rfl rfl rfl) ?_
        clear H
        rintro j a w ⟨hj1, hj2⟩ H
        refine mW ?_; clear H; intro a w H
        refine mC H (fun hb => ?_) (fun hb => ?_)
        · have hjt : j < k := by simpa using hb
          clear hb
          have hjl : j < l.length := by omega
          have hgj := prA_get l j hjl
          have htj : keysP (l.take (j + 1)) = keysP (l.take j) ++ [l[j].1] := by unfold keysP; rw [List.take_succ_eq_append_getElem hjl, List.map_append]; rfl
          have hmj : l[j].1 ∈ keysP (l.take k) := by
            unfold keysP
            exact List.mem_map.2 ⟨l[j], List.mem_take_iff_getElem.2 ⟨j, by omega, rfl⟩, rfl⟩
          have hj32 := hk _ (List.getElem_mem hjl)
          generalize l[j] = q at *
          obtain ⟨kj, vj⟩ := q
          dsimp only at hgj htj hmj hj32
          have hee : (kj = kb) = (kj = kb) := rfl
          clear hX; have hX := And.intro @hlm (And.intro @hg (@hgj))
          have hY := And.intro @hp32 (@hj32)
          refine mS ?_; refine mD 0 [] [] H ?_; clear H; intro gS H
          refine mTN 3 hN H ?_; clear H; intro a w H; simp only [List.drop_succ_cons, List.drop_zero, List.drop_nil]
          refine mTN 5 hN H ?_; clear H; intro a w H; simp only [List.drop_succ_cons, List.drop_zero, List.drop_nil]
          refine mT ?_; clear H; intro a w H
          refine v_drawNil H ?_; clear H; intro H
          refine mC H (fun hb => ?_) (fun hb => ?_)
          · have hkk : kj = kb := by simpa using hb
            have he6 : errP l = 6 := by rw [he, hstep, if_pos (hkk ▸ hmj)]
            rw [he6]
            refine mW ?_; clear H; intro a w H
            refine wp_ret ?_; exact mEnd [] [] [.tmp 2] [_] hN hR H
          · have hkk : kj ≠ kb := by simpa using hb
            clear hb
            clear hX; have hX := And.intro @hlm (@hg)
            clear hY
            refine mW ?_; clear H; intro a w H
            exact ⟨j + 1, ⟨hjt, by rw [htj]; intro hm; rcases List.mem_append.1 hm with hm | hm; exact hj2 hm; exact hkk (List.mem_singleton.1 hm).symm⟩, by omega, H.to 0 0 ⟨hN, hR⟩ ⟨rfl, rfl, rfl, rfl, trivial⟩ rfl rfl rfl rfl rfl⟩
        · have hje : j = k := by simp at hb; omega
          clear hb
          subst hje
          rw [if_neg hj2] at hstep
          refine mW ?_; clear H; intro a w H
          exact ⟨j + 1, ⟨hlt, by rw [htk, ← hstep]⟩, by omega, H.to 0 0 ⟨hN, hR⟩ ⟨rfl, rfl, rfl, trivial⟩ rfl rfl rfl rfl rfl⟩
    · have hge : k = l.length := by simp at hb; omega
      clear hb
      subst hge
      rw [List.drop_length] at hk2
      have he0 : errP l = 0 := by rw [he, ← hk2]; rfl
      rw [he0]
      refine mW ?_; clear H; intro a w H
      refine wp_ret ?_; exact mEnd [] [] [.tmp 2] [_] hN hR H
theorem sep_of (l : List Pr) (hk : K32 l) (hd : Dis l) (d : Nat) (h : ∀ x ∈ l, ∀ y ∈ l, agree d x.1 y.1) : Sep d (dgs l) := by
  unfold Sep dgs
  rw [List.pairwise_map]
  exact List.Pairwise.imp_of_mem (fun {x y} hx hy hp => ⟨h x hx y hy, fun ha => hp (agree_eq (hk x hx) (hk y hy) ha)⟩) hd
end Go.Proofs.Ythphhnkoilcofaa
/- The document's RootAt, Root. -/
namespace Go.Proofs.Ythphhnkoilcofaa
open Go Go.RowKit
end Go.Proofs.Ythphhnkoilcofaa
/- CopyPairs: entries in new memory, which may be written. -/
namespace Go.Proofs.Ythphhnkoilcofaa
open Go Go.RowKit
end Go.Proofs.Ythphhnkoilcofaa
/- Bytes that were lent are as they were. -/
namespace Go.Proofs.Ythphhnkoilcofaa
open Go Go.RowKit
set_option maxRecDepth 20000 in
theorem kept_v (l : List UInt8) (hl : l.length ≤ 34359738000) : VC Try.prog 84 [.bc (lentOf l) l.length none, .bs l none] [] (.v (.bool true)) := by
  have hll := lent_len l
  have e1 := lent_v l hl
  have h5 : ((l.length : Int) + 5).toNat = l.length + 5 := by omega
  have hT : (lentOf l).take (l.length + 5) = lentOf l := List.take_of_length_le (by omega)
  refine mE Try.func84 ?_; intro N w0 a w hN hR H
  refine mW ?_; clear H; intro a w H
  have hX := And.intro @h5 (And.intro @hT (And.intro @strOf_list (@beq_self_eq_true.{0})))
  refine mS ?_; refine mD 0 [6] [0, 1, 2, 3, 4, 7, 8, 9] H ?_; clear H; intro gS H; refine mT ?_; clear H; intro a w H
  refine mCallT [] [] (e1) H ?_; clear H; intro a w H
  refine mT ?_; clear H; intro a w H
  refine v_drawNil H ?_; clear H; intro H
  refine mW ?_; clear H; intro a w H
  refine wp_ret ?_; exact mEnd [] [] [.tmp 4] [_] hN hR H
end Go.Proofs.Ythphhnkoilcofaa
/- Slices whose room is known: made, frozen, seen without their room. -/
namespace Go.Proofs.Ythphhnkoilcofaa
open Go Go.RowKit
section
variable {P : Program} {τ : Tab} {w0 w : World} {N : Gh} {g : Gh} {st : St} {nt : Nat} {a : Act}
/-- make with room: all elements, and how much room there is. -/
theorem v_mkC {ops : Array Oper} {Q : Exit → Act → World → Prop} {rest : List Oper} {o : Oper} {t e : Nat} {i j : TI} {l k : Operand} {k1 k2 : IntKind} (m m2 : Nat) (hτ : τ.ok P) (hi : Tab.get t τ = some i) (hid : i.d = .slc e) (hj : Tab.get e τ = some j) (hs : 0 < j.ty.size) (H : Rel P w0 N nt st a w)
    (h1 : m ≤ m2) (h2 : (j.bytes : Int) * m2 ≤ 281474976710656) (h3 : m2 ≤ maxLen)
    (kk : ∀ a w, Rel P w0 N nt ((⟨st.t, st.bx ++ [(.vc e j.ty, .vc 0 (List.replicate m2 j.zero))], st.fz, st.rw⟩ : St).put o.dst none (.vwc st.bx.length 0 m m2)) a w → wpList P ops Q rest a w)
    (hgd : o.guard = none := by rfl) (ho : o.op = .makeSlice t l k := by rfl) (hd : okDst nt none o.dst = true := by rfl) (hl : st.ev none l = .v (.int k1 (m : Int)) := by rfl) (hk : st.ev none k = .v (.int k2 (m2 : Int)) := by rfl) : wpList P ops Q (o :: rest) a w := by
  obtain ⟨g, HI, hF⟩ := H
  have hd0 := (Tab.get_ok hτ hi).d
  rw [hid] at hd0
  have hjok := Tab.get_ok hτ hj
  obtain ⟨inf, z, e1, e2, e3, e4, e5⟩ := hjok.info
  have hlv := ev_sound hF (c := none) trivial l
  rw [hl] at hlv
  have hlv := hlv.v_inv
  have hkv := ev_sound hF (c := none) trivial k
  rw [hk] at hkv
  have hkv := hkv.v_inv
  have hzs : z.cells.size = j.ty.size := by rw [← Array.length_toList]; exact (e5 ⟨fun _ _ => none, [], []⟩).size
  have hrun := run_make (P := P) w t e inf z hd0 e1 e4 k1 k2 (m : Int) (m2 : Int) (by omega) (by omega) (by rw [e3]; exact h2) (by simp only [maxLen] at h3; omega)
  have hcs : (madeCells z.cells (m2 * inf.size)).toList = (List.replicate m2 z.cells.toList).flatten := by
    have := initCells z.cells m2 j.ty.size hzs
    rw [e2]; unfold madeCells; rw [this]
  have hz1 : ∀ u ∈ z.cells.toList, u.oneCell' = true := (e5 ⟨fun _ _ => none, [], []⟩).one
  have hlen : (List.replicate m2 z.cells.toList).flatten.length = m2 * j.ty.size := by rw [List.length_flatten]; simp [hzs]
  obtain ⟨g', l1, I1, hx1⟩ := HI.boxG (x := ⟨w.heap.size, e, .vc e j.ty, (List.replicate m2 z.cells.toList).flatten, false, 0, m2, false, none⟩) (a := .vc 0 (List.replicate m2 j.zero)) (w' := w.alloc (.cells (List.replicate m2 z.cells.toList).flatten.toArray e)) rfl (grown_alloc w _) (fun _ => ⟨rfl, .of rfl (Blk.new w e _)⟩) (fun e => by cases e) (fun e => by cases e)
    (.inr (.inl ⟨j.ty, 0, List.replicate m2 j.zero, fun _ => z.cells.toList, [], ⟨_, rfl, rfl⟩, rfl, rfl, rfl, hs, ⟨h3, fun e => (by cases e)⟩, by
      rw [List.length_replicate, flat_rep, List.append_nil], hlen, fun u hu => (by cases hu), fun q hq => by simp only [List.getElem_replicate]; exact e5 _⟩))
  refine wpList_plain hgd fun K hK => ?_
  unfold Oper.wp
  have he : (execOp a.eval o).run P w = .ok (.value (.slice (some ⟨w.heap.size, 0, none⟩) m m2)) (w.alloc (.cells (List.replicate m2 z.cells.toList).flatten.toArray e)) := by
    obtain ⟨dst, op, ty, pos, after, gd⟩ := o
    dsimp only at ho
    subst ho
    have e9 : (madeCells z.cells (m2 * inf.size)) = (List.replicate m2 z.cells.toList).flatten.toArray := by apply Array.toList_inj.1; rw [hcs]
    rw [← e9]
    simp only [execOp, hlv, hkv, Sem.run_bind, hrun, Result.andThen_ok, Sem.run_pure, Int.toNat_natCast]
  rw [he, Oper.upon_value]
  have hvw : RC g' .sc (.vw st.bx.length 0 m) [.slice (some ⟨w.heap.size, 0, none⟩) m m2] := RC.vw (c := m2) hx1 rfl (Nat.le_refl _) h1 h3 fun _ => ⟨rfl, .inr ⟨rfl, rfl⟩⟩
  refine hK _ _ (kk _ _ ⟨g', ?_, (hF.mono l1.1).put hd (fun _ => (RC.vwc hvw fun x hx _ => by rw [hx1] at hx; injection hx with hx; subst hx; rfl).rv1) rfl (fun h => absurd trivial h)⟩)
  cases o.dst <;> exact I1
/-- What is done with growing, with its room. -/
theorem v_frzC (H : Rel P w0 N nt st a w) (d d2 i : Nat) {e γ n m k : Nat} {T : Ty} {es : List AV} (hN : N.bx.length ≤ i) (hb : st.bx[i]? = some (.vc e T, .vc γ es)) (hn : n ≤ es.length) (hk : es.length = k) (hd : find d st.t = some (none, .vw i γ n)) (hd2 : find d2 st.t = some (none, .vwc i γ m k)) :
    Rel P w0 N nt ⟨nilT d (.slc T es n) st.t, st.bx, i :: st.fz, st.rw⟩ a w := by
  obtain ⟨g, HI, hF⟩ := H
  obtain ⟨y, hy, hyT, hbc⟩ := HI.br.at_ i _ _ hb
  obtain ⟨T2, F, sp, ⟨e2, he2, htid⟩, hmp, hgen, h0, hcm, hcs, hcl, hsp, hFk⟩ := hbc.vc_inv
  injection he2 with he20 he2; subst he20 he2
  have hv := (hF.t _ (find_mem hd) trivial).vw_inv.vw_inv
  obtain ⟨_, y', e3, T3, A, c, hval, hy', hty', hle, hnc, hm, hxx⟩ := hv
  rw [hy] at hy'; injection hy' with hy'; subst hy'
  injection hval with hval
  obtain ⟨hcc, hA⟩ := hxx hgen
  have hval : a.tmps.getD d undef = .slice A n c := hval
  have hcap : y.cap = k := by
    have h2 : RV g (.vwc i γ m k) (a.tmps.getD d2 undef) := hF.t _ (find_mem hd2) trivial
    rcases (show RV1 g _ _ from h2) with ⟨T, cs, q1, q2, q3⟩ | q
    · cases q2; simp [Ty.agg] at q1
    · cases q with | vwc q1 q2 => exact q2 _ hy hgen
  have hck : c = es.length := by rw [hcc, hcap, hk]
  subst hck
  rcases hA with ⟨ho, hA⟩ | ⟨ho, hA⟩
  · have hc0 : es.length = 0 := by rw [hcc]; exact hcm.2 ho
    refine ⟨g, ⟨HI.mem, HI.fr, HI.br, fun j x hj hf => List.mem_cons_of_mem _ (HI.fz j x hj hf), HI.wr, HI.wz⟩, hF.sz, hF.df, fun p hp' hg => ?_, fun p hp hg => by rcases nilT_mem hp with h | h; (subst h; exact absurd trivial hg); exact hF.u p h hg⟩
    rcases nilT_mem hp' with h | h
    · subst h
      show RV g (.slc T es n) (a.tmps.getD d undef)
      rw [hval]
      exact (RC.slc hn hm F (.inl (List.length_eq_zero_iff.1 hc0)) fun k hk => hFk k hk).rv1
    · exact hF.t p h hg
  · obtain ⟨g1, l1, I1, _, hro⟩ := HI.freeze hy ho hmp hN
    refine ⟨g1, I1, (hF.mono l1.1).sz, hF.df, fun p hp' hg => ?_, fun p hp hg => by rcases nilT_mem hp with h | h; (subst h; exact absurd trivial hg); exact hF.u p h hg⟩
    rcases nilT_mem hp' with h | h
    · subst h
      show RV g1 (.slc T es n) (a.tmps.getD d undef)
      rw [hval, hA]
      exact (RC.slc (g := g1) (T := T) (es := es) (n := n) (A := some ⟨y.blk, 0, none⟩) hn hm F (.inr ⟨y.blk, 0, rfl, fun k hk j u hu => by
        rw [Nat.zero_add]
        refine hro _ _ ?_
        rw [hcs]
        exact flat_at hFk (by omega) hu⟩) fun k hk => (hFk k hk).mono l1.1.base).rv1
    · exact (hF.mono l1.1).t p h hg
/-- A slice seen without its room, its elements seen as others. -/
theorem v_slcL (H : Rel P w0 N nt st a w) (d : Nat) {T : Ty} {es es' : List AV} {n : Nat} (hd : find d st.t = some (none, .slc T es n)) (hn : n ≤ es.length) (hl : es'.length = n) (h : ∀ k (h1 : k < es'.length), sub 3 (es[k]'(by omega)) es'[k]) : Rel P w0 N nt ⟨nilT d (.sl T es' none) st.t, st.bx, st.fz, st.rw⟩ a w := by
  obtain ⟨g, HI, hF⟩ := H
  refine ⟨g, HI, hF.sz, hF.df, fun p hp hg => ?_, fun p hp hg => by rcases nilT_mem hp with h | h; (subst h; exact absurd trivial hg); exact hF.u p h hg⟩
  rcases nilT_mem hp with h1 | h1
  · subst h1
    have h2 : RV g (.slc T es n) (a.tmps.getD d undef) := hF.t _ (find_mem hd) trivial
    obtain ⟨_, A, F, e1, hn1, hm, hr, hv⟩ := h2.slc_inv.slc_inv
    injection e1 with e1
    show RV g (.sl T es' none) (a.tmps.getD d undef)
    rw [e1]
    have := RC.sl (g := g) (T := T) (es := es') (tok := none) (A := A) (c := es.length) (by omega) hm F ?_ (fun k hk => (hv k (by omega)).sub_ (h k hk)) (fun i hi => by cases hi)
    · rw [hl] at this; exact this.rv1
    · rcases hr with h3 | ⟨b, o, hA, hj⟩
      · subst h3; left; exact List.length_eq_zero_iff.1 (by simp at hn; omega)
      · exact .inr ⟨b, o, hA, fun k hk j u hu => hj k (by omega) j u hu⟩
  · exact hF.t p h1 hg
/-- Is what is nil not nil? -/
theorem v_nilNeq {ops : Array Oper} {Q : Exit → Act → World → Prop} {rest : List Oper} {o : Oper} {t e q : Nat} {x : Operand} (H : Rel P w0 N nt st a w) (ht : P.underlying t = some (.slice e))
    (k : ∀ a w, Rel P w0 N nt (st.put o.dst none (.v (.bool false))) a w → wpList P ops Q rest a w) (hgd : o.guard = none := by rfl) (ho : o.op = .binOp .neq t x (.const (.slice none 0 0)) q := by rfl) (hd : okDst nt none o.dst = true := by rfl) (hx : st.ev none x = .v (.slice none 0 0) := by rfl) : wpList P ops Q (o :: rest) a w := by
  obtain ⟨g, HI, hF⟩ := H
  have ex := ev_sound hF (c := none) trivial x
  rw [hx] at ex
  have ex := ex.v_inv
  refine wpList_plain hgd fun K hK => ?_
  unfold Oper.wp
  have he : (execOp a.eval o).run P w = .ok (.value (.bool false)) w := by
    obtain ⟨dst, op, ty, pos, after, gd⟩ := o
    dsimp only at ho
    subst ho
    have hg : (eqGuard .neq t x (.const (.slice none 0 0)) (.slice none 0 0) (.slice none 0 0)).run P w = .ok () w := by simp [eqGuard]
    have hb : (binOp .neq t (.slice none 0 0) (.slice none 0 0)).run P w = .ok (.bool false) w := by simp [binOp, Op.equal, Op.maxDepth, Lib.run_equalIn_slice_nil w 9999 t e none 0 0 0 0 ht]
    have ev0 : a.eval (.const (.slice none 0 0)) = .slice none 0 0 := rfl
    simp only [execOp, ev0, ex, Sem.run_bind, hg, Result.andThen_ok, hb, Sem.run_pure]
  rw [he, Oper.upon_value]
  refine hK _ _ (k _ _ ⟨g, ?_, hF.put hd (fun _ => RV.v_of rfl) rfl (fun h => absurd trivial h)⟩)
  cases o.dst <;> exact HI
end
end Go.Proofs.Ythphhnkoilcofaa
/- Entries that are lent, and kept. -/
namespace Go.Proofs.Ythphhnkoilcofaa
open Go Go.RowKit
/-- A lent entry: its value with room. -/
def lentA (p : Pr) : AV := .st [.ba p.1, .bc (lentOf p.2) p.2.length none]
def zeroP : AV := .st [.ba (List.replicate 32 0), .v (.slice none 0 0)]
def lentPs (l : List Pr) : List AV := l.map lentA ++ List.replicate 2 zeroP
theorem lentPs_len (l : List Pr) : (lentPs l).length = l.length + 2 := by simp [lentPs]
/-- How far the copy has come. -/
def lentK (l : List Pr) (k : Nat) : List AV := (l.take k).map lentA ++ List.replicate (l.length + 2 - k) zeroP
theorem lentK_len (l : List Pr) (k : Nat) (h : k ≤ l.length) : (lentK l k).length = l.length + 2 := by simp [lentK]; omega
theorem lentK_set (l : List Pr) (k : Nat) (h : k < l.length) : (lentK l k).set k (lentA l[k]) = lentK l (k + 1) := by
  unfold lentK
  have h1 : ((l.take k).map lentA).length = k := by rw [List.length_map, List.length_take]; omega
  obtain ⟨q, hq⟩ : ∃ q, l.length + 2 - k = q + 1 := ⟨l.length + 1 - k, by omega⟩
  rw [hq, show l.length + 2 - (k + 1) = q by omega, List.take_succ_eq_append_getElem h, List.map_append, List.replicate_succ]
  rw [List.set_append_right _ _ (by omega), h1, Nat.sub_self]
  simp
theorem lentK_all (l : List Pr) : lentK l l.length = lentPs l := by unfold lentK lentPs; rw [List.take_length, show l.length + 2 - l.length = 2 by omega]
theorem lentPs_get (l : List Pr) (k : Nat) (h : k < l.length) : ((lentPs l).take l.length).getD k .any = lentA l[k] := by
  simp [lentPs, List.getD_eq_getElem?_getD, List.getElem?_take, List.getElem?_append, h]
theorem lentPs_end (l : List Pr) (k : Nat) (h : l.length ≤ k) (h2 : k < l.length + 2) : ((lentPs l).take (l.length + 2)).getD k .any = zeroP := by
  have e1 : ((lentPs l).take (l.length + 2)) = lentPs l := List.take_of_length_le (by rw [lentPs_len]; omega)
  rw [e1, lentPs, List.getD_eq_getElem?_getD, List.getElem?_append_right (by rw [List.length_map]; exact h), List.length_map]
  have e2 : k - l.length = 0 ∨ k - l.length = 1 := by omega
  rcases e2 with e2 | e2 <;> rw [e2] <;> rfl
set_option maxRecDepth 20000 in
set_option maxHeartbeats 1000000 in
theorem lentP_v (l : List Pr) (hk : K32 l) (hv : V0 l) (hl : l.length ≤ 1048576) : VC Try.prog 24 [.sl prT (l.map prA) none] [] (.slc prT (lentPs l) l.length) := by
  have hlm : (l.map prA).length = l.length := List.length_map ..
  refine mE Try.func24 ?_; intro N w0 a w hN hR H
  refine mS ?_
  have hX := @hlm
  (try refine wp_region_lit ?_); refine mN 1 hN H ?_; clear H; intro a w H
  refine mS ?_
  (try refine wpList_nil ?_)
  refine mS ?_
  (try refine wp_region_lit ?_); refine mN 5 hN H ?_; clear H; intro a w H
  have hi2 : ((l.length : Int) + 2) = ((l.length + 2 : Nat) : Int) := by omega
  rw [hi2] at H
  refine v_mkC l.length (l.length + 2) tab_ok (i := ti57) (j := ti62) rfl rfl rfl (by decide) H (by omega) (by simp; omega) (by simp only [maxLen]; omega) ?_; clear H; intro a w H
  replace H := nf H
  refine mW ?_; clear H; intro a w H
  replace H := v_sub H 3 (x := .vwc 0 0 l.length (l.length + 2)) (y := .vw 0 0 l.length) (by exact ⟨rfl, rfl, rfl⟩) rfl (fun _ e => by cases e) rfl
  simp only [nilT, reduceIte, Nat.reduceEqDiff] at H
  refine v_loop (fun k : Nat => ⟨[(4, none, .v (.int .i64 (k : Int))), (3, none, .vw 0 0 l.length), (10, none, .vwc 0 0 l.length (l.length + 2)), (0, none, .sl prT (l.map prA) none)], [(.vc 62 prT, .vc 0 (lentK l k))], [], []⟩) (fun k => k ≤ l.length) (fun k => l.length - k) 0 (Nat.zero_le _) (H.to 1 0 ⟨Nat.le_trans hN (by decide), hR⟩ ⟨rfl, rfl, rfl, rfl, trivial⟩ (by simp [lentK]; rfl) rfl rfl rfl rfl) ?_
  clear H
  intro k a w hk1 H
  have hll := lentK_len l k hk1
  refine mW ?_; clear H; intro a w H
  refine mC H (fun hb => ?_) (fun hb => ?_)
  · have hlt : k < l.length := by rw [decide_eq_true_eq] at hb; omega
    clear hb
    have g1 := prA_get l k hlt
    have w1 := hk _ (List.getElem_mem hlt)
    have v1 := hv _ (List.getElem_mem hlt)
    have hset := lentK_set l k hlt
    generalize l[k] = q at *
    obtain ⟨kb, vb⟩ := q
    dsimp only at g1 w1 v1
    simp only [lentA] at hset
    have hc := lent_v vb (by omega)
    clear hX; have hX := And.intro @hlm (And.intro @g1 (@hll))
    have hY := @w1
    refine mS ?_; refine mD 0 [12, 15] [0, 1, 2, 3, 4, 5, 6] H ?_; clear H; intro gS H
    refine mTN 5 hN H ?_; clear H; intro a w H; simp only [List.drop_succ_cons, List.drop_zero, List.drop_nil]
    refine mTN 2 hN H ?_; clear H; intro a w H; simp only [List.drop_succ_cons, List.drop_zero, List.drop_nil]
    refine mTN 3 hN H ?_; clear H; intro a w H; simp only [List.drop_succ_cons, List.drop_zero, List.drop_nil]
    refine mTN 2 hN H ?_; clear H; intro a w H; simp only [List.drop_succ_cons, List.drop_zero, List.drop_nil]
    refine mCallT [] [] (hc) H ?_; clear H; intro a w H
    refine mTN 1 hN H ?_; clear H; intro a w H; simp only [List.drop_succ_cons, List.drop_zero, List.drop_nil]
    refine mTN 1 hN H ?_; clear H; intro a w H; simp only [List.drop_succ_cons, List.drop_zero, List.drop_nil]
    refine mT ?_; clear H; intro a w H
    refine v_drawNil H ?_; clear H; intro H
    rw [hset] at H
    replace H := mK [0, 3, 4, 10] 1 0 hN hR H
    replace H := v_fz H
    simp only [List.filter_cons, List.filter_nil, List.length_cons, List.length_nil, Nat.reduceAdd, Nat.zero_add, Nat.lt_irrefl, decide_false, Bool.false_eq_true, reduceIte] at H
    clear hX; have hX := @hlm
    clear hY
    refine mW ?_; clear H; intro a w H
    exact ⟨k + 1, hlt, by omega, H.to 1 0 ⟨Nat.le_trans hN (by decide), hR⟩ ⟨rfl, rfl, rfl, rfl, trivial⟩ rfl rfl rfl rfl rfl⟩
  · have hge : k = l.length := by rw [decide_eq_false_iff_not] at hb; omega
    subst hge
    rw [lentK_all] at H
    refine mW ?_; clear H; intro a w H
    replace H := v_frzC H 2 10 0 hN rfl (by rw [lentPs_len]; omega) (lentPs_len l) rfl rfl
    simp only [nilT, reduceIte, Nat.reduceEqDiff] at H
    refine wp_ret ?_; exact mEnd [] [] [.tmp 2] [_] hN hR H
set_option maxRecDepth 20000 in
set_option maxHeartbeats 1000000 in
theorem keptP_v (l : List Pr) (hk : K32 l) (hv : V0 l) (hl : l.length ≤ 1048576) : VC Try.prog 33 [.slc prT (lentPs l) l.length, .sl prT (l.map prA) none] [] (.v (.bool true)) := by
  have hlm : (l.map prA).length = l.length := List.length_map ..
  have hpl := lentPs_len l
  have htl : ((lentPs l).take l.length).length = l.length := by rw [List.length_take, hpl]; omega
  refine mE Try.func33 ?_; intro N w0 a w hN hR H
  have hX := @hlm
  refine mW ?_; clear H; intro a w H
  refine mC H (fun hb => ?_) (fun hb => ?_)
  · simp at hb
  · clear hb
    refine mW ?_; clear H; intro a w H
    refine v_loop (fun k : Nat => ⟨[(5, none, .v (.int .i64 (k : Int))), (0, none, .slc prT (lentPs l) l.length), (1, none, .sl prT (l.map prA) none)], [], [], []⟩) (fun k => k ≤ l.length) (fun k => l.length - k) 0 (Nat.zero_le _) (H.to 0 0 ⟨hN, hR⟩ ⟨rfl, rfl, rfl, trivial⟩ rfl rfl rfl rfl rfl) ?_
    clear H
    intro k a w hk1 H
    refine mW ?_; clear H; intro a w H
    refine mC H (fun hb => ?_) (fun hb => ?_)
    · have hlt : k < l.length := by rw [decide_eq_true_eq] at hb; omega
      clear hb
      have g1 := prA_get l k hlt
      have g2 := lentPs_get l k hlt
      have w1 := hk _ (List.getElem_mem hlt)
      have v1 := hv _ (List.getElem_mem hlt)
      generalize l[k] = q at *
      obtain ⟨kb, vb⟩ := q
      simp only [lentA] at g2
      dsimp only at g1 w1 v1
      have hc := kept_v vb (by omega)
      clear hX; have hX := And.intro @hlm (And.intro @g1 (And.intro @g2 (@htl)))
      have hY := @w1
      refine mS ?_; refine mD 0 [22] [] H ?_; clear H; intro gS H
      refine mTN 3 hN H ?_; clear H; intro a w H; simp only [List.drop_succ_cons, List.drop_zero, List.drop_nil]
      refine mTN 2 hN H ?_; clear H; intro a w H; simp only [List.drop_succ_cons, List.drop_zero, List.drop_nil]
      refine mTN 3 hN H ?_; clear H; intro a w H; simp only [List.drop_succ_cons, List.drop_zero, List.drop_nil]
      refine mTN 2 hN H ?_; clear H; intro a w H; simp only [List.drop_succ_cons, List.drop_zero, List.drop_nil]
      refine mTN 2 hN H ?_; clear H; intro a w H; simp only [List.drop_succ_cons, List.drop_zero, List.drop_nil]
      refine mTN 3 hN H ?_; clear H; intro a w H; simp only [List.drop_succ_cons, List.drop_zero, List.drop_nil]
      refine mTN 2 hN H ?_; clear H; intro a w H; simp only [List.drop_succ_cons, List.drop_zero, List.drop_nil]
      refine mTN 3 hN H ?_; clear H; intro a w H; simp only [List.drop_succ_cons, List.drop_zero, List.drop_nil]
      refine mTN 2 hN H ?_; clear H; intro a w H; simp only [List.drop_succ_cons, List.drop_zero, List.drop_nil]
      replace H := v_knownT H 30 false (by rfl)
      simp only [unG, gdEq, Nat.reduceBEq, cond_true, cond_false] at H
      replace H := ntf H
      refine v_guardT H (by rfl) (by rfl) (by rfl) ?_
      refine mCallT [] [] (hc) H ?_; clear H; intro a w H
      refine mTN 1 hN H ?_; clear H; intro a w H; simp only [List.drop_succ_cons, List.drop_zero, List.drop_nil]
      replace H := v_knownT H 30 false (by rfl)
      simp only [unG, gdEq, Nat.reduceBEq, cond_true, cond_false] at H
      replace H := ntf H
      refine mT ?_; clear H; intro a w H
      refine v_drawNil H ?_; clear H; intro H
      refine mC H (fun hb => ?_) (fun hb => ?_)
      · cases hb
      · clear hb
        clear hX; have hX := @hlm
        clear hY
        refine mW ?_; clear H; intro a w H
        exact ⟨k + 1, hlt, by omega, H.to 0 0 ⟨hN, hR⟩ ⟨rfl, rfl, rfl, trivial⟩ rfl rfl rfl rfl rfl⟩
    · have hge : k = l.length := by rw [decide_eq_false_iff_not] at hb; omega
      subst hge
      clear hX; have hX := And.intro @hlm (@hpl)
      refine mW ?_; clear H; intro a w H
      refine v_loop (fun k : Nat => ⟨[(7, none, .v (.int .i64 (k : Int))), (6, none, .slc prT (lentPs l) (l.length + 2))], [], [], []⟩) (fun k => l.length ≤ k ∧ k ≤ l.length + 2) (fun k => l.length + 2 - k) l.length ⟨Nat.le_refl _, by omega⟩ (H.to 0 0 ⟨hN, hR⟩ ⟨rfl, rfl, trivial⟩ rfl rfl rfl rfl rfl) ?_
      clear H
      rintro k a w ⟨hk1, hk2⟩ H
      refine mW ?_; clear H; intro a w H
      refine mC H (fun hb => ?_) (fun hb => ?_)
      · have hlt : k < l.length + 2 := by rw [decide_eq_true_eq] at hb; omega
        clear hb
        have g1 := lentPs_end l k hk1 hlt
        have htl2 : ((lentPs l).take (l.length + 2)).length = l.length + 2 := by rw [List.length_take, hpl]; omega
        have hzz : (List.replicate 32 (0 : UInt8)).length = 32 := List.length_replicate
        simp only [zeroP] at g1
        refine mS ?_
        clear hX; have hX := And.intro @g1 (And.intro @htl2 (@hzz))
        (try refine wp_region_lit ?_); refine mN 3 hN H ?_; clear H; intro a w H
        (try refine wp_region_lit ?_); refine mN 5 hN H ?_; clear H; intro a w H
        replace H := v_known H 63 false (by rfl)
        simp only [unG, gdEq, Nat.reduceBEq, cond_true, cond_false] at H
        replace H := nf H
        (try refine wp_region_lit ?_); refine mN 3 hN H ?_; clear H; intro a w H
        (try refine wp_region_lit ?_); refine mN 2 hN H ?_; clear H; intro a w H
        replace H := v_known H 63 false (by rfl)
        simp only [unG, gdEq, Nat.reduceBEq, cond_true, cond_false] at H
        replace H := nf H
        refine mG H ?_
        refine v_nilNeq H Try.underlying60 ?_; clear H; intro a w H
        replace H := nf H
        refine mW ?_; clear H; intro a w H
        refine mC H (fun hb => ?_) (fun hb => ?_)
        · cases hb
        · clear hb
          refine mW ?_; clear H; intro a w H
          exact ⟨k + 1, ⟨by omega, hlt⟩, by omega, H.to 0 0 ⟨hN, hR⟩ ⟨rfl, rfl, trivial⟩ rfl rfl rfl rfl rfl⟩
      · clear hb
        clear hX; have hX := @hlm
        refine mW ?_; clear H; intro a w H
        refine wp_ret ?_; exact mEnd [] [] [.tmp 4] [_] hN hR H
end Go.Proofs.Ythphhnkoilcofaa
