/- node.Way: the way of a key among entries. -/
import Derived.Test.YthphhnkoilcofaaThaw
import Derived.Test.YthphhnkoilcofaaDigest
import Derived.Test.YthphhnkoilcofaaTagOf
set_option linter.unusedSimpArgs false
set_option linter.unusedVariables false
namespace Go.Proofs.Ythphhnkoilcofaa
open Go Go.RowKit
/-- The other sides' digests on a key's way; with what it ends. -/
def wayA (key : List UInt8) : Nat → Nat → List En → List (List UInt8)
  | 0, _, _ => []
  | f + 1, d, l => if l.length < 2 then [] else rootA f (d + 1) (half (!bitN key d) d l) :: wayA key f (d + 1) (half (bitN key d) d l)
def endB (l : List En) : Nd := match l with
  | [] => Nd.zero
  | x :: _ => Nd.one x.1 x.2
def endA (key : List UInt8) : Nat → Nat → List En → Nd
  | 0, _, l => endB l
  | f + 1, d, l => if l.length < 2 then endB l else endA key f (d + 1) (half (bitN key d) d l)
theorem wayA_small (key : List UInt8) (f d : Nat) (l : List En) (h : l.length < 2) : wayA key f d l = [] := by cases f with
  | zero => rfl
  | succ f => rw [wayA, if_pos h]
theorem endA_small (key : List UInt8) (f d : Nat) (l : List En) (h : l.length < 2) : endA key f d l = endB l := by cases f with
  | zero => rfl
  | succ f => rw [endA, if_pos h]
theorem wayA_w (key : List UInt8) : ∀ f d l, ∀ x ∈ wayA key f d l, x.length = 32
  | 0, _, _, x, hx => by cases hx
  | f + 1, d, l, x, hx => by
    unfold wayA at hx
    split at hx
    · cases hx
    · rcases List.mem_cons.1 hx with rfl | hx
      · exact rootA_len _ _ _
      · exact wayA_w key f _ _ x hx
theorem wayA_le (key : List UInt8) : ∀ f d l, (wayA key f d l).length ≤ f
  | 0, _, _ => Nat.le_refl _
  | f + 1, d, l => by
    unfold wayA
    split
    · exact Nat.zero_le _
    · have := wayA_le key f (d + 1) (half (bitN key d) d l); simp only [List.length_cons]; omega
theorem Nd.one_wf {a b : List UInt8} (ha : a.length = 32) (hb : b.length = 32) : (Nd.one a b).wf := ⟨ha, hb, z32_len, z32_len⟩
/-- The state of the walk down: what is done, what is to do. -/
structure Wy (key : List UInt8) (W : List (List UInt8)) (E : Nd) (i : Nat × List Pr × List (List UInt8)) : Prop where
  d : i.1 ≤ 256
  w : i.2.2 ++ wayA key (256 - i.1) i.1 (dgs i.2.1) = W
  e : endA key (256 - i.1) i.1 (dgs i.2.1) = E
  r : Rise i.1 (dgs i.2.1)
  k : K32 i.2.1
  v : V0 i.2.1
  n : i.2.1.length ≤ 34359730000
  s : i.2.2.length = i.1
theorem bas_snoc (s : List (List UInt8)) (x : List UInt8) : bas (s ++ [x]) = bas s ++ [.ba x] := by simp [bas]
theorem Wy.go {key : List UInt8} {W : List (List UInt8)} {E : Nd} {d : Nat} {s : List Pr} {ss : List (List UInt8)} (h : Wy key W E (d, s, ss)) (h2 : 1 < s.length) :
    d < 256 ∧ ∀ o q : List Pr, (o, q) = (if bitN key d then (s.drop (partN d (dgs s)), s.take (partN d (dgs s))) else (s.take (partN d (dgs s)), s.drop (partN d (dgs s)))) →
      Wy key W E (d + 1, o, ss ++ [rootA (255 - d) (d + 1) (dgs q)]) ∧ Rise (d + 1) (dgs q) ∧ K32 q ∧ V0 q ∧ q.length ≤ 34359730000 := by
  have hl : ¬ (dgs s).length < 2 := by rw [dgs_len]; omega
  have hd : d < 256 := by
    by_cases hd : d < 256
    · exact hd
    · exact absurd (h.r.sep.deep (by show 256 ≤ d; omega)) (by rw [dgs_len]; show ¬ s.length < 2; omega)
  refine ⟨hd, fun o q hoq => ?_⟩
  obtain ⟨e1, e2⟩ := Rise.part hd h.r
  have f1 : 256 - d = (255 - d) + 1 := by omega
  have hw := h.w
  have he := h.e
  have hn := h.n
  have hs := h.s
  dsimp only at hw he e1 e2 hn hs
  rw [f1, wayA, if_neg hl] at hw
  rw [f1, endA, if_neg hl] at he
  have f2 : 256 - (d + 1) = 255 - d := by omega
  cases hb : bitN key d with
  | true =>
    rw [hb, if_pos rfl] at hoq
    obtain ⟨rfl, rfl⟩ := Prod.mk.inj hoq
    rw [hb] at hw he
    rw [e2, dgs_drop] at hw he
    rw [Bool.not_true, e1, dgs_take] at hw
    have r1 := h.r.side false
    have r2 := h.r.side true
    dsimp only at r1 r2
    rw [e1, dgs_take] at r1
    rw [e2, dgs_drop] at r2
    refine ⟨⟨by show d + 1 ≤ 256; omega, ?_, ?_, r2, h.k.drop _, h.v.drop _, by dsimp only; rw [List.length_drop]; omega, by dsimp only; rw [List.length_append, hs]; rfl⟩, r1, h.k.take _, h.v.take _, by rw [List.length_take]; omega⟩
    · dsimp only; rw [f2, List.append_assoc]; exact hw
    · dsimp only; rw [f2]; exact he
  | false =>
    rw [hb, if_neg (by decide)] at hoq
    obtain ⟨rfl, rfl⟩ := Prod.mk.inj hoq
    rw [hb] at hw he
    rw [e1, dgs_take] at hw he
    rw [Bool.not_false, e2, dgs_drop] at hw
    have r1 := h.r.side false
    have r2 := h.r.side true
    dsimp only at r1 r2
    rw [e1, dgs_take] at r1
    rw [e2, dgs_drop] at r2
    refine ⟨⟨by show d + 1 ≤ 256; omega, ?_, ?_, r1, h.k.take _, h.v.take _, by dsimp only; rw [List.length_take]; omega, by dsimp only; rw [List.length_append, hs]; rfl⟩, r2, h.k.drop _, h.v.drop _, by rw [List.length_drop]; omega⟩
    · dsimp only; rw [f2, List.append_assoc]; exact hw
    · dsimp only; rw [f2]; exact he
/-- The way of a key among entries. -/
def wayE (l : List Pr) (key : List UInt8) : Pf := ⟨wayA key 256 0 (dgs (srt l)), endA key 256 0 (dgs (srt l))⟩
theorem cutH {B R : Act → World → Prop} {G : Prop} (h : (∀ a w, R a w → B a w) → G) (k : ∀ a w, R a w → B a w) : G := h k
set_option maxRecDepth 20000 in
set_option maxHeartbeats 2000000 in
theorem nway_v (l : List Pr) (hk : K32 l) (hl : l.length ≤ 34359730000) (key : List UInt8) (hk32 : key.length = 32) (he : errP l = 0) :
    VC Try.prog 58 [.sl prT (l.map prA) none, .ba key] [(27, (wayE l key).s.length)] (.tup [.st [.sl (.ba 32) (bas (wayE l key).s) (some 0), (wayE l key).e.av], errv 0]) := by
  have hs := sorted_v l hk (by omega)
  obtain ⟨hle, hdis, hvals⟩ := errP_ok he
  have hr : resP l = .tup [.sl prT ((srt l).map prA) none, .v (.int .i64 0)] := by unfold resP; rw [if_pos he]
  rw [hr] at hs
  have hsl : (srt l).length = l.length := (srt_perm l).length_eq
  have hsk : K32 (srt l) := hk.perm (srt_perm l)
  have hsr := srt_ris l hk hdis
  have hsv : V0 (srt l) := fun x hx => Nat.le_trans (hvals x ((srt_perm l).mem_iff.1 hx)) (by decide)
  have hrise := ends_rise (d := 0) (srt l) hsk hsr (by omega) (.inr (by omega))
  unfold wayE
  generalize srt l = m at *
  have hm0 : Wy key (wayA key 256 0 (dgs m)) (endA key 256 0 (dgs m)) (0, m, []) := ⟨Nat.zero_le _, rfl, rfl, hrise, hsk, hsv, by dsimp only; omega, rfl⟩
  have hWle := wayA_le key 256 0 (dgs m)
  generalize wayA key 256 0 (dgs m) = W at *
  generalize endA key 256 0 (dgs m) = E at *
  dsimp only
  have hWl := bas_len W
  have hz2 := z32_len
  refine mE Try.func58 ?_; intro N w0 a w hN hR H
  refine mW ?_; clear H; intro a w H
  refine mCall [] [] (hs) H ?_; clear H; intro a w H; try refine wpList_nil ?_
  refine mW ?_; clear H; intro a w H
  refine mC H (fun hb => ?_) (fun hb => ?_)
  · simp at hb
  · clear hb
    refine mW ?_; clear H; intro a w H
    have H := v_nilX tab_ok H 2 0 27 (j := ti27) (.ba 32) rfl (by decide) rfl rfl
    simp only [List.set_cons_succ, List.set_cons_zero, List.length_cons, List.length_nil, Nat.reduceAdd, List.cons_append, List.nil_append, hz] at H
    refine v_loop (fun i : Nat × List Pr × List (List UInt8) => ⟨[(9, none, .v (.int .i64 (i.1 : Int))), (8, none, .ptr 2 []), (6, none, .sl prT (i.2.1.map prA) none), (5, none, .v (.int .i64 0)), (4, none, .ptr 1 []), (3, none, .ptr 0 [])],
      [(.ba 32, .ba key), (ti41.ty, .st [.v (.slice none 0 0), .st [.v (.int .u8 0), .ba z32, .ba z32, .ba z32, .ba z32]]), (ti41.ty, .st [.sl (.ba 32) (bas i.2.2) (some 0), .st [.v (.int .u8 0), .ba z32, .ba z32, .ba z32, .ba z32]])], [], [(27, i.2.2.length)]⟩)
      (Wy key W E) (fun i => 256 - i.1) (0, m, []) hm0 (H.to 3 1 ⟨Nat.le_trans hN (by decide), Nat.le_trans hR (by decide)⟩ ⟨rfl, rfl, rfl, rfl, rfl, rfl, trivial⟩ rfl rfl rfl rfl rfl) ?_
    clear H hm0
    rintro ⟨d, s, ss⟩ a w hwy H
    dsimp only at H
    have hml : (s.map prA).length = s.length := List.length_map ..
    have hssl := bas_len ss
    have hn := hwy.n
    have hssd := hwy.s
    dsimp only at hn hssd
    have hX := And.intro @hml (@hssl)
    refine mW ?_; clear H; intro a w H
    refine mC H (fun hb => ?_) (fun hb => ?_)
    · have h2 : 1 < s.length := by rw [decide_eq_true_eq] at hb; omega
      clear hb
      obtain ⟨hd, hgo⟩ := hwy.go h2
      have hp := npart_v s hwy.k d hd hn
      have hbit := bit_v key hk32 (d : Int)
      have hpn := partN_le d (dgs s)
      rw [dgs_len] at hpn
      have hpb : decide (pbit key (d : Int) = 1) = bitN key d := by
        rw [pbit, if_pos (by omega), Int.toNat_natCast]; cases bitN key d <;> rfl
      refine mW ?_; clear H; intro a w H
      refine mCall [] [] (hp) H ?_; clear H; intro a w H; try refine wpList_nil ?_
      clear hX; have hX := And.intro @hml (And.intro @hssl (And.intro @prs_take (@prs_drop)))
      refine mW ?_; clear H; intro a w H
      refine mS ?_; refine mD 0 [] [] H ?_; clear H; intro gS H; refine mT ?_; clear H; intro a w H
      refine v_drawNil H ?_; clear H; intro H
      refine mW ?_; clear H; intro a w H
      refine mCall [] [] (hbit) H ?_; clear H; intro a w H; try refine wpList_nil ?_
      refine mW ?_; clear H; intro a w H
      simp only [hpb] at H
      obtain ⟨o, q, hoq⟩ : ∃ o q : List Pr, (o, q) = (if bitN key d then (s.drop (partN d (dgs s)), s.take (partN d (dgs s))) else (s.take (partN d (dgs s)), s.drop (partN d (dgs s)))) := ⟨_, _, rfl⟩
      obtain ⟨hnext, hq1, hq2, hq3, hq4⟩ := hgo o q hoq
      have hrt := nroot_v (255 - d) (d + 1) q (by omega) hq1 hq2 hq3 hq4
      have hrl := rootA_len (255 - d) (d + 1) (dgs q)
      revert a w
      apply cutH (R := fun a w => Rel Try.prog w0 N Try.f58.ntmps ⟨[(12, none, .sl prT (q.map prA) none), (11, none, .sl prT (o.map prA) none), (9, none, .v (.int .i64 (d : Int))), (8, none, .ptr 2 []), (5, none, .v (.int .i64 0)), (4, none, .ptr 1 []), (3, none, .ptr 0 [])],
        [(.ba 32, .ba key), (ti41.ty, .st [.v (.slice none 0 0), .st [.v (.int .u8 0), .ba z32, .ba z32, .ba z32, .ba z32]]), (ti41.ty, .st [.sl (.ba 32) (bas ss) (some 0), .st [.v (.int .u8 0), .ba z32, .ba z32, .ba z32, .ba z32]])], [], [(27, ss.length)]⟩ a w)
      · intro key1 a w H
        refine mC H (fun hb => ?_) (fun hb => ?_)
        · rw [hb, if_pos rfl] at hoq
          obtain ⟨rfl, rfl⟩ := Prod.mk.inj hoq
          refine mW ?_; clear H; intro a w H
          exact key1 _ _ (H.to 3 1 ⟨Nat.le_trans hN (by decide), Nat.le_trans hR (by decide)⟩ ⟨rfl, rfl, rfl, rfl, rfl, rfl, rfl, trivial⟩ rfl rfl rfl rfl rfl)
        · rw [hb, if_neg (by decide)] at hoq
          obtain ⟨rfl, rfl⟩ := Prod.mk.inj hoq
          refine mS ?_
          exact key1 _ _ (H.to 3 1 ⟨Nat.le_trans hN (by decide), Nat.le_trans hR (by decide)⟩ ⟨rfl, rfl, rfl, rfl, rfl, rfl, rfl, trivial⟩ rfl rfl rfl rfl rfl)
      intro a w H
      generalize rootA (255 - d) (d + 1) (dgs q) = x at *
      clear hX; have hX := @hssl
      repeat (first | refine wp_seq ?_ | refine wp_block ?_)
      refine v_drawZ 0 [2, 3, 4, 0, 1, 5, 6, 7, 8, 9] [0, 1, 5, 6, 7, 9] [2, 3, 4] [(0, 5), (0, 6), (1, 5), (1, 6), (1006, 5)] (by kernel_rfl) (by kernel_rfl) (by kernel_rfl) (by kernel_rfl) (by kernel_rfl) H (by rfl) ?_; clear H; intro gS H; try replace H := ntf H
      refine wpZ_run 3 (i := 2) (n' := 7) (pend' := [0, 1, 5, 6, 7, 8, 9]) (by rfl) (by rfl) (by rfl) (by rfl) (by rfl) ?_
      repeat (refine v_someT 3 tab_ok hN H (by rfl) ctX ?_; clear H; intro a w H; replace H := ntf H; simp only [List.drop_succ_cons, List.drop_zero, List.drop_nil])
      refine wpT_nil ?_
      try dsimp only
      refine wpZ_two (cs := [5]) (by rfl) (by rfl) ?_
      refine all2 ?_
      refine ⟨?_, ?_⟩
      focus
        refine wpZ_pick (pend' := [1, 5, 6, 7, 8, 9]) (by rfl) (by rfl) ?_
        repeat (refine v_someT 3 tab_ok hN H (by rfl) ctX ?_; clear H; intro a w H; replace H := ntf H; simp only [List.drop_succ_cons, List.drop_zero, List.drop_nil])
        refine wpT_nil ?_
        try dsimp only
        refine wpZ_two (cs := [5]) (by rfl) (by rfl) ?_
        refine all2 ?_
        refine ⟨?_, ?_⟩
        focus
          refine wpZ_pick (pend' := [5, 6, 7, 8, 9]) (by rfl) (by rfl) ?_
          repeat (refine v_someT 3 tab_ok hN H (by rfl) ctX ?_; clear H; intro a w H; replace H := ntf H; simp only [List.drop_succ_cons, List.drop_zero, List.drop_nil])
          refine wpT_nil ?_
          try dsimp only
          refine wpZ_two (cs := []) (by rfl) (by rfl) ?_
          refine all1 ?_
          refine wpZ_pick (pend' := [6, 7, 8, 9]) (by rfl) (by rfl) ?_
          refine mCallT [] [] (hrt) H ?_; clear H; intro a w H
          refine wpT_nil ?_
          try dsimp only
          refine wpZ_two (cs := []) (by rfl) (by rfl) ?_
          refine all1 ?_
          refine wpZ_pick (pend' := [7, 8, 9]) (by rfl) (by rfl) ?_
          repeat (refine v_someT 3 tab_ok hN H (by rfl) ctX ?_; clear H; intro a w H; replace H := ntf H; simp only [List.drop_succ_cons, List.drop_zero, List.drop_nil])
          refine wpT_nil ?_
          try dsimp only
          refine wpZ_two (cs := []) (by rfl) (by rfl) ?_
          refine all1 ?_
          refine wpZ_pick (pend' := [8, 9]) (by rfl) (by rfl) ?_
          repeat (refine v_someT 3 tab_ok hN H (by rfl) ctX ?_; clear H; intro a w H; replace H := ntf H; simp only [List.drop_succ_cons, List.drop_zero, List.drop_nil])
          refine wpT_nil ?_
          try dsimp only
          refine wpZ_run 1 (i := 8) (n' := 1) (pend' := [9]) (by rfl) (by rfl) (by rfl) (by rfl) (by rfl) ?_
          repeat (refine v_someT 3 tab_ok hN H (by rfl) ctX ?_; clear H; intro a w H; replace H := ntf H; simp only [List.drop_succ_cons, List.drop_zero, List.drop_nil])
          refine wpT_nil ?_
          try dsimp only
          refine wpZ_two (cs := []) (by rfl) (by rfl) ?_
          refine all1 ?_
          refine wpZ_pick (pend' := []) (by rfl) (by rfl) ?_
          repeat (refine v_someT 3 tab_ok hN H (by rfl) ctX ?_; clear H; intro a w H; replace H := ntf H; simp only [List.drop_succ_cons, List.drop_zero, List.drop_nil])
          refine wpT_nil ?_
          try dsimp only
          refine wpZ_nil ?_
          replace H := RelT.toRel H
        rotate_left 1
        focus
          refine wpZ_pick (pend' := [1, 6, 7, 8, 9]) (by rfl) (by rfl) ?_
          refine mCallT [] [] (hrt) H ?_; clear H; intro a w H
          refine wpT_nil ?_
          try dsimp only
          refine wpZ_two (cs := [6]) (by rfl) (by rfl) ?_
          refine all2 ?_
          refine ⟨?_, ?_⟩
          focus
            refine wpZ_pick (pend' := [6, 7, 8, 9]) (by rfl) (by rfl) ?_
            repeat (refine v_someT 3 tab_ok hN H (by rfl) ctX ?_; clear H; intro a w H; replace H := ntf H; simp only [List.drop_succ_cons, List.drop_zero, List.drop_nil])
            refine wpT_nil ?_
            try dsimp only
            refine wpZ_two (cs := []) (by rfl) (by rfl) ?_
            refine all1 ?_
            refine wpZ_pick (pend' := [7, 8, 9]) (by rfl) (by rfl) ?_
            repeat (refine v_someT 3 tab_ok hN H (by rfl) ctX ?_; clear H; intro a w H; replace H := ntf H; simp only [List.drop_succ_cons, List.drop_zero, List.drop_nil])
            refine wpT_nil ?_
            try dsimp only
            refine wpZ_two (cs := []) (by rfl) (by rfl) ?_
            refine all1 ?_
            refine wpZ_pick (pend' := [8, 9]) (by rfl) (by rfl) ?_
            repeat (refine v_someT 3 tab_ok hN H (by rfl) ctX ?_; clear H; intro a w H; replace H := ntf H; simp only [List.drop_succ_cons, List.drop_zero, List.drop_nil])
            refine wpT_nil ?_
            try dsimp only
            refine wpZ_run 1 (i := 8) (n' := 1) (pend' := [9]) (by rfl) (by rfl) (by rfl) (by rfl) (by rfl) ?_
            repeat (refine v_someT 3 tab_ok hN H (by rfl) ctX ?_; clear H; intro a w H; replace H := ntf H; simp only [List.drop_succ_cons, List.drop_zero, List.drop_nil])
            refine wpT_nil ?_
            try dsimp only
            refine wpZ_two (cs := []) (by rfl) (by rfl) ?_
            refine all1 ?_
            refine wpZ_pick (pend' := []) (by rfl) (by rfl) ?_
            repeat (refine v_someT 3 tab_ok hN H (by rfl) ctX ?_; clear H; intro a w H; replace H := ntf H; simp only [List.drop_succ_cons, List.drop_zero, List.drop_nil])
            refine wpT_nil ?_
            try dsimp only
            refine wpZ_nil ?_
            replace H := RelT.toRel H
          rotate_left 1
          focus
            refine wpZ_pick (pend' := [1, 7, 8, 9]) (by rfl) (by rfl) ?_
            repeat (refine v_someT 3 tab_ok hN H (by rfl) ctX ?_; clear H; intro a w H; replace H := ntf H; simp only [List.drop_succ_cons, List.drop_zero, List.drop_nil])
            refine wpT_nil ?_
            try dsimp only
            refine wpZ_two (cs := []) (by rfl) (by rfl) ?_
            refine all1 ?_
            refine wpZ_pick (pend' := [7, 8, 9]) (by rfl) (by rfl) ?_
            repeat (refine v_someT 3 tab_ok hN H (by rfl) ctX ?_; clear H; intro a w H; replace H := ntf H; simp only [List.drop_succ_cons, List.drop_zero, List.drop_nil])
            refine wpT_nil ?_
            try dsimp only
            refine wpZ_two (cs := []) (by rfl) (by rfl) ?_
            refine all1 ?_
            refine wpZ_pick (pend' := [8, 9]) (by rfl) (by rfl) ?_
            repeat (refine v_someT 3 tab_ok hN H (by rfl) ctX ?_; clear H; intro a w H; replace H := ntf H; simp only [List.drop_succ_cons, List.drop_zero, List.drop_nil])
            refine wpT_nil ?_
            try dsimp only
            refine wpZ_run 1 (i := 8) (n' := 1) (pend' := [9]) (by rfl) (by rfl) (by rfl) (by rfl) (by rfl) ?_
            repeat (refine v_someT 3 tab_ok hN H (by rfl) ctX ?_; clear H; intro a w H; replace H := ntf H; simp only [List.drop_succ_cons, List.drop_zero, List.drop_nil])
            refine wpT_nil ?_
            try dsimp only
            refine wpZ_two (cs := []) (by rfl) (by rfl) ?_
            refine all1 ?_
            refine wpZ_pick (pend' := []) (by rfl) (by rfl) ?_
            repeat (refine v_someT 3 tab_ok hN H (by rfl) ctX ?_; clear H; intro a w H; replace H := ntf H; simp only [List.drop_succ_cons, List.drop_zero, List.drop_nil])
            refine wpT_nil ?_
            try dsimp only
            refine wpZ_nil ?_
            replace H := RelT.toRel H
      rotate_left 3
      focus
        refine wpZ_pick (pend' := [0, 1, 6, 7, 8, 9]) (by rfl) (by rfl) ?_
        refine mCallT [] [] (hrt) H ?_; clear H; intro a w H
        refine wpT_nil ?_
        try dsimp only
        refine wpZ_two (cs := [6]) (by rfl) (by rfl) ?_
        refine all2 ?_
        refine ⟨?_, ?_⟩
        focus
          refine wpZ_pick (pend' := [1, 6, 7, 8, 9]) (by rfl) (by rfl) ?_
          repeat (refine v_someT 3 tab_ok hN H (by rfl) ctX ?_; clear H; intro a w H; replace H := ntf H; simp only [List.drop_succ_cons, List.drop_zero, List.drop_nil])
          refine wpT_nil ?_
          try dsimp only
          refine wpZ_two (cs := [6]) (by rfl) (by rfl) ?_
          refine all2 ?_
          refine ⟨?_, ?_⟩
          focus
            refine wpZ_pick (pend' := [6, 7, 8, 9]) (by rfl) (by rfl) ?_
            repeat (refine v_someT 3 tab_ok hN H (by rfl) ctX ?_; clear H; intro a w H; replace H := ntf H; simp only [List.drop_succ_cons, List.drop_zero, List.drop_nil])
            refine wpT_nil ?_
            try dsimp only
            refine wpZ_two (cs := []) (by rfl) (by rfl) ?_
            refine all1 ?_
            refine wpZ_pick (pend' := [7, 8, 9]) (by rfl) (by rfl) ?_
            repeat (refine v_someT 3 tab_ok hN H (by rfl) ctX ?_; clear H; intro a w H; replace H := ntf H; simp only [List.drop_succ_cons, List.drop_zero, List.drop_nil])
            refine wpT_nil ?_
            try dsimp only
            refine wpZ_two (cs := []) (by rfl) (by rfl) ?_
            refine all1 ?_
            refine wpZ_pick (pend' := [8, 9]) (by rfl) (by rfl) ?_
            repeat (refine v_someT 3 tab_ok hN H (by rfl) ctX ?_; clear H; intro a w H; replace H := ntf H; simp only [List.drop_succ_cons, List.drop_zero, List.drop_nil])
            refine wpT_nil ?_
            try dsimp only
            refine wpZ_run 1 (i := 8) (n' := 1) (pend' := [9]) (by rfl) (by rfl) (by rfl) (by rfl) (by rfl) ?_
            repeat (refine v_someT 3 tab_ok hN H (by rfl) ctX ?_; clear H; intro a w H; replace H := ntf H; simp only [List.drop_succ_cons, List.drop_zero, List.drop_nil])
            refine wpT_nil ?_
            try dsimp only
            refine wpZ_two (cs := []) (by rfl) (by rfl) ?_
            refine all1 ?_
            refine wpZ_pick (pend' := []) (by rfl) (by rfl) ?_
            repeat (refine v_someT 3 tab_ok hN H (by rfl) ctX ?_; clear H; intro a w H; replace H := ntf H; simp only [List.drop_succ_cons, List.drop_zero, List.drop_nil])
            refine wpT_nil ?_
            try dsimp only
            refine wpZ_nil ?_
            replace H := RelT.toRel H
          rotate_left 1
          focus
            refine wpZ_pick (pend' := [1, 7, 8, 9]) (by rfl) (by rfl) ?_
            repeat (refine v_someT 3 tab_ok hN H (by rfl) ctX ?_; clear H; intro a w H; replace H := ntf H; simp only [List.drop_succ_cons, List.drop_zero, List.drop_nil])
            refine wpT_nil ?_
            try dsimp only
            refine wpZ_two (cs := []) (by rfl) (by rfl) ?_
            refine all1 ?_
            refine wpZ_pick (pend' := [7, 8, 9]) (by rfl) (by rfl) ?_
            repeat (refine v_someT 3 tab_ok hN H (by rfl) ctX ?_; clear H; intro a w H; replace H := ntf H; simp only [List.drop_succ_cons, List.drop_zero, List.drop_nil])
            refine wpT_nil ?_
            try dsimp only
            refine wpZ_two (cs := []) (by rfl) (by rfl) ?_
            refine all1 ?_
            refine wpZ_pick (pend' := [8, 9]) (by rfl) (by rfl) ?_
            repeat (refine v_someT 3 tab_ok hN H (by rfl) ctX ?_; clear H; intro a w H; replace H := ntf H; simp only [List.drop_succ_cons, List.drop_zero, List.drop_nil])
            refine wpT_nil ?_
            try dsimp only
            refine wpZ_run 1 (i := 8) (n' := 1) (pend' := [9]) (by rfl) (by rfl) (by rfl) (by rfl) (by rfl) ?_
            repeat (refine v_someT 3 tab_ok hN H (by rfl) ctX ?_; clear H; intro a w H; replace H := ntf H; simp only [List.drop_succ_cons, List.drop_zero, List.drop_nil])
            refine wpT_nil ?_
            try dsimp only
            refine wpZ_two (cs := []) (by rfl) (by rfl) ?_
            refine all1 ?_
            refine wpZ_pick (pend' := []) (by rfl) (by rfl) ?_
            repeat (refine v_someT 3 tab_ok hN H (by rfl) ctX ?_; clear H; intro a w H; replace H := ntf H; simp only [List.drop_succ_cons, List.drop_zero, List.drop_nil])
            refine wpT_nil ?_
            try dsimp only
            refine wpZ_nil ?_
            replace H := RelT.toRel H
        rotate_left 2
        focus
          refine wpZ_pick (pend' := [0, 1, 7, 8, 9]) (by rfl) (by rfl) ?_
          repeat (refine v_someT 3 tab_ok hN H (by rfl) ctX ?_; clear H; intro a w H; replace H := ntf H; simp only [List.drop_succ_cons, List.drop_zero, List.drop_nil])
          refine wpT_nil ?_
          try dsimp only
          refine wpZ_two (cs := []) (by rfl) (by rfl) ?_
          refine all1 ?_
          refine wpZ_pick (pend' := [1, 7, 8, 9]) (by rfl) (by rfl) ?_
          repeat (refine v_someT 3 tab_ok hN H (by rfl) ctX ?_; clear H; intro a w H; replace H := ntf H; simp only [List.drop_succ_cons, List.drop_zero, List.drop_nil])
          refine wpT_nil ?_
          try dsimp only
          refine wpZ_two (cs := []) (by rfl) (by rfl) ?_
          refine all1 ?_
          refine wpZ_pick (pend' := [7, 8, 9]) (by rfl) (by rfl) ?_
          repeat (refine v_someT 3 tab_ok hN H (by rfl) ctX ?_; clear H; intro a w H; replace H := ntf H; simp only [List.drop_succ_cons, List.drop_zero, List.drop_nil])
          refine wpT_nil ?_
          try dsimp only
          refine wpZ_two (cs := []) (by rfl) (by rfl) ?_
          refine all1 ?_
          refine wpZ_pick (pend' := [8, 9]) (by rfl) (by rfl) ?_
          repeat (refine v_someT 3 tab_ok hN H (by rfl) ctX ?_; clear H; intro a w H; replace H := ntf H; simp only [List.drop_succ_cons, List.drop_zero, List.drop_nil])
          refine wpT_nil ?_
          try dsimp only
          refine wpZ_run 1 (i := 8) (n' := 1) (pend' := [9]) (by rfl) (by rfl) (by rfl) (by rfl) (by rfl) ?_
          repeat (refine v_someT 3 tab_ok hN H (by rfl) ctX ?_; clear H; intro a w H; replace H := ntf H; simp only [List.drop_succ_cons, List.drop_zero, List.drop_nil])
          refine wpT_nil ?_
          try dsimp only
          refine wpZ_two (cs := []) (by rfl) (by rfl) ?_
          refine all1 ?_
          refine wpZ_pick (pend' := []) (by rfl) (by rfl) ?_
          repeat (refine v_someT 3 tab_ok hN H (by rfl) ctX ?_; clear H; intro a w H; replace H := ntf H; simp only [List.drop_succ_cons, List.drop_zero, List.drop_nil])
          refine wpT_nil ?_
          try dsimp only
          refine wpZ_nil ?_
          replace H := RelT.toRel H
      all_goals
        refine mS ?_
        refine mW ?_; clear H; intro a w H
        try rw [← bas_snoc] at H
        exact ⟨(d + 1, o, ss ++ [x]), hnext, by dsimp only; omega, H.to 3 1 ⟨Nat.le_trans hN (by decide), Nat.le_trans hR (by decide)⟩ ⟨rfl, rfl, rfl, rfl, rfl, rfl, trivial⟩ rfl (by dsimp only; rw [List.length_append]; rfl) rfl rfl rfl⟩
    · have h2 : s.length < 2 := by rw [decide_eq_false_iff_not] at hb; omega
      clear hb
      have hE := hwy.e
      have hW := hwy.w
      have hsk2 := hwy.k
      have hsv2 := hwy.v
      dsimp only at hE hW hsk2 hsv2
      rw [endA_small _ _ _ _ (by rw [dgs_len]; exact h2)] at hE
      rw [wayA_small _ _ _ _ (by rw [dgs_len]; exact h2), List.append_nil] at hW
      subst hW
      clear hwy
      match s, h2 with
      | [], _ =>
        subst hE
        simp only [List.map_nil] at H
        clear hX; have hX := @hssl
        refine mW ?_; clear H; intro a w H
        refine mC H (fun hb => ?_) (fun hb => ?_)
        · simp at hb
        · refine mW ?_; clear H; intro a w H
          simp only [endB, dgs, List.map_nil, Nd.zero, Nd.av]
          refine wp_ret ?_; exact mEnd [] [0] [.cell 4 41, .tmp 5] [_, _] hN hR H
      | [x], _ =>
        subst hE
        have q1 := hsk2 x List.mem_cons_self
        have q2 := value_v x.2 (hsv2 x List.mem_cons_self)
        have q3 := valH_len x.2
        obtain ⟨kb, vb⟩ := x
        dsimp only at q1 q2 q3
        simp only [List.map_cons, List.map_nil, prA] at H
        clear hX; have hX := @hssl
        refine mW ?_; clear H; intro a w H
        refine mC H (fun hb => ?_) (fun hb => ?_)
        · refine mS ?_; refine mD 0 [8, 11] [0, 1, 2, 3] H ?_; clear H; intro gS H
          refine mT ?_; clear H; intro a w H
          refine mCallT [] [] (q2) H ?_; clear H; intro a w H
          refine mT ?_; clear H; intro a w H
          refine v_drawNil H ?_; clear H; intro H
          refine mW ?_; clear H; intro a w H
          simp only [endB, dgs, List.map_nil, List.map_cons, Nd.one, Nd.av]
          refine wp_ret ?_; exact mEnd [] [0] [.cell 4 41, .tmp 5] [_, _] hN hR H
        · simp at hb
end Go.Proofs.Ythphhnkoilcofaa
/- The document's entries: side, At. -/
namespace Go.Proofs.Ythphhnkoilcofaa
open Go Go.RowKit
def halfP (b : Bool) (d : Nat) (l : List Pr) : List Pr := l.filter fun x => bitN x.1 d == b
theorem halfP_dgs (b : Bool) (d : Nat) (l : List Pr) : dgs (halfP b d l) = half b d (dgs l) := by
  unfold dgs halfP half
  rw [List.filter_map]; rfl
theorem halfP_le (b : Bool) (d : Nat) (l : List Pr) : (halfP b d l).length ≤ l.length := List.length_filter_le _ _
theorem rootA_perm : ∀ (f d : Nat) (l m : List En), f + d = 256 → Sep d l → l.Perm m → rootA f d l = rootA f d m := by
  have small : ∀ (l m : List En), l.length < 2 → l.Perm m → l = m := fun l m hl hp => by
    match l, hl with
    | [], _ => exact (List.nil_perm.1 hp).symm
    | [x], _ => exact (List.singleton_perm.1 hp)
  intro f
  induction f with
  | zero => intro d l m hd hs hp; rw [small l m (hs.deep (by omega)) hp]
  | succ f ih =>
    intro d l m hd hs hp
    by_cases h : l.length < 2
    · rw [small l m h hp]
    · rw [rootA, rootA, if_neg h, if_neg (by rw [← hp.length_eq]; exact h), ih (d + 1) _ _ (by omega) (hs.side false) (hp.filter _), ih (d + 1) _ _ (by omega) (hs.side true) (hp.filter _)]
      rfl
theorem K32.half {l : List Pr} (h : K32 l) (b : Bool) (d : Nat) : K32 (halfP b d l) := fun x hx => h x (List.mem_filter.1 hx).1
theorem V0.half {l : List Pr} (h : V0 l) (b : Bool) (d : Nat) : V0 (halfP b d l) := fun x hx => h x (List.mem_filter.1 hx).1
end Go.Proofs.Ythphhnkoilcofaa
/- The document's List, RootAt, Root: any entries. -/
namespace Go.Proofs.Ythphhnkoilcofaa
open Go Go.RowKit
theorem sep_of (l : List Pr) (hk : K32 l) (hd : Dis l) (d : Nat) (h : ∀ x ∈ l, ∀ y ∈ l, agree d x.1 y.1) : Sep d (dgs l) := by
  unfold Sep dgs
  rw [List.pairwise_map]
  exact List.Pairwise.imp_of_mem (fun {x y} hx hy hp => ⟨h x hx y hy, fun ha => hp (agree_eq (hk x hx) (hk y hy) ha)⟩) hd
theorem root_srt (l : List Pr) (hk : K32 l) (hd : Dis l) (f d : Nat) (hf : f + d = 256) (h : ∀ x ∈ l, ∀ y ∈ l, agree d x.1 y.1) : rootA f d (dgs (srt l)) = rootA f d (dgs l) :=
  (rootA_perm f d (dgs l) (dgs (srt l)) hf (sep_of l hk hd d h) ((srt_perm l).symm.map _)).symm
end Go.Proofs.Ythphhnkoilcofaa
/- The document's RootAt, Root. -/
namespace Go.Proofs.Ythphhnkoilcofaa
open Go Go.RowKit
end Go.Proofs.Ythphhnkoilcofaa
/- The document's way of a key among entries. -/
namespace Go.Proofs.Ythphhnkoilcofaa
open Go Go.RowKit
theorem small_perm (l m : List En) (hl : l.length < 2) (hp : l.Perm m) : l = m := by
  match l, hl with
  | [], _ => exact (List.nil_perm.1 hp).symm
  | [x], _ => exact (List.singleton_perm.1 hp)
theorem wayA_perm (key : List UInt8) : ∀ (f d : Nat) (l m : List En), f + d = 256 → Sep d l → l.Perm m → wayA key f d l = wayA key f d m ∧ endA key f d l = endA key f d m := by
  intro f
  induction f with
  | zero => intro d l m hd hs hp; rw [small_perm l m (hs.deep (by omega)) hp]; exact ⟨rfl, rfl⟩
  | succ f ih =>
    intro d l m hd hs hp
    by_cases h : l.length < 2
    · rw [small_perm l m h hp]; exact ⟨rfl, rfl⟩
    · have h' : ¬ m.length < 2 := by rw [← hp.length_eq]; exact h
      have e1 := rootA_perm f (d + 1) (half (!bitN key d) d l) (half (!bitN key d) d m) (by omega) (hs.side _) (hp.filter _)
      obtain ⟨e2, e3⟩ := ih (d + 1) (half (bitN key d) d l) (half (bitN key d) d m) (by omega) (hs.side _) (hp.filter _)
      rw [wayA, wayA, endA, endA, if_neg h, if_neg h', if_neg h, if_neg h', e1, e2, e3]
      exact ⟨rfl, rfl⟩
/-- The state of the document's walk down. -/
structure Wz (key : List UInt8) (W : List (List UInt8)) (E : Nd) (i : Nat × List Pr × List (List UInt8)) : Prop where
  d : i.1 ≤ 256
  w : i.2.2 ++ wayA key (256 - i.1) i.1 (dgs i.2.1) = W
  e : endA key (256 - i.1) i.1 (dgs i.2.1) = E
  r : Sep i.1 (dgs i.2.1)
  k : K32 i.2.1
  v : V0 i.2.1
  n : i.2.1.length ≤ 34359730000
  s : i.2.2.length = i.1
theorem Wz.go {key : List UInt8} {W : List (List UInt8)} {E : Nd} {d : Nat} {s : List Pr} {ss : List (List UInt8)} (h : Wz key W E (d, s, ss)) (h2 : 1 < s.length) :
    d < 256 ∧ Wz key W E (d + 1, halfP (bitN key d) d s, ss ++ [rootA (255 - d) (d + 1) (dgs (halfP (!bitN key d) d s))]) ∧ Sep (d + 1) (dgs (halfP (!bitN key d) d s)) := by
  have hl : ¬ (dgs s).length < 2 := by rw [dgs_len]; omega
  have hd : d < 256 := by
    by_cases hd : d < 256
    · exact hd
    · exact absurd (h.r.deep (by show 256 ≤ d; omega)) (by rw [dgs_len]; show ¬ s.length < 2; omega)
  have f1 : 256 - d = (255 - d) + 1 := by omega
  have f2 : 256 - (d + 1) = 255 - d := by omega
  have hw := h.w
  have he := h.e
  have hn := h.n
  have hs := h.s
  have r1 := h.r.side (bitN key d)
  have r2 := h.r.side (!bitN key d)
  dsimp only at hw he hn hs r1 r2
  rw [f1, wayA, if_neg hl] at hw
  rw [f1, endA, if_neg hl] at he
  rw [← halfP_dgs] at r1 r2 he
  rw [← halfP_dgs, ← halfP_dgs] at hw
  refine ⟨hd, ⟨by show d + 1 ≤ 256; omega, ?_, ?_, r1, h.k.half _ _, h.v.half _ _, Nat.le_trans (halfP_le _ _ _) hn, by dsimp only; rw [List.length_append, hs]; rfl⟩, r2⟩
  · dsimp only; rw [f2, List.append_assoc]; exact hw
  · dsimp only; rw [f2]; exact he
theorem wayE_of (l : List Pr) (hk : K32 l) (hd : Dis l) (key : List UInt8) : (wayE l key).s = wayA key 256 0 (dgs l) ∧ (wayE l key).e = endA key 256 0 (dgs l) := by
  have hs := sep_of l hk hd 0 (fun x _ y _ t ht => absurd ht (Nat.not_lt_zero t))
  obtain ⟨e1, e2⟩ := wayA_perm key 256 0 (dgs l) (dgs (srt l)) rfl hs ((srt_perm l).symm.map _)
  exact ⟨e1.symm, e2.symm⟩
end Go.Proofs.Ythphhnkoilcofaa
/- Proofs as bytes: there and back, in plain Lean. -/
namespace Go.Proofs.Ythphhnkoilcofaa
open Go Go.RowKit
theorem num_two (n : Nat) (hn : n < 65536) : num 0 [UInt8.ofNat (n / 256), UInt8.ofNat n] = n := by
  simp only [num, UInt8.toNat_ofNat']; omega
theorem marks_bits (s : List (List UInt8)) : marksOf (bitsB s.length (hidesB s)) s.length = s.map (· != E0) := by
  apply List.ext_getElem
  · rw [pmarks_len, List.length_map]
  · intro k h1 h2
    rw [pmarks_len] at h1
    simp only [marksOf, List.getElem_map, List.getElem_range]
    rw [bitsB_bit _ _ _ h1, hidesB, List.getElem?_eq_getElem h1]
theorem runS_back : ∀ (s : List (List UInt8)) (r : List UInt8), (∀ h ∈ s, h.length = 32) → runS (s.map (· != E0)) (hashes s ++ r) = (s, r, false)
  | [], r, _ => rfl
  | h :: s, r, hs => by
    have h1 := hs h List.mem_cons_self
    have ih := runS_back s r fun x hx => hs x (List.mem_cons_of_mem _ hx)
    rw [List.map_cons]
    by_cases he : h = E0
    · have h2 : (h != E0) = false := by simp [he]
      have h3 : hashes (h :: s) = hashes s := by unfold hashes; rw [List.filter_cons_of_neg (p := (· != E0)) (by rw [h2]; decide)]
      rw [h2, h3, runS, if_neg (fun e => by cases e.1)]
      simp only [Bool.false_eq_true, if_false]
      rw [ih, he]
    · have h2 : (h != E0) = true := by simpa using he
      have h3 : hashes (h :: s) = h ++ hashes s := by unfold hashes; rw [List.filter_cons_of_pos (p := (· != E0)) h2, List.flatten_cons]
      rw [h2, h3, runS, if_neg (fun e => by have := e.2; simp only [List.length_append] at this; omega)]
      simp only [if_true]
      have e1 : ((h ++ hashes s) ++ r).take 32 = h := by rw [List.append_assoc, ← h1, List.take_left]
      have e2 : ((h ++ hashes s) ++ r).drop 32 = hashes s ++ r := by rw [List.append_assoc, ← h1, List.drop_left]
      rw [e1, e2, ih]
def Pf.pre (p : Pf) (r : List UInt8) : List UInt8 := [UInt8.ofNat (p.s.length / 256), UInt8.ofNat p.s.length] ++ (p.bits ++ (hashes p.s ++ r))
theorem Pf.text_pre (p : Pf) : p.text = p.pre p.e.text := rfl
theorem rdQ_pre (p : Pf) (hw : p.wf) (hn : p.s.length ≤ 256) (r : List UInt8) : rdQ (p.pre r) = (⟨p.s, dec r⟩, decide (decOk r)) := by
  have hbl : p.bits.length = (p.s.length + 7) / 8 := bitsB_len _ _
  have e1 : (p.pre r).take 2 = [UInt8.ofNat (p.s.length / 256), UInt8.ofNat p.s.length] := rfl
  have e2 : (p.pre r).drop 2 = p.bits ++ (hashes p.s ++ r) := rfl
  have e3 : ¬ (p.pre r).length < 2 := by unfold Pf.pre; simp only [List.length_append, List.length_cons, List.length_nil]; omega
  have e4 : (p.bits ++ (hashes p.s ++ r)).take ((p.s.length + 7) / 8) = p.bits := by rw [← hbl, List.take_left]
  have e5 : (p.bits ++ (hashes p.s ++ r)).drop ((p.s.length + 7) / 8) = hashes p.s ++ r := by rw [← hbl, List.drop_left]
  rw [rdQ, if_neg e3, e1, e2, num_two _ (by omega), if_neg (by omega), if_neg (by rw [List.length_append]; omega), e4, e5]
  have e6 : marksOf p.bits p.s.length = p.s.map (· != E0) := marks_bits p.s
  rw [e6, runS_back _ _ hw.s]
  rfl
theorem Pf.chk_ok {p : Pf} (h : p.chk = 0) : p.s.length ≤ 256 ∧ p.e.ok ∧ p.e.k ≠ 2 := by
  unfold Pf.chk at h
  split at h
  · cases h
  · split at h
    · rename_i h1 h2; exact ⟨by omega, h2⟩
    · cases h
theorem ntext_len {n : Nd} (hw : n.wf) (h2 : n.k ≠ 2) : n.text.length = 1 ∨ n.text.length = 65 := by
  obtain ⟨h1, h3, _, _⟩ := hw
  unfold Nd.text
  split
  · right; simp; omega
  · left; first | rfl | (rw [if_neg h2]; rfl)
theorem pback (p : Pf) (hw : p.wf) (h : p.chk = 0) : pOk p.text ∧ pDec p.text = p := by
  obtain ⟨h1, h2, h3⟩ := p.chk_ok h
  obtain ⟨d1, d2⟩ := text_dec hw.e h2
  have e : rdQ p.text = (p, true) := by rw [p.text_pre, rdQ_pre p hw h1, d2, decide_eq_true d1]
  have hp : pOk p.text := by unfold pOk; rw [e]; exact ⟨rfl, h, rfl⟩
  exact ⟨hp, by rw [pDec, if_pos hp, e]⟩
theorem plen (p : Pf) (hw : p.wf) (h : p.chk = 0) : 3 ≤ p.text.length ∧ p.text.length ≤ 8291 := by
  obtain ⟨h1, h2, h3⟩ := p.chk_ok h
  have hl := ntext_len hw.e h3
  have hbl : p.bits.length = (p.s.length + 7) / 8 := bitsB_len _ _
  have hh := hashes_len p.s hw.s
  simp only [Pf.text, List.length_append, List.length_cons, List.length_nil]
  omega
end Go.Proofs.Ythphhnkoilcofaa
/- A contract that says less: rows that nobody will make longer. -/
namespace Go.Proofs.Ythphhnkoilcofaa
open Go Go.RowKit
theorem VC.less1 {P : Program} {f : FuncId} {args : List AV} {rws : List (TypeId × Nat)} {r r' : AV} (h : VC P f args rws r) (ha : isAny r = false) (ht : ∀ az, r ≠ .tup az) (hs : sub 4 r r') (hl : low 0 0 4 r' = true) : VC P f args [] r' := by
  refine ⟨h.1, fun w N vs HI h1 h2 => (h.2 w N vs HI h1 h2).mono ?_⟩
  rintro e w' ⟨g, v, he, HI', hv⟩
  have hnb : N.bx.length ≤ 0 := by rw [HI.br.len]; exact Nat.le_refl _
  have hnr : N.rw.length ≤ 0 := by have := congrArg List.length HI.wr; rw [List.length_map] at this; rw [this]; exact Nat.le_refl _
  refine ⟨g.cut 0 0, v, he, Inv.cut (st := ⟨[], [], [], rws⟩) HI' hnb hnr rfl, ?_⟩
  have h1 : RV1 g r v := hv.rv1 ha ht
  exact RV.low_ (d := 3) ((h1.sub_ hs).rv) hl
theorem VC.lessT {P : Program} {f : FuncId} {args : List AV} {rws : List (TypeId × Nat)} {az az' : List AV} (h : VC P f args rws (.tup az)) (hs : allP (sub 4) az az') (hl : az'.all (low 0 0 3) = true) : VC P f args [] (.tup az') := by
  refine ⟨h.1, fun w N vs HI h1 h2 => (h.2 w N vs HI h1 h2).mono ?_⟩
  rintro e w' ⟨g, v, he, HI', hv⟩
  have hnb : N.bx.length ≤ 0 := by rw [HI.br.len]; exact Nat.le_refl _
  have hnr : N.rw.length ≤ 0 := by have := congrArg List.length HI.wr; rw [List.length_map] at this; rw [this]; exact Nat.le_refl _
  refine ⟨g.cut 0 0, v, he, Inv.cut (st := ⟨[], [], [], rws⟩) HI' hnb hnr rfl, ?_⟩
  refine RV.low_ (d := 3) (a := .tup az') ?_ (by simpa only [low] using hl)
  obtain ⟨us, e1, e2, e3⟩ := hv
  have key : ∀ (az az' : List AV), allP (sub 4) az az' → az.length = az'.length ∧ ∀ (i : Nat) b, az'[i]? = some b → ∃ a, az[i]? = some a ∧ sub 4 a b := by
    intro az
    induction az with
    | nil => intro az' h; cases az' with
      | nil => exact ⟨rfl, fun i b hb => by simp at hb⟩
      | cons _ _ => exact h.elim
    | cons a az ih => intro az' h; cases az' with
      | nil => exact h.elim
      | cons b az' =>
        obtain ⟨h1, h2⟩ := h
        obtain ⟨k1, k2⟩ := ih az' h2
        refine ⟨by simp [k1], fun i c hc => ?_⟩
        cases i with
        | zero => simp at hc; subst hc; exact ⟨a, rfl, h1⟩
        | succ i => simp at hc; obtain ⟨x, q1, q2⟩ := k2 i c hc; exact ⟨x, by simpa using q1, q2⟩
  obtain ⟨k1, k2⟩ := key az az' hs
  refine ⟨us, e1, e2.trans k1, fun i b u hb hu => ?_⟩
  obtain ⟨x, q1, q2⟩ := k2 i b hb
  exact (e3 i x u q1 hu).sub_ q2
end Go.Proofs.Ythphhnkoilcofaa
/- Ways among entries, plain: they lead up to the root, and say what is there; the error of node.Way. -/
namespace Go.Proofs.Ythphhnkoilcofaa
open Go Go.RowKit
theorem endB_sum {m : List En} (h : ∀ x ∈ m, True) : sum (endB m).text = base m := by
  match m with
  | [] => simp [endB, base, Nd.text, Nd.zero]
  | x :: _ => simp [endB, base, Nd.text, Nd.one, leafH]
theorem up_way (key : List UInt8) : ∀ (f d : Nat) (m : List En), f + d = 256 → Sep d m → upL key d (wayA key f d m) (sum (endA key f d m).text) = rootA f d m := by
  intro f
  induction f with
  | zero => intro d m hd hs; rw [wayA, endA, rootA_small 0 d m (hs.deep (by omega)), upL, endB_sum fun _ _ => trivial]
  | succ f ih =>
    intro d m hd hs
    by_cases h : m.length < 2
    · rw [wayA_small _ _ _ _ h, endA_small _ _ _ _ h, rootA_small _ _ _ h, upL, endB_sum fun _ _ => trivial]
    · rw [wayA, endA, rootA, if_neg h, if_neg h, if_neg h, upL, ih (d + 1) _ (by omega) (hs.side _), stepH]
      cases bitN key d <;> rfl
theorem endA_near (key : List UInt8) : ∀ (f d : Nat) (m : List En), f + d = 256 → Sep d m → (∀ x ∈ m, agree d x.1 key) → (endA key f d m).k = 1 → agree (d + (wayA key f d m).length) (endA key f d m).key key := by
  have small : ∀ (d : Nat) (m : List En), (∀ x ∈ m, agree d x.1 key) → (endB m).k = 1 → agree d (endB m).key key := fun d m h hk => by
    match m, h, hk with
    | [], _, hk => simp [endB, Nd.zero] at hk
    | x :: _, h, _ => exact h x List.mem_cons_self
  intro f
  induction f with
  | zero => intro d m hd hs h hk; exact small d m h hk
  | succ f ih =>
    intro d m hd hs h hk
    by_cases h2 : m.length < 2
    · rw [wayA_small _ _ _ _ h2]; rw [endA_small _ _ _ _ h2] at hk ⊢; exact small d m h hk
    · rw [wayA, if_neg h2]
      rw [endA, if_neg h2] at hk ⊢
      have := ih (d + 1) _ (by omega) (hs.side _) (fun x hx t ht => by
        obtain ⟨hx1, hx2⟩ := List.mem_filter.1 hx
        by_cases e : t < d
        · exact h x hx1 t e
        · rw [show t = d by omega]; simpa using hx2) hk
      rw [List.length_cons, show d + ((wayA key f (d + 1) (half (bitN key d) d m)).length + 1) = d + 1 + (wayA key f (d + 1) (half (bitN key d) d m)).length by omega]
      exact this
theorem endA_there (key : List UInt8) : ∀ (f d : Nat) (m : List En) (v : List UInt8), f + d = 256 → Sep d m → (key, v) ∈ m → endA key f d m = Nd.one key v := by
  have small : ∀ (m : List En) (v : List UInt8), m.length < 2 → (key, v) ∈ m → endB m = Nd.one key v := fun m v hl h => by
    match m, hl, h with
    | [x], _, h => rw [← List.mem_singleton.1 h]; rfl
  intro f
  induction f with
  | zero => intro d m v hd hs h; exact small m v (hs.deep (by omega)) h
  | succ f ih =>
    intro d m v hd hs h
    by_cases h2 : m.length < 2
    · rw [endA_small _ _ _ _ h2]; exact small m v h2 h
    · rw [endA, if_neg h2]
      exact ih (d + 1) _ v (by omega) (hs.side _) (List.mem_filter.2 ⟨h, by simp⟩)
theorem endA_mem (key : List UInt8) : ∀ (f d : Nat) (m : List En), (endA key f d m).k = 1 → ∃ x ∈ m, (endA key f d m).key = x.1 := by
  have small : ∀ (m : List En), (endB m).k = 1 → ∃ x ∈ m, (endB m).key = x.1 := fun m h => by
    match m, h with
    | [], h => simp [endB, Nd.zero] at h
    | x :: _, _ => exact ⟨x, List.mem_cons_self, rfl⟩
  intro f
  induction f with
  | zero => intro d m h; exact small m h
  | succ f ih =>
    intro d m h
    by_cases h2 : m.length < 2
    · rw [endA_small _ _ _ _ h2] at h ⊢; exact small m h
    · rw [endA, if_neg h2] at h ⊢
      obtain ⟨x, hx, e⟩ := ih (d + 1) _ h
      exact ⟨x, (List.mem_filter.1 hx).1, e⟩
theorem endA_form (key : List UInt8) : ∀ (f d : Nat) (m : List En), endA key f d m = Nd.zero ∨ ∃ x ∈ m, endA key f d m = Nd.one x.1 x.2 := by
  have small : ∀ (m : List En), endB m = Nd.zero ∨ ∃ x ∈ m, endB m = Nd.one x.1 x.2 := fun m => by
    match m with
    | [] => exact .inl rfl
    | x :: _ => exact .inr ⟨x, List.mem_cons_self, rfl⟩
  intro f
  induction f with
  | zero => intro d m; exact small m
  | succ f ih =>
    intro d m
    by_cases h2 : m.length < 2
    · rw [endA_small _ _ _ _ h2]; exact small m
    · rw [endA, if_neg h2]
      rcases ih (d + 1) (half (bitN key d) d m) with h | ⟨x, hx, e⟩
      · exact .inl h
      · exact .inr ⟨x, (List.mem_filter.1 hx).1, e⟩
theorem wayE_wf (l : List Pr) (hk : K32 l) (hd : Dis l) (key : List UInt8) : (wayE l key).wf ∧ (wayE l key).chk = 0 := by
  obtain ⟨e1, e2⟩ := wayE_of l hk hd key
  have hf := endA_form key 256 0 (dgs l)
  rw [← e2] at hf
  have hl := wayA_le key 256 0 (dgs l)
  rw [← e1] at hl
  refine ⟨⟨fun h hh => wayA_w key 256 0 (dgs l) h (e1 ▸ hh), ?_⟩, ?_⟩
  · rcases hf with h | ⟨x, hx, h⟩
    · rw [h]; exact zero_wf
    · rw [h]
      obtain ⟨p, hp, rfl⟩ := List.mem_map.1 hx
      exact Nd.one_wf (hk p hp) (valH_len _)
  · unfold Pf.chk
    rw [if_neg (by omega), if_pos]
    rcases hf with h | ⟨x, hx, h⟩
    · rw [h]; exact ⟨zero_ok, by decide⟩
    · rw [h]; exact ⟨by simp [Nd.ok, Nd.bare, Nd.one], by simp [Nd.one]⟩
theorem wayE_top (l : List Pr) (hk : K32 l) (hd : Dis l) (key : List UInt8) : topH key (wayE l key) = rootA 256 0 (dgs l) := by
  obtain ⟨e1, e2⟩ := wayE_of l hk hd key
  have hs := sep_of l hk hd 0 (fun x _ y _ t ht => absurd ht (Nat.not_lt_zero t))
  rw [topH, e1, e2]
  exact up_way key 256 0 (dgs l) rfl hs
theorem rootE_ok (l : List Pr) (hk : K32 l) (he : errP l = 0) : rootE l 0 = (rootA 256 0 (dgs l), 0) := by
  obtain ⟨hle, hdis, hvals⟩ := errP_ok he
  have hall : ∀ x ∈ l, ∀ y ∈ l, agree 0 x.1 y.1 := fun x _ y _ t ht => absurd ht (Nat.not_lt_zero t)
  unfold rootE
  rw [if_neg (by omega), if_neg (show ¬ errP l ≠ 0 by omega), if_neg (fun h => by omega)]
  show (rootA 256 0 (dgs (srt l)), 0) = _
  rw [root_srt l hk hdis 256 0 (by omega) hall]
theorem rootE_bad (l : List Pr) (he : errP l ≠ 0) : rootE l 0 = (z32, errP l) := by
  unfold rootE; rw [if_neg (by omega), if_pos he]
/-- What the way's bytes say. -/
theorem way_says (l : List Pr) (hk : K32 l) (he : errP l = 0) (key : List UInt8) (hk32 : key.length = 32) (root : List UInt8) :
    vRd root key (wayE l key).text = if root ≠ rootA 256 0 (dgs l) then (false, z32, 11) else if (endA key 256 0 (dgs l)).k = 1 ∧ (endA key 256 0 (dgs l)).key = key then (true, (endA key 256 0 (dgs l)).v, 0) else (false, z32, 0) := by
  obtain ⟨hle, hdis, hvals⟩ := errP_ok he
  obtain ⟨e1, e2⟩ := wayE_of l hk hdis key
  obtain ⟨hw, hc⟩ := wayE_wf l hk hdis key
  obtain ⟨b1, b2⟩ := pback _ hw hc
  have ht := wayE_top l hk hdis key
  have hs := sep_of l hk hdis 0 (fun x _ y _ t ht => absurd ht (Nat.not_lt_zero t))
  have hn := endA_near key 256 0 (dgs l) rfl hs (fun x _ t ht => absurd ht (Nat.not_lt_zero t))
  have hl := wayA_le key 256 0 (dgs l)
  rw [← e1, ← e2] at hn
  rw [← e1] at hl
  unfold vRd
  rw [if_neg (fun h => h b1), vTop, if_pos b1, b2, ht, ← e2]
  by_cases h : root = rootA 256 0 (dgs l)
  · rw [if_neg (show ¬ root ≠ _ from fun hh => hh h), if_neg]
    rintro (h1 | ⟨h1, h2⟩)
    · exact h1 h.symm
    · refine h2 ((com_ge hl).2 ?_)
      have := hn h1
      rwa [Nat.zero_add] at this
  · rw [if_pos (show root ≠ _ from h), if_pos (.inl fun e => h e.symm)]
set_option maxRecDepth 20000 in
theorem nwayBad_v (l : List Pr) (hk : K32 l) (hl : l.length ≤ 34359730000) (key : List UInt8) (hk32 : key.length = 32) (he : errP l ≠ 0) :
    VC Try.prog 58 [.sl prT (l.map prA) none, .ba key] [] (.tup [Pf.zero.av, errv (errP l : Int)]) := by
  have hs := sorted_v l hk (by omega)
  have hr : resP l = .tup [.sl prT [] none, .v (.int .i64 (errP l : Int))] := by unfold resP; rw [if_neg he]
  rw [hr] at hs
  generalize errP l = er at *
  refine mE Try.func58 ?_; intro N w0 a w hN hR H
  refine mW ?_; clear H; intro a w H
  refine mCall [] [] (hs) H ?_; clear H; intro a w H; try refine wpList_nil ?_
  refine mW ?_; clear H; intro a w H
  refine mC H (fun hb => ?_) (fun hb => ?_)
  · refine mW ?_; clear H; intro a w H
    simp only [Pf.zero, Pf.av, Nd.av, Nd.zero, bas, List.map_nil]
    try simp only [hz] at H
    refine wp_ret ?_; exact mEnd [] [] [.cell 4 41, .tmp 5] [_, _] hN hR H
  · simp at hb; omega
end Go.Proofs.Ythphhnkoilcofaa
/- The texts of a proof, from the top on: extract.Texts. -/
namespace Go.Proofs.Ythphhnkoilcofaa
open Go Go.RowKit
end Go.Proofs.Ythphhnkoilcofaa
/- Claims that are accepted, and where two proofs part: extract. -/
namespace Go.Proofs.Ythphhnkoilcofaa
open Go Go.RowKit
/-- A claim. -/
structure Cl where
  t : Bool
  v : List UInt8
  b : List UInt8
def Cl.av (c : Cl) : AV := .st [.v (.bool c.t), .bs c.v none, .bs c.b none]
set_option maxRecDepth 20000 in
theorem tagClash_v (x y : List UInt8) (hx : x.length ≤ 34359738000) (hy : y.length ≤ 34359738000) : VC Try.prog 71 [.st [.bs x none, .bs y none]] [] (.v (.bool (!decide (x = y) && decide (sum x = sum y)))) := by
  have h1 := compare_v x y
  have hz1 := cmp_zero x y
  have h2 := sum_v x hx
  have h3 := sum_v y hy
  have l2 := sum_length x
  have l3 := sum_length y
  generalize sum x = u at *
  generalize sum y = v at *
  refine mE Try.func71 ?_; intro N w0 a w hN hR H
  refine mW ?_; clear H; intro a w H
  refine mS ?_; refine mD 1 [4, 9, 12] [10, 11] H ?_; clear H; intro gS H; refine mT ?_; clear H; intro a w H
  refine mCallT [] [] (h1) H ?_; clear H; intro a w H
  refine mT ?_; clear H; intro a w H
  refine mCallTG [] [] (h2) H ?_; clear H; intro a w H
  refine mT ?_; clear H; intro a w H
  refine mCallTG [] [] (h3) H ?_; clear H; intro a w H
  refine mT ?_; clear H; intro a w H
  refine v_drawNil H ?_; clear H; intro H
  have e1 : (!decide (x = y) && decide (u = v)) = (bif !decide (Lib.compareBytes x y = 0) then decide (u = v) else false) := by
    rw [show decide (Lib.compareBytes x y = 0) = decide (x = y) from decide_eq_decide.2 hz1]
    cases decide (x = y) <;> rfl
  rw [e1]
  refine wp_ret ?_; exact mEnd [] [] [.tmp 2] [_] hN hR H
theorem valueText_v (v : List UInt8) (hv : v.length ≤ 34359730000) : VC Try.prog 72 [.bs v none] [(5, (3 :: v).length)] (.bs (3 :: v) (some 0)) := by
  have h := text_v 3 [v] (by simp; omega) (by simp)
  have e : [v].flatten = v := by simp
  rw [e] at h
  generalize 3 :: v = x at *
  refine mE Try.func72 ?_; intro N w0 a w hN hR H
  refine mW ?_; clear H; intro a w H
  refine mCall [] [] (h) H ?_; clear H; intro a w H; try refine wpList_nil ?_
  refine mW ?_; clear H; intro a w H
  refine wp_ret ?_; exact mEnd [] [1] [.tmp 2] [_] hN hR H
end Go.Proofs.Ythphhnkoilcofaa
/- The statement VerifyWays, in values. -/
namespace Go.Proofs.Ythphhnkoilcofaa
open Go Go.RowKit
theorem nway0_v (l : List Pr) (hk : K32 l) (hl : l.length ≤ 34359730000) (key : List UInt8) (hk32 : key.length = 32) (he : errP l = 0) :
    VC Try.prog 58 [.sl prT (l.map prA) none, .ba key] [] (.tup [(wayE l key).av, errv 0]) := by
  refine (nway_v l hk hl key hk32 he).lessT ⟨⟨⟨rfl, rfl⟩, sub_refl _ _, trivial⟩, rfl, trivial⟩ ?_
  rfl
theorem encP_v (p : Pf) (hw : p.wf) (h : p.chk = 0) : VC Try.prog 69 [p.av] [] (.tup [.bs p.text none, errv 0]) :=
  (encodeP_ok p hw h).lessT ⟨rfl, rfl, trivial⟩ rfl
theorem valText0_v (v : List UInt8) (hv : v.length ≤ 34359730000) : VC Try.prog 72 [.bs v none] [] (.bs (3 :: v) none) :=
  (valueText_v v hv).less1 rfl (fun az h => by cases h) rfl rfl
theorem no_empty : ¬ pOk [] := fun h => by
  have := h.1
  revert this
  decide
theorem there_mem {l : List Pr} {key : List UInt8} (h : key ∈ keysP l) : ∃ v, (key, v) ∈ l := by
  obtain ⟨p, hp, e⟩ := List.mem_map.1 h
  exact ⟨p.2, by rw [← e]; exact hp⟩
/-- What the way says: the entry's digest, or that it isn't there. -/
theorem way_there (l : List Pr) (hk : K32 l) (he : errP l = 0) (key v : List UInt8) (h : (key, v) ∈ l) : endA key 256 0 (dgs l) = Nd.one key (valH v) := by
  obtain ⟨hle, hdis, hvals⟩ := errP_ok he
  have hs := sep_of l hk hdis 0 (fun x _ y _ t ht => absurd ht (Nat.not_lt_zero t))
  exact endA_there key 256 0 (dgs l) (valH v) rfl hs (List.mem_map.2 ⟨(key, v), h, rfl⟩)
theorem way_not (l : List Pr) (key : List UInt8) (h : key ∉ keysP l) : ¬ ((endA key 256 0 (dgs l)).k = 1 ∧ (endA key 256 0 (dgs l)).key = key) := fun ⟨h1, h2⟩ => by
  obtain ⟨x, hx, e⟩ := endA_mem key 256 0 (dgs l) h1
  obtain ⟨p, hp, rfl⟩ := List.mem_map.1 hx
  exact h (List.mem_map.2 ⟨p, hp, by rw [← h2, e]⟩)
theorem pres_there (l : List Pr) (hk : K32 l) (he : errP l = 0) (key v x : List UInt8) (hk32 : key.length = 32) (h : (key, v) ∈ l) :
    vPres (rootA 256 0 (dgs l)) key x (wayE l key).text = (decide (x.length ≤ 1024) && decide (valH v = valH x)) := by
  unfold vPres
  rw [way_says l hk he key hk32, if_neg (fun h => h rfl), if_pos (by rw [way_there l hk he key v h]; exact ⟨rfl, rfl⟩), way_there l hk he key v h]
  by_cases e : valH v = valH x <;> by_cases e2 : x.length ≤ 1024 <;> simp [Nd.one, e, e2]
theorem abs_iff (l : List Pr) (hk : K32 l) (he : errP l = 0) (key : List UInt8) (hk32 : key.length = 32) :
    vAbs (rootA 256 0 (dgs l)) key (wayE l key).text = decide (key ∉ keysP l) := by
  unfold vAbs
  by_cases h : key ∈ keysP l
  · obtain ⟨v, hv⟩ := there_mem h
    rw [way_says l hk he key hk32, if_neg (fun h => h rfl), if_pos (by rw [way_there l hk he key v hv]; exact ⟨rfl, rfl⟩)]
    simp [h]
  · rw [way_says l hk he key hk32, if_neg (fun h => h rfl), if_neg (way_not l key h)]
    simp [h]
set_option maxRecDepth 20000 in
set_option maxHeartbeats 8000000 in
theorem verifyWays_v (l : List Pr) (hk : K32 l) (hl : l.length ≤ 1048576) (hlv : V0 l) (key other value : List UInt8) (hk32 : key.length = 32) (ho : other.length = 32) (hv : value.length ≤ 1048576) :
    VC Try.prog 10 [.sl prT (l.map prA) none, .ba key, .ba other, .bs value none] [] (.v (.bool true)) := by
  have hml : (l.map prA).length = l.length := List.length_map ..
  have hk40 := hk.take 40
  have hlv40 := hlv.take 40
  have hl40 : (l.take 40).length ≤ 40 := by rw [List.length_take]; omega
  have ht40 : (l.map prA).take 40 = (l.take 40).map prA := by rw [List.map_take]
  have hsame : ¬ 40 < l.length → l.take 40 = l := fun h => List.take_of_length_le (by omega)
  generalize hm : l.take 40 = m at *
  clear hlv hk
  refine mE Try.func10 ?_; intro N w0 a w hN hR H
  have hX := @hml
  refine mW ?_; clear H; intro a w H
  clear hX
  replace H := nf H
  revert a w
  apply cutH (R := fun a w => Rel Try.prog w0 N Try.f10.ntmps ⟨[(27, none, .sl prT (m.map prA) none), (5, none, .ptr 0 []), (6, none, .ptr 1 []), (8, none, .v (.bool false)), (0, none, .sl prT (m.map prA) none), (3, none, .bs value none)], [(.ba 32, .ba key), (.ba 32, .ba other)], [], []⟩ a w)
  · intro key1 a w H
    refine mC H (fun hb => ?_) (fun hb => ?_)
    · have hlt : (40 : Int) < (l.length : Int) := by rw [decide_eq_true_eq] at hb; exact hb
      have hX := And.intro @hml (@ht40)
      refine mW ?_; clear H; intro a w H
      exact key1 _ _ (H.to 2 0 ⟨Nat.le_trans hN (by decide), hR⟩ ⟨rfl, rfl, rfl, rfl, rfl, rfl, trivial⟩ rfl rfl rfl rfl rfl)
    · have h40 : ¬ 40 < l.length := by rw [decide_eq_false_iff_not] at hb; omega
      have hlm : l = m := (hsame h40).symm
      rw [hlm] at H
      have hX := And.intro @hml (@ht40)
      refine mW ?_; clear H; intro a w H
      exact key1 _ _ (H.to 2 0 ⟨Nat.le_trans hN (by decide), hR⟩ ⟨rfl, rfl, rfl, rfl, rfl, rfl, trivial⟩ rfl rfl rfl rfl rfl)
  intro a w H
  clear hm hsame ht40 hml hl
  clear l
  have c1 := nroot0_v m hk40 (by omega)
  have hz2 := z32_len
  by_cases he : errP m = 0
  · have c2 := nway0_v m hk40 (by omega) key hk32 he
    obtain ⟨hle, hdis, hvals⟩ := errP_ok he
    obtain ⟨hpw, hpc⟩ := wayE_wf m hk40 hdis key
    have c4 := encP_v _ hpw hpc
    have hpl := plen _ hpw hpc
    rw [rootE_ok m hk40 he] at c1
    have hrl := rootA_len 256 0 (dgs m)
    have f1 := pres_there m hk40 he key
    have f2 := abs_iff m hk40 he key hk32
    have f3 := way_says m hk40 he key hk32 other
    have c5 := vAbs_v (rootA 256 0 (dgs m)) key (wayE m key).text hrl hk32 (by omega)
    have c6 := vRead_v other key (wayE m key).text ho hk32 (by omega)
    have c7 := fun (x : List UInt8) (hx : x.length ≤ 34359730000) => vPres_v (rootA 256 0 (dgs m)) key x (wayE m key).text hrl hk32 hx (by omega)
    rw [f2] at c5
    generalize rootA 256 0 (dgs m) = r at *
    obtain ⟨b, hb0⟩ : ∃ b, b = (wayE m key).text := ⟨_, rfl⟩
    rw [← hb0] at c4 c5 c6 c7 f1 f3 hpl
    clear hb0 f2
    obtain ⟨g1, g2, g3, g4⟩ := id hpw.e
    have hps := hpw.s
    generalize wayE m key = p at *
    obtain ⟨ps, pn⟩ := p
    dsimp only at g1 g2 g3 g4 hps
    have hpsl := bas_len ps
    simp only [Pf.av, Nd.av] at c2 c4
    have hX := @hrl
    refine mCall [] [] (c1) H ?_; clear H; intro a w H; try refine wpList_nil ?_
    refine mW ?_; clear H; intro a w H
    refine mCall [] [] (c2) H ?_; clear H; intro a w H; try refine wpList_nil ?_
    refine mW ?_; clear H; intro a w H
    refine mC H (fun hb => ?_) (fun hb => ?_)
    · simp at hb
    · clear hb
      refine mW ?_; clear H; intro a w H
      refine mCall [] [] (c4) H ?_; clear H; intro a w H; try refine wpList_nil ?_
      refine mW ?_; clear H; intro a w H
      refine mC H (fun hb => ?_) (fun hb => ?_)
      · simp at hb
      · clear hb
        refine mW ?_; clear H; intro a w H
        replace H := mK [0, 3, 5, 6, 8, 9, 15, 17, 18] 3 0 hN hR H
        have H := v_ref H 9 2 (Nat.le_trans hN (by decide)) rfl rfl rfl
        simp only [nilT, strip, List.map_cons, List.map_nil, reduceIte, Nat.reduceEqDiff] at H
        have H := v_ref H 6 1 (Nat.le_trans hN (by decide)) rfl rfl rfl
        simp only [nilT, strip, List.map_cons, List.map_nil, reduceIte, Nat.reduceEqDiff] at H
        have H := v_ref H 5 0 (Nat.le_trans hN (by decide)) rfl rfl rfl
        simp only [nilT, strip, List.map_cons, List.map_nil, reduceIte, Nat.reduceEqDiff] at H
        replace H := mK [0, 3, 5, 6, 8, 9, 15, 17, 18] 0 0 hN hR H
        have H := v_fz H
        simp only [List.filter_cons, List.filter_nil, List.length_cons, List.length_nil, Nat.reduceAdd, Nat.zero_add, Nat.lt_irrefl, decide_false, Bool.false_eq_true, reduceIte] at H
        refine v_loop (fun k : Nat => ⟨[(18, none, .v (.int .i64 (k : Int))), (17, none, .v (.bool (decide (key ∈ keysP (m.take k))))), (15, none, .bs b none), (9, none, .ref (.ba 32) (.ba r)), (8, none, .v (.bool false)), (6, none, .ref (.ba 32) (.ba other)), (5, none, .ref (.ba 32) (.ba key)), (0, none, .sl prT (m.map prA) none), (3, none, .bs value none)], [], [], []⟩) (fun k => k ≤ m.length) (fun k => m.length - k) 0 (Nat.zero_le _) (H.to 0 0 ⟨hN, hR⟩ ⟨rfl, rfl, rfl, rfl, rfl, rfl, rfl, rfl, rfl, trivial⟩ rfl rfl rfl rfl rfl) ?_
        clear H
        intro k a w hk1 H
        have hmm : (m.map prA).length = m.length := List.length_map ..
        clear hX; have hX := @hmm
        refine mW ?_; clear H; intro a w H
        refine mC H (fun hb => ?_) (fun hb => ?_)
        · have hlt : k < m.length := by rw [decide_eq_true_eq] at hb; omega
          clear hb
          have g1 := prA_get m k hlt
          have w1 := hk40 _ (List.getElem_mem hlt)
          have v1 := hvals _ (List.getElem_mem hlt)
          have m1 := List.getElem_mem hlt
          have htk : keysP (m.take (k + 1)) = keysP (m.take k) ++ [m[k].1] := by unfold keysP; rw [List.take_succ_eq_append_getElem hlt, List.map_append]; rfl
          generalize m[k] = q at *
          obtain ⟨kb, vb⟩ := q
          dsimp only at g1 w1 v1 m1 htk
          clear hX; have hX := And.intro @hmm (@g1)
          have hY := And.intro @w1 (@hk32)
          refine mS ?_; refine mD 0 [] [] H ?_; clear H; intro gS H
          refine mTN 3 hN H ?_; clear H; intro a w H; simp only [List.drop_succ_cons, List.drop_zero, List.drop_nil]
          refine mT ?_; clear H; intro a w H
          refine v_drawNil H ?_; clear H; intro H
          refine mC H (fun hb => ?_) (fun hb => ?_)
          · have hkk : kb = key := by simpa using hb
            clear hb
            subst hkk
            have d1 := c7 vb (by omega)
            rw [f1 vb vb hk32 m1, decide_eq_true v1, decide_eq_true (show valH vb = valH vb from rfl)] at d1
            have d2 := c7 value (by omega)
            rw [f1 vb value hk32 m1] at d2
            have hin : decide (kb ∈ keysP (m.take (k + 1))) = true := by rw [htk]; simp
            clear hX
            clear hY
            revert a w
            apply cutH (R := fun a w => Rel Try.prog w0 N Try.f10.ntmps ⟨[(115, none, .v (.bool false)), (18, none, .v (.int .i64 (k : Int))), (17, none, .v (.bool true)), (15, none, .bs b none), (9, none, .ref (.ba 32) (.ba r)), (8, none, .v (.bool false)), (6, none, .ref (.ba 32) (.ba other)), (5, none, .ref (.ba 32) (.ba kb)), (0, none, .sl prT (m.map prA) none), (3, none, .bs value none)], [], [], []⟩ a w)
            · intro key1 a w H
              cases hP : (decide (value.length ≤ 1024) && decide (valH vb = valH value)) with
              | false =>
                rw [hP] at d2
                have hX := And.intro @hmm (@g1)
                refine mW ?_; clear H; intro a w H
                refine mS ?_; refine mD 0 [8, 15, 23, 28, 34, 36] [29, 30, 31, 32, 33] H ?_; clear H; intro gS H
                refine mTN 5 hN H ?_; clear H; intro a w H; simp only [List.drop_succ_cons, List.drop_zero, List.drop_nil]
                refine mTN 3 hN H ?_; clear H; intro a w H; simp only [List.drop_succ_cons, List.drop_zero, List.drop_nil]
                refine mCallT [] [] (d1) H ?_; clear H; intro a w H
                refine mTN 2 hN H ?_; clear H; intro a w H; simp only [List.drop_succ_cons, List.drop_zero, List.drop_nil]
                refine mTN 4 hN H ?_; clear H; intro a w H; simp only [List.drop_succ_cons, List.drop_zero, List.drop_nil]
                replace H := v_knownT H 86 false (by rfl)
                simp only [unG, gdEq, Nat.reduceBEq, cond_true, cond_false] at H
                replace H := ntf H
                refine v_guardT H (by rfl) (by rfl) (by rfl) ?_
                refine mCallT [] [] (d2) H ?_; clear H; intro a w H
                refine mTN 1 hN H ?_; clear H; intro a w H; simp only [List.drop_succ_cons, List.drop_zero, List.drop_nil]
                replace H := v_knownT H 86 false (by rfl)
                simp only [unG, gdEq, Nat.reduceBEq, cond_true, cond_false] at H
                replace H := ntf H
                refine mSkT (.v (.bool false)) H ?_; clear H; intro a w H
                refine mSkT (.v (.bool false)) H ?_; clear H; intro a w H
                refine mSkT (.v (.bool false)) H ?_; clear H; intro a w H
                refine mSkT (.v (.bool false)) H ?_; clear H; intro a w H
                refine mSkT (.v (.bool false)) H ?_; clear H; intro a w H
                refine mSkT (.v (.bool false)) H ?_; clear H; intro a w H
                refine mSkT (.v (.bool false)) H ?_; clear H; intro a w H
                refine mSkT (.v (.bool false)) H ?_; clear H; intro a w H
                refine mTN 2 hN H ?_; clear H; intro a w H; simp only [List.drop_succ_cons, List.drop_zero, List.drop_nil]
                replace H := v_knownT H 86 false (by rfl)
                simp only [unG, gdEq, Nat.reduceBEq, cond_true, cond_false] at H
                replace H := ntf H
                refine mSkT (.v (.bool false)) H ?_; clear H; intro a w H
                refine mSkT (.v (.bool false)) H ?_; clear H; intro a w H
                refine mSkT (.v (.bool false)) H ?_; clear H; intro a w H
                refine mSkT (.v (.bool false)) H ?_; clear H; intro a w H
                refine mSkT (.v (.bool false)) H ?_; clear H; intro a w H
                refine mSkT (.v (.bool false)) H ?_; clear H; intro a w H
                refine mSkT (.v (.bool false)) H ?_; clear H; intro a w H
                refine mSkT (.v (.bool false)) H ?_; clear H; intro a w H
                refine mSkT (.v (.bool false)) H ?_; clear H; intro a w H
                refine mSkT (.v (.bool false)) H ?_; clear H; intro a w H
                refine mSkT (.v (.bool false)) H ?_; clear H; intro a w H
                refine mT ?_; clear H; intro a w H
                refine v_drawNil H ?_; clear H; intro H
                exact key1 _ _ (H.to 0 0 ⟨hN, hR⟩ ⟨rfl, rfl, rfl, rfl, rfl, rfl, rfl, rfl, rfl, rfl, trivial⟩ rfl rfl rfl rfl rfl)
              | true =>
                have ds := same_v value vb
                rw [hP] at d2
                have hX := And.intro @hmm (@g1)
                refine mW ?_; clear H; intro a w H
                refine mS ?_; refine mD 0 [8, 15, 23, 28, 34, 36] [29, 30, 31, 32, 33] H ?_; clear H; intro gS H
                refine mTN 5 hN H ?_; clear H; intro a w H; simp only [List.drop_succ_cons, List.drop_zero, List.drop_nil]
                refine mTN 3 hN H ?_; clear H; intro a w H; simp only [List.drop_succ_cons, List.drop_zero, List.drop_nil]
                refine mCallT [] [] (d1) H ?_; clear H; intro a w H
                refine mTN 2 hN H ?_; clear H; intro a w H; simp only [List.drop_succ_cons, List.drop_zero, List.drop_nil]
                refine mTN 4 hN H ?_; clear H; intro a w H; simp only [List.drop_succ_cons, List.drop_zero, List.drop_nil]
                replace H := v_knownT H 86 false (by rfl)
                simp only [unG, gdEq, Nat.reduceBEq, cond_true, cond_false] at H
                replace H := ntf H
                refine v_guardT H (by rfl) (by rfl) (by rfl) ?_
                refine mCallT [] [] (d2) H ?_; clear H; intro a w H
                refine mTN 1 hN H ?_; clear H; intro a w H; simp only [List.drop_succ_cons, List.drop_zero, List.drop_nil]
                replace H := v_knownT H 86 false (by rfl)
                simp only [unG, gdEq, Nat.reduceBEq, cond_true, cond_false] at H
                replace H := ntf H
                refine mTN 4 hN H ?_; clear H; intro a w H; simp only [List.drop_succ_cons, List.drop_zero, List.drop_nil]
                replace H := v_knownT H 92 true (by rfl)
                simp only [unG, gdEq, Nat.reduceBEq, cond_true, cond_false] at H
                replace H := ntf H
                refine mTN 2 hN H ?_; clear H; intro a w H; simp only [List.drop_succ_cons, List.drop_zero, List.drop_nil]
                replace H := v_knownT H 92 true (by rfl)
                simp only [unG, gdEq, Nat.reduceBEq, cond_true, cond_false] at H
                replace H := ntf H
                refine v_guardT H (by rfl) (by rfl) (by rfl) ?_
                refine mCallT [] [] (ds) H ?_; clear H; intro a w H
                refine mTN 1 hN H ?_; clear H; intro a w H; simp only [List.drop_succ_cons, List.drop_zero, List.drop_nil]
                replace H := v_knownT H 92 true (by rfl)
                simp only [unG, gdEq, Nat.reduceBEq, cond_true, cond_false] at H
                replace H := ntf H
                refine mTN 2 hN H ?_; clear H; intro a w H; simp only [List.drop_succ_cons, List.drop_zero, List.drop_nil]
                replace H := v_knownT H 86 false (by rfl)
                simp only [unG, gdEq, Nat.reduceBEq, cond_true, cond_false] at H
                replace H := ntf H
                cases hS : value == vb with
                | true =>
                  rw [hS] at H
                  refine mSkT (.v (.bool false)) H ?_; clear H; intro a w H
                  refine mSkT (.v (.bool false)) H ?_; clear H; intro a w H
                  refine mSkT (.v (.bool false)) H ?_; clear H; intro a w H
                  refine mSkT (.v (.bool false)) H ?_; clear H; intro a w H
                  refine mSkT (.v (.bool false)) H ?_; clear H; intro a w H
                  refine mSkT (.v (.bool false)) H ?_; clear H; intro a w H
                  refine mSkT (.v (.bool false)) H ?_; clear H; intro a w H
                  refine mSkT (.v (.bool false)) H ?_; clear H; intro a w H
                  refine mSkT (.v (.bool false)) H ?_; clear H; intro a w H
                  refine mSkT (.v (.bool false)) H ?_; clear H; intro a w H
                  refine mSkT (.v (.bool false)) H ?_; clear H; intro a w H
                  refine mT ?_; clear H; intro a w H
                  refine v_drawNil H ?_; clear H; intro H
                  exact key1 _ _ (H.to 0 0 ⟨hN, hR⟩ ⟨rfl, rfl, rfl, rfl, rfl, rfl, rfl, rfl, rfl, rfl, trivial⟩ rfl rfl rfl rfl rfl)
                | false =>
                  rw [hS] at H
                  have hne : value ≠ vb := fun e => by rw [e] at hS; simp at hS
                  have hdg : sum (3 :: value) = sum (3 :: vb) := by simp only [Bool.and_eq_true, decide_eq_true_eq] at hP; exact hP.2.symm
                  have dc := tagClash_v (3 :: value) (3 :: vb) (by simp; omega) (by simp; omega)
                  rw [decide_eq_true hdg, decide_eq_false (show ¬ (3 :: value) = 3 :: vb from fun e => hne (by injection e))] at dc
                  have dv := valText0_v value (by omega)
                  have dw := valText0_v vb (by omega)
                  generalize (3 :: value) = x1 at *
                  generalize (3 :: vb) = x2 at *
                  refine mTN 1 hN H ?_; clear H; intro a w H; simp only [List.drop_succ_cons, List.drop_zero, List.drop_nil]
                  replace H := v_knownT H 102 true (by rfl)
                  simp only [unG, gdEq, Nat.reduceBEq, cond_true, cond_false] at H
                  replace H := ntf H
                  refine v_guardT H (by rfl) (by rfl) (by rfl) ?_
                  refine mCallT [] [] (dv) H ?_; clear H; intro a w H
                  refine mTN 3 hN H ?_; clear H; intro a w H; simp only [List.drop_succ_cons, List.drop_zero, List.drop_nil]
                  refine mTN 2 hN H ?_; clear H; intro a w H; simp only [List.drop_succ_cons, List.drop_zero, List.drop_nil]
                  replace H := v_knownT H 102 true (by rfl)
                  simp only [unG, gdEq, Nat.reduceBEq, cond_true, cond_false] at H
                  replace H := ntf H
                  refine v_guardT H (by rfl) (by rfl) (by rfl) ?_
                  refine mCallT [] [] (dw) H ?_; clear H; intro a w H
                  refine mTN 1 hN H ?_; clear H; intro a w H; simp only [List.drop_succ_cons, List.drop_zero, List.drop_nil]
                  replace H := v_knownT H 102 true (by rfl)
                  simp only [unG, gdEq, Nat.reduceBEq, cond_true, cond_false] at H
                  replace H := ntf H
                  refine v_guardT H (by rfl) (by rfl) (by rfl) ?_
                  refine mCallT [] [] (dc) H ?_; clear H; intro a w H
                  refine mTN 1 hN H ?_; clear H; intro a w H; simp only [List.drop_succ_cons, List.drop_zero, List.drop_nil]
                  replace H := v_knownT H 102 true (by rfl)
                  simp only [unG, gdEq, Nat.reduceBEq, cond_true, cond_false] at H
                  replace H := ntf H
                  refine mTN 1 hN H ?_; clear H; intro a w H; simp only [List.drop_succ_cons, List.drop_zero, List.drop_nil]
                  refine mT ?_; clear H; intro a w H
                  refine v_drawNil H ?_; clear H; intro H
                  exact key1 _ _ (H.to 0 0 ⟨hN, hR⟩ ⟨rfl, rfl, rfl, rfl, rfl, rfl, rfl, rfl, rfl, rfl, trivial⟩ rfl rfl rfl rfl rfl)
            intro a w H
            refine mC H (fun hb => ?_) (fun hb => ?_)
            · cases hb
            · have hX := And.intro @hmm (@g1)
              refine mW ?_; clear H; intro a w H
              exact ⟨k + 1, hlt, by omega, H.to 0 0 ⟨hN, hR⟩ ⟨rfl, by dsimp only; rw [hin]; rfl, rfl, rfl, rfl, rfl, rfl, rfl, rfl, trivial⟩ rfl rfl rfl rfl rfl⟩
          · have hkk : ¬ kb = key := by simpa using hb
            clear hb
            have hst : decide (key ∈ keysP (m.take (k + 1))) = decide (key ∈ keysP (m.take k)) := by rw [htk]; simp [Ne.symm hkk]
            clear hY
            refine mW ?_; clear H; intro a w H
            exact ⟨k + 1, hlt, by omega, H.to 0 0 ⟨hN, hR⟩ ⟨rfl, by dsimp only; rw [hst]; rfl, rfl, rfl, rfl, rfl, rfl, rfl, rfl, trivial⟩ rfl rfl rfl rfl rfl⟩
        · have hge : k = m.length := by rw [decide_eq_false_iff_not] at hb; omega
          subst hge
          rw [List.take_length] at H
          clear hX; have hX := And.intro @hmm (@g1)
          refine mW ?_; clear H; intro a w H
          refine mCall [] [] (c5) H ?_; clear H; intro a w H; try refine wpList_nil ?_
          refine mW ?_; clear H; intro a w H
          refine mC H (fun hb => ?_) (fun hb => ?_)
          · by_cases hkk : key ∈ keysP m <;> simp [hkk] at hb
          · clear hb
            have hrd := vRd_len other key b
            have hfin : (bif decide (other = r) then true else decide ((vRd other key b).2.2 = 11)) = true := by
              by_cases e : other = r
              · simp [e]
              · rw [f3, if_pos e]; simp
            generalize vRd other key b = z at *
            obtain ⟨z1, z2, z3⟩ := z
            dsimp only at c6 hrd hfin
            clear hX; have hX := @hrd
            refine mW ?_; clear H; intro a w H
            refine mCall [] [] (c6) H ?_; clear H; intro a w H; try refine wpList_nil ?_
            refine mW ?_; clear H; intro a w H
            rw [hfin] at H
            refine wp_ret ?_; exact mEnd [] [] [.tmp 8] [_] hN hR H
  · rw [rootE_bad _ he] at c1
    have c2 := nwayBad_v m hk40 (by omega) key hk32 he
    have c3 := vRead_v other key [] ho hk32 (by simp)
    rw [vRd, if_pos no_empty] at c3
    simp only [Pf.zero, Pf.av, Nd.av, Nd.zero, bas, List.map_nil] at c2
    have hec : (errP m : Int) ≠ 0 := by omega
    generalize (errP m : Int) = er at *
    have hX := @hz2
    refine mCall [] [] (c1) H ?_; clear H; intro a w H; try refine wpList_nil ?_
    refine mW ?_; clear H; intro a w H
    refine mCall [] [] (c2) H ?_; clear H; intro a w H; try refine wpList_nil ?_
    refine mW ?_; clear H; intro a w H
    refine mC H (fun hb => ?_) (fun hb => ?_)
    · refine mW ?_; clear H; intro a w H
      refine mCall [] [] (c3) H ?_; clear H; intro a w H; try refine wpList_nil ?_
      refine mW ?_; clear H; intro a w H
      try simp only [hz] at H
      refine wp_ret ?_; exact mEnd [] [] [.tmp 8] [_] hN hR H
    · simp at hb; exact absurd hb hec
end Go.Proofs.Ythphhnkoilcofaa
/- Nodes among the arguments. -/
namespace Go.Proofs.Ythphhnkoilcofaa
open Go Go.RowKit
end Go.Proofs.Ythphhnkoilcofaa
/- Entries among the arguments. -/
namespace Go.Proofs.Ythphhnkoilcofaa
open Go Go.RowKit
theorem pair_sh {M d : Nat} {a : AV} (h : Sh tab M (d + 2) 62 a) : ∃ p : Pr, a = prA p ∧ p.1.length = 32 ∧ p.2.length ≤ M := by
  obtain ⟨az, rfl, hs⟩ := h.rcd rfl rfl
  clear h; have h := hs; clear hs; dsimp only [List.map] at h
  obtain ⟨a0, r, rfl, h0, h⟩ := shl_cons h
  obtain ⟨a1, r, rfl, h1, h⟩ := shl_cons h
  obtain rfl := shl_nil h
  obtain ⟨k, rfl, hk⟩ := h0.arr rfl rfl
  obtain ⟨v, rfl, hv⟩ := h1.bytes rfl rfl rfl
  exact ⟨(k, v), rfl, hk, hv⟩
theorem pairs_sh {M d : Nat} {a : AV} (h : Sh tab M (d + 3) 57 a) : ∃ l : List Pr, a = .sl prT (l.map prA) none ∧ K32 l ∧ l.length ≤ M ∧ ∀ x ∈ l, x.2.length ≤ M := by
  obtain ⟨es, rfl, hl, he⟩ := h.slc rfl rfl rfl
  obtain ⟨ys, rfl, hy⟩ := sh_list (q := fun p : Pr => p.1.length = 32 ∧ p.2.length ≤ M) (f := prA) (fun x hx => pair_sh hx) he
  exact ⟨ys, rfl, fun x hx => (hy x hx).1, by simpa using hl, fun x hx => (hy x hx).2⟩
end Go.Proofs.Ythphhnkoilcofaa
/- VerifyWays, of all arguments of its types. -/
namespace Go.Proofs.Ythphhnkoilcofaa
open Go Go.RowKit
theorem verifyWays_az (az : List AV) (h : ShL (Sh tab 1048576 6) [57, 37, 27, 60] az) : VC Try.prog 10 az [] (.v (.bool true)) := by
  obtain ⟨a0, r, rfl, h0, h⟩ := shl_cons h
  obtain ⟨a1, r, rfl, h1, h⟩ := shl_cons h
  obtain ⟨a2, r, rfl, h2, h⟩ := shl_cons h
  obtain ⟨a3, r, rfl, h3, h⟩ := shl_cons h
  obtain rfl := shl_nil h
  obtain ⟨l, rfl, hk, hl, hv⟩ := pairs_sh h0
  obtain ⟨key, rfl, hkey⟩ := h1.arr rfl rfl
  obtain ⟨other, rfl, ho⟩ := h2.arr rfl rfl
  obtain ⟨value, rfl, hval⟩ := h3.bytes rfl rfl rfl
  exact verifyWays_v l hk hl (fun x hx => Nat.le_trans (hv x hx) (by decide)) key other value hkey ho hval
end Go.Proofs.Ythphhnkoilcofaa
