/- The document's way of a key among entries. -/
import Derived.Test.YthphhnkoilcofaaLentP
import Derived.Test.YthphhnkoilcofaaRShaZ
import Derived.Test.YthphhnkoilcofaaThaw
import Derived.Test.YthphhnkoilcofaaOpen
set_option linter.unusedSimpArgs false
set_option linter.unusedVariables false
namespace Go.Proofs.Ythphhnkoilcofaa
open Go Go.RowKit
theorem small_perm (l m : List En) (hl : l.length < 2) (hp : l.Perm m) : l = m := by
  match l, hl with
  | [], _ => exact (List.nil_perm.1 hp).symm
  | [x], _ => exact (List.singleton_perm.1 hp)
theorem wayA_perm (key : List UInt8) : ∀ (f d : Nat) (l m : List En), f + d = 256 → Sep d l → l.Perm m → wayA key f d l = wayA key f d m ∧ endA key f d l = endA key f d m := by
  intro f
  induction f with
  | zero => intro d l m hd hs hp; rw [small_perm l m (hs.deep (by omega)) hp]; exact ⟨rfl, rfl⟩
  | succ f ih =>
    intro d l m hd hs hp
    by_cases h : l.length < 2
    · rw [small_perm l m h hp]; exact ⟨rfl, rfl⟩
    · have h' : ¬ m.length < 2 := by rw [← hp.length_eq]; exact h
      have e1 := rootA_perm f (d + 1) (half (!bitN key d) d l) (half (!bitN key d) d m) (by omega) (hs.side _) (hp.filter _)
      obtain ⟨e2, e3⟩ := ih (d + 1) (half (bitN key d) d l) (half (bitN key d) d m) (by omega) (hs.side _) (hp.filter _)
      rw [wayA, wayA, endA, endA, if_neg h, if_neg h', if_neg h, if_neg h', e1, e2, e3]
      exact ⟨rfl, rfl⟩
/-- The state of the document's walk down. -/
structure Wz (key : List UInt8) (W : List (List UInt8)) (E : Nd) (i : Nat × List Pr × List (List UInt8)) : Prop where
  d : i.1 ≤ 256
  w : i.2.2 ++ wayA key (256 - i.1) i.1 (dgs i.2.1) = W
  e : endA key (256 - i.1) i.1 (dgs i.2.1) = E
  r : Sep i.1 (dgs i.2.1)
  k : K32 i.2.1
  v : V0 i.2.1
  n : i.2.1.length ≤ 34359730000
  s : i.2.2.length = i.1
theorem Wz.go {key : List UInt8} {W : List (List UInt8)} {E : Nd} {d : Nat} {s : List Pr} {ss : List (List UInt8)} (h : Wz key W E (d, s, ss)) (h2 : 1 < s.length) :
    d < 256 ∧ Wz key W E (d + 1, halfP (bitN key d) d s, ss ++ [rootA (255 - d) (d + 1) (dgs (halfP (!bitN key d) d s))]) ∧ Sep (d + 1) (dgs (halfP (!bitN key d) d s)) := by
  have hl : ¬ (dgs s).length < 2 := by rw [dgs_len]; omega
  have hd : d < 256 := by
    by_cases hd : d < 256
    · exact hd
    · exact absurd (h.r.deep (by show 256 ≤ d; omega)) (by rw [dgs_len]; show ¬ s.length < 2; omega)
  have f1 : 256 - d = (255 - d) + 1 := by omega
  have f2 : 256 - (d + 1) = 255 - d := by omega
  have hw := h.w
  have he := h.e
  have hn := h.n
  have hs := h.s
  have r1 := h.r.side (bitN key d)
  have r2 := h.r.side (!bitN key d)
  dsimp only at hw he hn hs r1 r2
  rw [f1, wayA, if_neg hl] at hw
  rw [f1, endA, if_neg hl] at he
  rw [← halfP_dgs] at r1 r2 he
  rw [← halfP_dgs, ← halfP_dgs] at hw
  refine ⟨hd, ⟨by show d + 1 ≤ 256; omega, ?_, ?_, r1, h.k.half _ _, h.v.half _ _, Nat.le_trans (halfP_le _ _ _) hn, by dsimp only; rw [List.length_append, hs]; rfl⟩, r2⟩
  · dsimp only; rw [f2, List.append_assoc]; exact hw
  · dsimp only; rw [f2]; exact he
theorem wayE_of (l : List Pr) (hk : K32 l) (hd : Dis l) (key : List UInt8) : (wayE l key).s = wayA key 256 0 (dgs l) ∧ (wayE l key).e = endA key 256 0 (dgs l) := by
  have hs := sep_of l hk hd 0 (fun x _ y _ t ht => absurd ht (Nat.not_lt_zero t))
  obtain ⟨e1, e2⟩ := wayA_perm key 256 0 (dgs l) (dgs (srt l)) rfl hs ((srt_perm l).symm.map _)
  exact ⟨e1.symm, e2.symm⟩
set_option maxRecDepth 20000 in
set_option maxHeartbeats 2000000 in
theorem wayR_v (l : List Pr) (hk : K32 l) (hl : l.length ≤ 34359730000) (key : List UInt8) (hk32 : key.length = 32) (he : errP l = 0) :
    VC Try.prog 59 [.sl prT (l.map prA) none, .ba key] [(27, (wayE l key).s.length)] (.tup [.st [.sl (.ba 32) (bas (wayE l key).s) (some 0), (wayE l key).e.av], errv 0]) := by
  have hs := listR_v l hk (by omega)
  obtain ⟨hle, hdis, hvals⟩ := errP_ok he
  rw [he] at hs
  have hsv : V0 l := fun x hx => Nat.le_trans (hvals x hx) (by decide)
  have hsep := sep_of l hk hdis 0 (fun x _ y _ t ht => absurd ht (Nat.not_lt_zero t))
  obtain ⟨e1, e2⟩ := wayE_of l hk hdis key
  rw [e1, e2]
  have hm0 : Wz key (wayA key 256 0 (dgs l)) (endA key 256 0 (dgs l)) (0, l, []) := ⟨Nat.zero_le _, rfl, rfl, hsep, hk, hsv, hl, rfl⟩
  have hWle := wayA_le key 256 0 (dgs l)
  generalize wayA key 256 0 (dgs l) = W at *
  generalize endA key 256 0 (dgs l) = E at *
  clear e1 e2
  have hWl := bas_len W
  have hz2 := z32_len
  refine mE Try.func59 ?_; intro N w0 a w hN hR H
  refine mW ?_; clear H; intro a w H
  refine mCall [] [] (hs) H ?_; clear H; intro a w H; try refine wpList_nil ?_
  refine mW ?_; clear H; intro a w H
  refine mC H (fun hb => ?_) (fun hb => ?_)
  · simp at hb
  · clear hb
    refine mW ?_; clear H; intro a w H
    have H := v_nilX tab_ok H 2 0 27 (j := ti27) (.ba 32) rfl (by decide) rfl rfl
    simp only [List.set_cons_succ, List.set_cons_zero, List.length_cons, List.length_nil, Nat.reduceAdd, List.cons_append, List.nil_append, hz] at H
    refine v_loop (fun i : Nat × List Pr × List (List UInt8) => ⟨[(0, none, .sl prT (i.2.1.map prA) none), (8, none, .v (.int .i64 (i.1 : Int))), (7, none, .ptr 2 []), (5, none, .v (.int .i64 0)), (4, none, .ptr 1 []), (3, none, .ptr 0 [])],
      [(.ba 32, .ba key), (ti41.ty, .st [.v (.slice none 0 0), .st [.v (.int .u8 0), .ba z32, .ba z32, .ba z32, .ba z32]]), (ti41.ty, .st [.sl (.ba 32) (bas i.2.2) (some 0), .st [.v (.int .u8 0), .ba z32, .ba z32, .ba z32, .ba z32]])], [], [(27, i.2.2.length)]⟩)
      (Wz key W E) (fun i => 256 - i.1) (0, l, []) hm0 (H.to 3 1 ⟨Nat.le_trans hN (by decide), Nat.le_trans hR (by decide)⟩ ⟨rfl, rfl, rfl, rfl, rfl, rfl, trivial⟩ rfl rfl rfl rfl rfl) ?_
    clear H hm0
    rintro ⟨d, s, ss⟩ a w hwy H
    dsimp only at H
    have hml : (s.map prA).length = s.length := List.length_map ..
    have hssl := bas_len ss
    have hn := hwy.n
    have hssd := hwy.s
    dsimp only at hn hssd
    have hX := And.intro @hml (@hssl)
    refine mW ?_; clear H; intro a w H
    refine mC H (fun hb => ?_) (fun hb => ?_)
    · have h2 : 1 < s.length := by rw [decide_eq_true_eq] at hb; omega
      clear hb
      obtain ⟨hd, hnext, hsep2⟩ := hwy.go h2
      have hbit := bitR_v key hk32 (d : Int)
      have hpb : pbit key (d : Int) = if bitN key d then 1 else 0 := by
        rw [pbit, if_pos (by omega), Int.toNat_natCast]
      have s1 := sideR_v s hwy.k (bitN key d) (pbit key (d : Int)) hpb d hd hn
      have s2 := sideR_v s hwy.k (!bitN key d) (1 - pbit key (d : Int)) (by rw [hpb]; cases bitN key d <;> rfl) d hd hn
      have hat := atP_v (255 - d) (d + 1) _ (by omega) hsep2 (hwy.k.half _ _) (hwy.v.half _ _) (Nat.le_trans (halfP_le _ _ _) hn)
      have hrl := rootA_len (255 - d) (d + 1) (dgs (halfP (!bitN key d) d s))
      have hpl : 0 ≤ pbit key (d : Int) ∧ pbit key (d : Int) ≤ 1 := by rw [hpb]; cases bitN key d <;> decide
      generalize pbit key (d : Int) = pb at *
      generalize rootA (255 - d) (d + 1) (dgs (halfP (!bitN key d) d s)) = x at *
      generalize halfP (!bitN key d) d s = q at *
      generalize halfP (bitN key d) d s = o at *
      clear hpb
      refine mW ?_; clear H; intro a w H
      refine mCall [] [] (hbit) H ?_; clear H; intro a w H; try refine wpList_nil ?_
      refine mW ?_; clear H; intro a w H
      clear hX; have hX := @hssl
      repeat (first | refine wp_seq ?_ | refine wp_block ?_)
      refine v_drawZ 0 [2, 3, 4, 5, 7, 8, 0, 1, 6, 9, 10, 11, 12, 13] [0, 1, 6, 9, 10, 11, 13] [2, 3, 4, 5, 7, 8] [(0, 6), (0, 9), (0, 10), (1, 6), (1, 9), (1, 10), (1009, 6), (1010, 9)] (by kernel_rfl) (by kernel_rfl) (by kernel_rfl) (by kernel_rfl) (by kernel_rfl) H (by rfl) ?_; clear H; intro gS H; try replace H := ntf H
      refine wpZ_run 4 (i := 2) (n' := 10) (pend' := [7, 8, 0, 1, 6, 9, 10, 11, 12, 13]) (by rfl) (by rfl) (by rfl) (by rfl) (by rfl) ?_
      repeat ((first | refine v_someT 3 tab_ok hN H (by rfl) ctX ?_ | refine v_someT 2 tab_ok hN H (by rfl) ctX ?_ | refine v_someT 1 tab_ok hN H (by rfl) ctX ?_); clear H; intro a w H; replace H := ntf H; simp only [List.drop_succ_cons, List.drop_zero, List.drop_nil])
      refine wpT_nil ?_
      try dsimp only
      refine wpZ_run 2 (i := 7) (n' := 8) (pend' := [0, 1, 6, 9, 10, 11, 12, 13]) (by rfl) (by rfl) (by rfl) (by rfl) (by rfl) ?_
      repeat ((first | refine v_someT 3 tab_ok hN H (by rfl) ctX ?_ | refine v_someT 2 tab_ok hN H (by rfl) ctX ?_ | refine v_someT 1 tab_ok hN H (by rfl) ctX ?_); clear H; intro a w H; replace H := ntf H; simp only [List.drop_succ_cons, List.drop_zero, List.drop_nil])
      refine wpT_nil ?_
      try dsimp only
      refine wpZ_two (cs := [6]) (by rfl) (by rfl) ?_
      refine all2 ?_
      refine ⟨?_, ?_⟩
      focus
        refine wpZ_pick (pend' := [1, 6, 9, 10, 11, 12, 13]) (by rfl) (by rfl) ?_
        repeat ((first | refine v_someT 3 tab_ok hN H (by rfl) ctX ?_ | refine v_someT 2 tab_ok hN H (by rfl) ctX ?_ | refine v_someT 1 tab_ok hN H (by rfl) ctX ?_); clear H; intro a w H; replace H := ntf H; simp only [List.drop_succ_cons, List.drop_zero, List.drop_nil])
        refine wpT_nil ?_
        try dsimp only
        refine wpZ_two (cs := [6]) (by rfl) (by rfl) ?_
        refine all2 ?_
        refine ⟨?_, ?_⟩
        focus
          refine wpZ_pick (pend' := [6, 9, 10, 11, 12, 13]) (by rfl) (by rfl) ?_
          repeat ((first | refine v_someT 3 tab_ok hN H (by rfl) ctX ?_ | refine v_someT 2 tab_ok hN H (by rfl) ctX ?_ | refine v_someT 1 tab_ok hN H (by rfl) ctX ?_); clear H; intro a w H; replace H := ntf H; simp only [List.drop_succ_cons, List.drop_zero, List.drop_nil])
          refine wpT_nil ?_
          try dsimp only
          refine wpZ_two (cs := []) (by rfl) (by rfl) ?_
          refine all1 ?_
          refine wpZ_pick (pend' := [9, 10, 11, 12, 13]) (by rfl) (by rfl) ?_
          refine mCallT [] [] (s2) H ?_; clear H; intro a w H
          refine wpT_nil ?_
          try dsimp only
          refine wpZ_two (cs := []) (by rfl) (by rfl) ?_
          refine all1 ?_
          refine wpZ_pick (pend' := [10, 11, 12, 13]) (by rfl) (by rfl) ?_
          refine mCallT [] [] (hat) H ?_; clear H; intro a w H
          refine wpT_nil ?_
          try dsimp only
          refine wpZ_two (cs := []) (by rfl) (by rfl) ?_
          refine all1 ?_
          refine wpZ_pick (pend' := [11, 12, 13]) (by rfl) (by rfl) ?_
          repeat ((first | refine v_someT 3 tab_ok hN H (by rfl) ctX ?_ | refine v_someT 2 tab_ok hN H (by rfl) ctX ?_ | refine v_someT 1 tab_ok hN H (by rfl) ctX ?_); clear H; intro a w H; replace H := ntf H; simp only [List.drop_succ_cons, List.drop_zero, List.drop_nil])
          refine wpT_nil ?_
          try dsimp only
          refine wpZ_two (cs := []) (by rfl) (by rfl) ?_
          refine all1 ?_
          refine wpZ_pick (pend' := [12, 13]) (by rfl) (by rfl) ?_
          repeat ((first | refine v_someT 3 tab_ok hN H (by rfl) ctX ?_ | refine v_someT 2 tab_ok hN H (by rfl) ctX ?_ | refine v_someT 1 tab_ok hN H (by rfl) ctX ?_); clear H; intro a w H; replace H := ntf H; simp only [List.drop_succ_cons, List.drop_zero, List.drop_nil])
          refine wpT_nil ?_
          try dsimp only
          refine wpZ_run 1 (i := 12) (n' := 1) (pend' := [13]) (by rfl) (by rfl) (by rfl) (by rfl) (by rfl) ?_
          repeat ((first | refine v_someT 3 tab_ok hN H (by rfl) ctX ?_ | refine v_someT 2 tab_ok hN H (by rfl) ctX ?_ | refine v_someT 1 tab_ok hN H (by rfl) ctX ?_); clear H; intro a w H; replace H := ntf H; simp only [List.drop_succ_cons, List.drop_zero, List.drop_nil])
          refine wpT_nil ?_
          try dsimp only
          refine wpZ_two (cs := []) (by rfl) (by rfl) ?_
          refine all1 ?_
          refine wpZ_pick (pend' := []) (by rfl) (by rfl) ?_
          repeat ((first | refine v_someT 3 tab_ok hN H (by rfl) ctX ?_ | refine v_someT 2 tab_ok hN H (by rfl) ctX ?_ | refine v_someT 1 tab_ok hN H (by rfl) ctX ?_); clear H; intro a w H; replace H := ntf H; simp only [List.drop_succ_cons, List.drop_zero, List.drop_nil])
          refine wpT_nil ?_
          try dsimp only
          refine wpZ_nil ?_
          replace H := RelT.toRel H
        rotate_left 1
        focus
          refine wpZ_pick (pend' := [1, 9, 10, 11, 12, 13]) (by rfl) (by rfl) ?_
          refine mCallT [] [] (s2) H ?_; clear H; intro a w H
          refine wpT_nil ?_
          try dsimp only
          refine wpZ_two (cs := [9]) (by rfl) (by rfl) ?_
          refine all2 ?_
          refine ⟨?_, ?_⟩
          focus
            refine wpZ_pick (pend' := [9, 10, 11, 12, 13]) (by rfl) (by rfl) ?_
            repeat ((first | refine v_someT 3 tab_ok hN H (by rfl) ctX ?_ | refine v_someT 2 tab_ok hN H (by rfl) ctX ?_ | refine v_someT 1 tab_ok hN H (by rfl) ctX ?_); clear H; intro a w H; replace H := ntf H; simp only [List.drop_succ_cons, List.drop_zero, List.drop_nil])
            refine wpT_nil ?_
            try dsimp only
            refine wpZ_two (cs := []) (by rfl) (by rfl) ?_
            refine all1 ?_
            refine wpZ_pick (pend' := [10, 11, 12, 13]) (by rfl) (by rfl) ?_
            refine mCallT [] [] (hat) H ?_; clear H; intro a w H
            refine wpT_nil ?_
            try dsimp only
            refine wpZ_two (cs := []) (by rfl) (by rfl) ?_
            refine all1 ?_
            refine wpZ_pick (pend' := [11, 12, 13]) (by rfl) (by rfl) ?_
            repeat ((first | refine v_someT 3 tab_ok hN H (by rfl) ctX ?_ | refine v_someT 2 tab_ok hN H (by rfl) ctX ?_ | refine v_someT 1 tab_ok hN H (by rfl) ctX ?_); clear H; intro a w H; replace H := ntf H; simp only [List.drop_succ_cons, List.drop_zero, List.drop_nil])
            refine wpT_nil ?_
            try dsimp only
            refine wpZ_two (cs := []) (by rfl) (by rfl) ?_
            refine all1 ?_
            refine wpZ_pick (pend' := [12, 13]) (by rfl) (by rfl) ?_
            repeat ((first | refine v_someT 3 tab_ok hN H (by rfl) ctX ?_ | refine v_someT 2 tab_ok hN H (by rfl) ctX ?_ | refine v_someT 1 tab_ok hN H (by rfl) ctX ?_); clear H; intro a w H; replace H := ntf H; simp only [List.drop_succ_cons, List.drop_zero, List.drop_nil])
            refine wpT_nil ?_
            try dsimp only
            refine wpZ_run 1 (i := 12) (n' := 1) (pend' := [13]) (by rfl) (by rfl) (by rfl) (by rfl) (by rfl) ?_
            repeat ((first | refine v_someT 3 tab_ok hN H (by rfl) ctX ?_ | refine v_someT 2 tab_ok hN H (by rfl) ctX ?_ | refine v_someT 1 tab_ok hN H (by rfl) ctX ?_); clear H; intro a w H; replace H := ntf H; simp only [List.drop_succ_cons, List.drop_zero, List.drop_nil])
            refine wpT_nil ?_
            try dsimp only
            refine wpZ_two (cs := []) (by rfl) (by rfl) ?_
            refine all1 ?_
            refine wpZ_pick (pend' := []) (by rfl) (by rfl) ?_
            repeat ((first | refine v_someT 3 tab_ok hN H (by rfl) ctX ?_ | refine v_someT 2 tab_ok hN H (by rfl) ctX ?_ | refine v_someT 1 tab_ok hN H (by rfl) ctX ?_); clear H; intro a w H; replace H := ntf H; simp only [List.drop_succ_cons, List.drop_zero, List.drop_nil])
            refine wpT_nil ?_
            try dsimp only
            refine wpZ_nil ?_
            replace H := RelT.toRel H
          rotate_left 1
          focus
            refine wpZ_pick (pend' := [1, 10, 11, 12, 13]) (by rfl) (by rfl) ?_
            refine mCallT [] [] (hat) H ?_; clear H; intro a w H
            refine wpT_nil ?_
            try dsimp only
            refine wpZ_two (cs := [10]) (by rfl) (by rfl) ?_
            refine all2 ?_
            refine ⟨?_, ?_⟩
            focus
              refine wpZ_pick (pend' := [10, 11, 12, 13]) (by rfl) (by rfl) ?_
              repeat ((first | refine v_someT 3 tab_ok hN H (by rfl) ctX ?_ | refine v_someT 2 tab_ok hN H (by rfl) ctX ?_ | refine v_someT 1 tab_ok hN H (by rfl) ctX ?_); clear H; intro a w H; replace H := ntf H; simp only [List.drop_succ_cons, List.drop_zero, List.drop_nil])
              refine wpT_nil ?_
              try dsimp only
              refine wpZ_two (cs := []) (by rfl) (by rfl) ?_
              refine all1 ?_
              refine wpZ_pick (pend' := [11, 12, 13]) (by rfl) (by rfl) ?_
              repeat ((first | refine v_someT 3 tab_ok hN H (by rfl) ctX ?_ | refine v_someT 2 tab_ok hN H (by rfl) ctX ?_ | refine v_someT 1 tab_ok hN H (by rfl) ctX ?_); clear H; intro a w H; replace H := ntf H; simp only [List.drop_succ_cons, List.drop_zero, List.drop_nil])
              refine wpT_nil ?_
              try dsimp only
              refine wpZ_two (cs := []) (by rfl) (by rfl) ?_
              refine all1 ?_
              refine wpZ_pick (pend' := [12, 13]) (by rfl) (by rfl) ?_
              repeat ((first | refine v_someT 3 tab_ok hN H (by rfl) ctX ?_ | refine v_someT 2 tab_ok hN H (by rfl) ctX ?_ | refine v_someT 1 tab_ok hN H (by rfl) ctX ?_); clear H; intro a w H; replace H := ntf H; simp only [List.drop_succ_cons, List.drop_zero, List.drop_nil])
              refine wpT_nil ?_
              try dsimp only
              refine wpZ_run 1 (i := 12) (n' := 1) (pend' := [13]) (by rfl) (by rfl) (by rfl) (by rfl) (by rfl) ?_
              repeat ((first | refine v_someT 3 tab_ok hN H (by rfl) ctX ?_ | refine v_someT 2 tab_ok hN H (by rfl) ctX ?_ | refine v_someT 1 tab_ok hN H (by rfl) ctX ?_); clear H; intro a w H; replace H := ntf H; simp only [List.drop_succ_cons, List.drop_zero, List.drop_nil])
              refine wpT_nil ?_
              try dsimp only
              refine wpZ_two (cs := []) (by rfl) (by rfl) ?_
              refine all1 ?_
              refine wpZ_pick (pend' := []) (by rfl) (by rfl) ?_
              repeat ((first | refine v_someT 3 tab_ok hN H (by rfl) ctX ?_ | refine v_someT 2 tab_ok hN H (by rfl) ctX ?_ | refine v_someT 1 tab_ok hN H (by rfl) ctX ?_); clear H; intro a w H; replace H := ntf H; simp only [List.drop_succ_cons, List.drop_zero, List.drop_nil])
              refine wpT_nil ?_
              try dsimp only
              refine wpZ_nil ?_
              replace H := RelT.toRel H
            rotate_left 1
            focus
              refine wpZ_pick (pend' := [1, 11, 12, 13]) (by rfl) (by rfl) ?_
              repeat ((first | refine v_someT 3 tab_ok hN H (by rfl) ctX ?_ | refine v_someT 2 tab_ok hN H (by rfl) ctX ?_ | refine v_someT 1 tab_ok hN H (by rfl) ctX ?_); clear H; intro a w H; replace H := ntf H; simp only [List.drop_succ_cons, List.drop_zero, List.drop_nil])
              refine wpT_nil ?_
              try dsimp only
              refine wpZ_two (cs := []) (by rfl) (by rfl) ?_
              refine all1 ?_
              refine wpZ_pick (pend' := [11, 12, 13]) (by rfl) (by rfl) ?_
              repeat ((first | refine v_someT 3 tab_ok hN H (by rfl) ctX ?_ | refine v_someT 2 tab_ok hN H (by rfl) ctX ?_ | refine v_someT 1 tab_ok hN H (by rfl) ctX ?_); clear H; intro a w H; replace H := ntf H; simp only [List.drop_succ_cons, List.drop_zero, List.drop_nil])
              refine wpT_nil ?_
              try dsimp only
              refine wpZ_two (cs := []) (by rfl) (by rfl) ?_
              refine all1 ?_
              refine wpZ_pick (pend' := [12, 13]) (by rfl) (by rfl) ?_
              repeat ((first | refine v_someT 3 tab_ok hN H (by rfl) ctX ?_ | refine v_someT 2 tab_ok hN H (by rfl) ctX ?_ | refine v_someT 1 tab_ok hN H (by rfl) ctX ?_); clear H; intro a w H; replace H := ntf H; simp only [List.drop_succ_cons, List.drop_zero, List.drop_nil])
              refine wpT_nil ?_
              try dsimp only
              refine wpZ_run 1 (i := 12) (n' := 1) (pend' := [13]) (by rfl) (by rfl) (by rfl) (by rfl) (by rfl) ?_
              repeat ((first | refine v_someT 3 tab_ok hN H (by rfl) ctX ?_ | refine v_someT 2 tab_ok hN H (by rfl) ctX ?_ | refine v_someT 1 tab_ok hN H (by rfl) ctX ?_); clear H; intro a w H; replace H := ntf H; simp only [List.drop_succ_cons, List.drop_zero, List.drop_nil])
              refine wpT_nil ?_
              try dsimp only
              refine wpZ_two (cs := []) (by rfl) (by rfl) ?_
              refine all1 ?_
              refine wpZ_pick (pend' := []) (by rfl) (by rfl) ?_
              repeat ((first | refine v_someT 3 tab_ok hN H (by rfl) ctX ?_ | refine v_someT 2 tab_ok hN H (by rfl) ctX ?_ | refine v_someT 1 tab_ok hN H (by rfl) ctX ?_); clear H; intro a w H; replace H := ntf H; simp only [List.drop_succ_cons, List.drop_zero, List.drop_nil])
              refine wpT_nil ?_
              try dsimp only
              refine wpZ_nil ?_
              replace H := RelT.toRel H
      rotate_left 4
      focus
        refine wpZ_pick (pend' := [0, 1, 9, 10, 11, 12, 13]) (by rfl) (by rfl) ?_
        refine mCallT [] [] (s2) H ?_; clear H; intro a w H
        refine wpT_nil ?_
        try dsimp only
        refine wpZ_two (cs := [9]) (by rfl) (by rfl) ?_
        refine all2 ?_
        refine ⟨?_, ?_⟩
        focus
          refine wpZ_pick (pend' := [1, 9, 10, 11, 12, 13]) (by rfl) (by rfl) ?_
          repeat ((first | refine v_someT 3 tab_ok hN H (by rfl) ctX ?_ | refine v_someT 2 tab_ok hN H (by rfl) ctX ?_ | refine v_someT 1 tab_ok hN H (by rfl) ctX ?_); clear H; intro a w H; replace H := ntf H; simp only [List.drop_succ_cons, List.drop_zero, List.drop_nil])
          refine wpT_nil ?_
          try dsimp only
          refine wpZ_two (cs := [9]) (by rfl) (by rfl) ?_
          refine all2 ?_
          refine ⟨?_, ?_⟩
          focus
            refine wpZ_pick (pend' := [9, 10, 11, 12, 13]) (by rfl) (by rfl) ?_
            repeat ((first | refine v_someT 3 tab_ok hN H (by rfl) ctX ?_ | refine v_someT 2 tab_ok hN H (by rfl) ctX ?_ | refine v_someT 1 tab_ok hN H (by rfl) ctX ?_); clear H; intro a w H; replace H := ntf H; simp only [List.drop_succ_cons, List.drop_zero, List.drop_nil])
            refine wpT_nil ?_
            try dsimp only
            refine wpZ_two (cs := []) (by rfl) (by rfl) ?_
            refine all1 ?_
            refine wpZ_pick (pend' := [10, 11, 12, 13]) (by rfl) (by rfl) ?_
            refine mCallT [] [] (hat) H ?_; clear H; intro a w H
            refine wpT_nil ?_
            try dsimp only
            refine wpZ_two (cs := []) (by rfl) (by rfl) ?_
            refine all1 ?_
            refine wpZ_pick (pend' := [11, 12, 13]) (by rfl) (by rfl) ?_
            repeat ((first | refine v_someT 3 tab_ok hN H (by rfl) ctX ?_ | refine v_someT 2 tab_ok hN H (by rfl) ctX ?_ | refine v_someT 1 tab_ok hN H (by rfl) ctX ?_); clear H; intro a w H; replace H := ntf H; simp only [List.drop_succ_cons, List.drop_zero, List.drop_nil])
            refine wpT_nil ?_
            try dsimp only
            refine wpZ_two (cs := []) (by rfl) (by rfl) ?_
            refine all1 ?_
            refine wpZ_pick (pend' := [12, 13]) (by rfl) (by rfl) ?_
            repeat ((first | refine v_someT 3 tab_ok hN H (by rfl) ctX ?_ | refine v_someT 2 tab_ok hN H (by rfl) ctX ?_ | refine v_someT 1 tab_ok hN H (by rfl) ctX ?_); clear H; intro a w H; replace H := ntf H; simp only [List.drop_succ_cons, List.drop_zero, List.drop_nil])
            refine wpT_nil ?_
            try dsimp only
            refine wpZ_run 1 (i := 12) (n' := 1) (pend' := [13]) (by rfl) (by rfl) (by rfl) (by rfl) (by rfl) ?_
            repeat ((first | refine v_someT 3 tab_ok hN H (by rfl) ctX ?_ | refine v_someT 2 tab_ok hN H (by rfl) ctX ?_ | refine v_someT 1 tab_ok hN H (by rfl) ctX ?_); clear H; intro a w H; replace H := ntf H; simp only [List.drop_succ_cons, List.drop_zero, List.drop_nil])
            refine wpT_nil ?_
            try dsimp only
            refine wpZ_two (cs := []) (by rfl) (by rfl) ?_
            refine all1 ?_
            refine wpZ_pick (pend' := []) (by rfl) (by rfl) ?_
            repeat ((first | refine v_someT 3 tab_ok hN H (by rfl) ctX ?_ | refine v_someT 2 tab_ok hN H (by rfl) ctX ?_ | refine v_someT 1 tab_ok hN H (by rfl) ctX ?_); clear H; intro a w H; replace H := ntf H; simp only [List.drop_succ_cons, List.drop_zero, List.drop_nil])
            refine wpT_nil ?_
            try dsimp only
            refine wpZ_nil ?_
            replace H := RelT.toRel H
          rotate_left 1
          focus
            refine wpZ_pick (pend' := [1, 10, 11, 12, 13]) (by rfl) (by rfl) ?_
            refine mCallT [] [] (hat) H ?_; clear H; intro a w H
            refine wpT_nil ?_
            try dsimp only
            refine wpZ_two (cs := [10]) (by rfl) (by rfl) ?_
            refine all2 ?_
            refine ⟨?_, ?_⟩
            focus
              refine wpZ_pick (pend' := [10, 11, 12, 13]) (by rfl) (by rfl) ?_
              repeat ((first | refine v_someT 3 tab_ok hN H (by rfl) ctX ?_ | refine v_someT 2 tab_ok hN H (by rfl) ctX ?_ | refine v_someT 1 tab_ok hN H (by rfl) ctX ?_); clear H; intro a w H; replace H := ntf H; simp only [List.drop_succ_cons, List.drop_zero, List.drop_nil])
              refine wpT_nil ?_
              try dsimp only
              refine wpZ_two (cs := []) (by rfl) (by rfl) ?_
              refine all1 ?_
              refine wpZ_pick (pend' := [11, 12, 13]) (by rfl) (by rfl) ?_
              repeat ((first | refine v_someT 3 tab_ok hN H (by rfl) ctX ?_ | refine v_someT 2 tab_ok hN H (by rfl) ctX ?_ | refine v_someT 1 tab_ok hN H (by rfl) ctX ?_); clear H; intro a w H; replace H := ntf H; simp only [List.drop_succ_cons, List.drop_zero, List.drop_nil])
              refine wpT_nil ?_
              try dsimp only
              refine wpZ_two (cs := []) (by rfl) (by rfl) ?_
              refine all1 ?_
              refine wpZ_pick (pend' := [12, 13]) (by rfl) (by rfl) ?_
              repeat ((first | refine v_someT 3 tab_ok hN H (by rfl) ctX ?_ | refine v_someT 2 tab_ok hN H (by rfl) ctX ?_ | refine v_someT 1 tab_ok hN H (by rfl) ctX ?_); clear H; intro a w H; replace H := ntf H; simp only [List.drop_succ_cons, List.drop_zero, List.drop_nil])
              refine wpT_nil ?_
              try dsimp only
              refine wpZ_run 1 (i := 12) (n' := 1) (pend' := [13]) (by rfl) (by rfl) (by rfl) (by rfl) (by rfl) ?_
              repeat ((first | refine v_someT 3 tab_ok hN H (by rfl) ctX ?_ | refine v_someT 2 tab_ok hN H (by rfl) ctX ?_ | refine v_someT 1 tab_ok hN H (by rfl) ctX ?_); clear H; intro a w H; replace H := ntf H; simp only [List.drop_succ_cons, List.drop_zero, List.drop_nil])
              refine wpT_nil ?_
              try dsimp only
              refine wpZ_two (cs := []) (by rfl) (by rfl) ?_
              refine all1 ?_
              refine wpZ_pick (pend' := []) (by rfl) (by rfl) ?_
              repeat ((first | refine v_someT 3 tab_ok hN H (by rfl) ctX ?_ | refine v_someT 2 tab_ok hN H (by rfl) ctX ?_ | refine v_someT 1 tab_ok hN H (by rfl) ctX ?_); clear H; intro a w H; replace H := ntf H; simp only [List.drop_succ_cons, List.drop_zero, List.drop_nil])
              refine wpT_nil ?_
              try dsimp only
              refine wpZ_nil ?_
              replace H := RelT.toRel H
            rotate_left 1
            focus
              refine wpZ_pick (pend' := [1, 11, 12, 13]) (by rfl) (by rfl) ?_
              repeat ((first | refine v_someT 3 tab_ok hN H (by rfl) ctX ?_ | refine v_someT 2 tab_ok hN H (by rfl) ctX ?_ | refine v_someT 1 tab_ok hN H (by rfl) ctX ?_); clear H; intro a w H; replace H := ntf H; simp only [List.drop_succ_cons, List.drop_zero, List.drop_nil])
              refine wpT_nil ?_
              try dsimp only
              refine wpZ_two (cs := []) (by rfl) (by rfl) ?_
              refine all1 ?_
              refine wpZ_pick (pend' := [11, 12, 13]) (by rfl) (by rfl) ?_
              repeat ((first | refine v_someT 3 tab_ok hN H (by rfl) ctX ?_ | refine v_someT 2 tab_ok hN H (by rfl) ctX ?_ | refine v_someT 1 tab_ok hN H (by rfl) ctX ?_); clear H; intro a w H; replace H := ntf H; simp only [List.drop_succ_cons, List.drop_zero, List.drop_nil])
              refine wpT_nil ?_
              try dsimp only
              refine wpZ_two (cs := []) (by rfl) (by rfl) ?_
              refine all1 ?_
              refine wpZ_pick (pend' := [12, 13]) (by rfl) (by rfl) ?_
              repeat ((first | refine v_someT 3 tab_ok hN H (by rfl) ctX ?_ | refine v_someT 2 tab_ok hN H (by rfl) ctX ?_ | refine v_someT 1 tab_ok hN H (by rfl) ctX ?_); clear H; intro a w H; replace H := ntf H; simp only [List.drop_succ_cons, List.drop_zero, List.drop_nil])
              refine wpT_nil ?_
              try dsimp only
              refine wpZ_run 1 (i := 12) (n' := 1) (pend' := [13]) (by rfl) (by rfl) (by rfl) (by rfl) (by rfl) ?_
              repeat ((first | refine v_someT 3 tab_ok hN H (by rfl) ctX ?_ | refine v_someT 2 tab_ok hN H (by rfl) ctX ?_ | refine v_someT 1 tab_ok hN H (by rfl) ctX ?_); clear H; intro a w H; replace H := ntf H; simp only [List.drop_succ_cons, List.drop_zero, List.drop_nil])
              refine wpT_nil ?_
              try dsimp only
              refine wpZ_two (cs := []) (by rfl) (by rfl) ?_
              refine all1 ?_
              refine wpZ_pick (pend' := []) (by rfl) (by rfl) ?_
              repeat ((first | refine v_someT 3 tab_ok hN H (by rfl) ctX ?_ | refine v_someT 2 tab_ok hN H (by rfl) ctX ?_ | refine v_someT 1 tab_ok hN H (by rfl) ctX ?_); clear H; intro a w H; replace H := ntf H; simp only [List.drop_succ_cons, List.drop_zero, List.drop_nil])
              refine wpT_nil ?_
              try dsimp only
              refine wpZ_nil ?_
              replace H := RelT.toRel H
        rotate_left 3
        focus
          refine wpZ_pick (pend' := [0, 1, 10, 11, 12, 13]) (by rfl) (by rfl) ?_
          refine mCallT [] [] (hat) H ?_; clear H; intro a w H
          refine wpT_nil ?_
          try dsimp only
          refine wpZ_two (cs := [10]) (by rfl) (by rfl) ?_
          refine all2 ?_
          refine ⟨?_, ?_⟩
          focus
            refine wpZ_pick (pend' := [1, 10, 11, 12, 13]) (by rfl) (by rfl) ?_
            repeat ((first | refine v_someT 3 tab_ok hN H (by rfl) ctX ?_ | refine v_someT 2 tab_ok hN H (by rfl) ctX ?_ | refine v_someT 1 tab_ok hN H (by rfl) ctX ?_); clear H; intro a w H; replace H := ntf H; simp only [List.drop_succ_cons, List.drop_zero, List.drop_nil])
            refine wpT_nil ?_
            try dsimp only
            refine wpZ_two (cs := [10]) (by rfl) (by rfl) ?_
            refine all2 ?_
            refine ⟨?_, ?_⟩
            focus
              refine wpZ_pick (pend' := [10, 11, 12, 13]) (by rfl) (by rfl) ?_
              repeat ((first | refine v_someT 3 tab_ok hN H (by rfl) ctX ?_ | refine v_someT 2 tab_ok hN H (by rfl) ctX ?_ | refine v_someT 1 tab_ok hN H (by rfl) ctX ?_); clear H; intro a w H; replace H := ntf H; simp only [List.drop_succ_cons, List.drop_zero, List.drop_nil])
              refine wpT_nil ?_
              try dsimp only
              refine wpZ_two (cs := []) (by rfl) (by rfl) ?_
              refine all1 ?_
              refine wpZ_pick (pend' := [11, 12, 13]) (by rfl) (by rfl) ?_
              repeat ((first | refine v_someT 3 tab_ok hN H (by rfl) ctX ?_ | refine v_someT 2 tab_ok hN H (by rfl) ctX ?_ | refine v_someT 1 tab_ok hN H (by rfl) ctX ?_); clear H; intro a w H; replace H := ntf H; simp only [List.drop_succ_cons, List.drop_zero, List.drop_nil])
              refine wpT_nil ?_
              try dsimp only
              refine wpZ_two (cs := []) (by rfl) (by rfl) ?_
              refine all1 ?_
              refine wpZ_pick (pend' := [12, 13]) (by rfl) (by rfl) ?_
              repeat ((first | refine v_someT 3 tab_ok hN H (by rfl) ctX ?_ | refine v_someT 2 tab_ok hN H (by rfl) ctX ?_ | refine v_someT 1 tab_ok hN H (by rfl) ctX ?_); clear H; intro a w H; replace H := ntf H; simp only [List.drop_succ_cons, List.drop_zero, List.drop_nil])
              refine wpT_nil ?_
              try dsimp only
              refine wpZ_run 1 (i := 12) (n' := 1) (pend' := [13]) (by rfl) (by rfl) (by rfl) (by rfl) (by rfl) ?_
              repeat ((first | refine v_someT 3 tab_ok hN H (by rfl) ctX ?_ | refine v_someT 2 tab_ok hN H (by rfl) ctX ?_ | refine v_someT 1 tab_ok hN H (by rfl) ctX ?_); clear H; intro a w H; replace H := ntf H; simp only [List.drop_succ_cons, List.drop_zero, List.drop_nil])
              refine wpT_nil ?_
              try dsimp only
              refine wpZ_two (cs := []) (by rfl) (by rfl) ?_
              refine all1 ?_
              refine wpZ_pick (pend' := []) (by rfl) (by rfl) ?_
              repeat ((first | refine v_someT 3 tab_ok hN H (by rfl) ctX ?_ | refine v_someT 2 tab_ok hN H (by rfl) ctX ?_ | refine v_someT 1 tab_ok hN H (by rfl) ctX ?_); clear H; intro a w H; replace H := ntf H; simp only [List.drop_succ_cons, List.drop_zero, List.drop_nil])
              refine wpT_nil ?_
              try dsimp only
              refine wpZ_nil ?_
              replace H := RelT.toRel H
            rotate_left 1
            focus
              refine wpZ_pick (pend' := [1, 11, 12, 13]) (by rfl) (by rfl) ?_
              repeat ((first | refine v_someT 3 tab_ok hN H (by rfl) ctX ?_ | refine v_someT 2 tab_ok hN H (by rfl) ctX ?_ | refine v_someT 1 tab_ok hN H (by rfl) ctX ?_); clear H; intro a w H; replace H := ntf H; simp only [List.drop_succ_cons, List.drop_zero, List.drop_nil])
              refine wpT_nil ?_
              try dsimp only
              refine wpZ_two (cs := []) (by rfl) (by rfl) ?_
              refine all1 ?_
              refine wpZ_pick (pend' := [11, 12, 13]) (by rfl) (by rfl) ?_
              repeat ((first | refine v_someT 3 tab_ok hN H (by rfl) ctX ?_ | refine v_someT 2 tab_ok hN H (by rfl) ctX ?_ | refine v_someT 1 tab_ok hN H (by rfl) ctX ?_); clear H; intro a w H; replace H := ntf H; simp only [List.drop_succ_cons, List.drop_zero, List.drop_nil])
              refine wpT_nil ?_
              try dsimp only
              refine wpZ_two (cs := []) (by rfl) (by rfl) ?_
              refine all1 ?_
              refine wpZ_pick (pend' := [12, 13]) (by rfl) (by rfl) ?_
              repeat ((first | refine v_someT 3 tab_ok hN H (by rfl) ctX ?_ | refine v_someT 2 tab_ok hN H (by rfl) ctX ?_ | refine v_someT 1 tab_ok hN H (by rfl) ctX ?_); clear H; intro a w H; replace H := ntf H; simp only [List.drop_succ_cons, List.drop_zero, List.drop_nil])
              refine wpT_nil ?_
              try dsimp only
              refine wpZ_run 1 (i := 12) (n' := 1) (pend' := [13]) (by rfl) (by rfl) (by rfl) (by rfl) (by rfl) ?_
              repeat ((first | refine v_someT 3 tab_ok hN H (by rfl) ctX ?_ | refine v_someT 2 tab_ok hN H (by rfl) ctX ?_ | refine v_someT 1 tab_ok hN H (by rfl) ctX ?_); clear H; intro a w H; replace H := ntf H; simp only [List.drop_succ_cons, List.drop_zero, List.drop_nil])
              refine wpT_nil ?_
              try dsimp only
              refine wpZ_two (cs := []) (by rfl) (by rfl) ?_
              refine all1 ?_
              refine wpZ_pick (pend' := []) (by rfl) (by rfl) ?_
              repeat ((first | refine v_someT 3 tab_ok hN H (by rfl) ctX ?_ | refine v_someT 2 tab_ok hN H (by rfl) ctX ?_ | refine v_someT 1 tab_ok hN H (by rfl) ctX ?_); clear H; intro a w H; replace H := ntf H; simp only [List.drop_succ_cons, List.drop_zero, List.drop_nil])
              refine wpT_nil ?_
              try dsimp only
              refine wpZ_nil ?_
              replace H := RelT.toRel H
          rotate_left 2
          focus
            refine wpZ_pick (pend' := [0, 1, 11, 12, 13]) (by rfl) (by rfl) ?_
            repeat ((first | refine v_someT 3 tab_ok hN H (by rfl) ctX ?_ | refine v_someT 2 tab_ok hN H (by rfl) ctX ?_ | refine v_someT 1 tab_ok hN H (by rfl) ctX ?_); clear H; intro a w H; replace H := ntf H; simp only [List.drop_succ_cons, List.drop_zero, List.drop_nil])
            refine wpT_nil ?_
            try dsimp only
            refine wpZ_two (cs := []) (by rfl) (by rfl) ?_
            refine all1 ?_
            refine wpZ_pick (pend' := [1, 11, 12, 13]) (by rfl) (by rfl) ?_
            repeat ((first | refine v_someT 3 tab_ok hN H (by rfl) ctX ?_ | refine v_someT 2 tab_ok hN H (by rfl) ctX ?_ | refine v_someT 1 tab_ok hN H (by rfl) ctX ?_); clear H; intro a w H; replace H := ntf H; simp only [List.drop_succ_cons, List.drop_zero, List.drop_nil])
            refine wpT_nil ?_
            try dsimp only
            refine wpZ_two (cs := []) (by rfl) (by rfl) ?_
            refine all1 ?_
            refine wpZ_pick (pend' := [11, 12, 13]) (by rfl) (by rfl) ?_
            repeat ((first | refine v_someT 3 tab_ok hN H (by rfl) ctX ?_ | refine v_someT 2 tab_ok hN H (by rfl) ctX ?_ | refine v_someT 1 tab_ok hN H (by rfl) ctX ?_); clear H; intro a w H; replace H := ntf H; simp only [List.drop_succ_cons, List.drop_zero, List.drop_nil])
            refine wpT_nil ?_
            try dsimp only
            refine wpZ_two (cs := []) (by rfl) (by rfl) ?_
            refine all1 ?_
            refine wpZ_pick (pend' := [12, 13]) (by rfl) (by rfl) ?_
            repeat ((first | refine v_someT 3 tab_ok hN H (by rfl) ctX ?_ | refine v_someT 2 tab_ok hN H (by rfl) ctX ?_ | refine v_someT 1 tab_ok hN H (by rfl) ctX ?_); clear H; intro a w H; replace H := ntf H; simp only [List.drop_succ_cons, List.drop_zero, List.drop_nil])
            refine wpT_nil ?_
            try dsimp only
            refine wpZ_run 1 (i := 12) (n' := 1) (pend' := [13]) (by rfl) (by rfl) (by rfl) (by rfl) (by rfl) ?_
            repeat ((first | refine v_someT 3 tab_ok hN H (by rfl) ctX ?_ | refine v_someT 2 tab_ok hN H (by rfl) ctX ?_ | refine v_someT 1 tab_ok hN H (by rfl) ctX ?_); clear H; intro a w H; replace H := ntf H; simp only [List.drop_succ_cons, List.drop_zero, List.drop_nil])
            refine wpT_nil ?_
            try dsimp only
            refine wpZ_two (cs := []) (by rfl) (by rfl) ?_
            refine all1 ?_
            refine wpZ_pick (pend' := []) (by rfl) (by rfl) ?_
            repeat ((first | refine v_someT 3 tab_ok hN H (by rfl) ctX ?_ | refine v_someT 2 tab_ok hN H (by rfl) ctX ?_ | refine v_someT 1 tab_ok hN H (by rfl) ctX ?_); clear H; intro a w H; replace H := ntf H; simp only [List.drop_succ_cons, List.drop_zero, List.drop_nil])
            refine wpT_nil ?_
            try dsimp only
            refine wpZ_nil ?_
            replace H := RelT.toRel H
      all_goals
        refine mS ?_
        refine mW ?_; clear H; intro a w H
        refine mCall [] [] (s1) H ?_; clear H; intro a w H; try refine wpList_nil ?_
        refine mW ?_; clear H; intro a w H
        try rw [← bas_snoc] at H
        exact ⟨(d + 1, o, ss ++ [x]), hnext, by dsimp only; omega, H.to 3 1 ⟨Nat.le_trans hN (by decide), Nat.le_trans hR (by decide)⟩ ⟨rfl, rfl, rfl, rfl, rfl, rfl, trivial⟩ rfl (by dsimp only; rw [List.length_append]; rfl) rfl rfl rfl⟩
    · have h2 : s.length < 2 := by rw [decide_eq_false_iff_not] at hb; omega
      clear hb
      have hE := hwy.e
      have hW := hwy.w
      have hsk2 := hwy.k
      have hsv2 := hwy.v
      dsimp only at hE hW hsk2 hsv2
      rw [endA_small _ _ _ _ (by rw [dgs_len]; exact h2)] at hE
      rw [wayA_small _ _ _ _ (by rw [dgs_len]; exact h2), List.append_nil] at hW
      subst hW
      clear hwy
      match s, h2 with
      | [], _ =>
        subst hE
        simp only [List.map_nil] at H
        clear hX; have hX := @hssl
        refine mW ?_; clear H; intro a w H
        refine mC H (fun hb => ?_) (fun hb => ?_)
        · simp at hb
        · refine mW ?_; clear H; intro a w H
          simp only [endB, dgs, List.map_nil, Nd.zero, Nd.av]
          refine wp_ret ?_; exact mEnd [] [0] [.cell 4 41, .tmp 5] [_, _] hN hR H
      | [x], _ =>
        subst hE
        have q1 := hsk2 x List.mem_cons_self
        have q2 := valueR_v x.2 (hsv2 x List.mem_cons_self)
        have q3 := valH_len x.2
        obtain ⟨kb, vb⟩ := x
        dsimp only at q1 q2 q3
        simp only [List.map_cons, List.map_nil, prA] at H
        clear hX; have hX := @hssl
        refine mW ?_; clear H; intro a w H
        refine mC H (fun hb => ?_) (fun hb => ?_)
        · refine mS ?_; refine mD 0 [8, 11] [0, 1, 2, 3] H ?_; clear H; intro gS H
          refine mT ?_; clear H; intro a w H
          refine mCallT [] [] (q2) H ?_; clear H; intro a w H
          refine mT ?_; clear H; intro a w H
          refine v_drawNil H ?_; clear H; intro H
          refine mW ?_; clear H; intro a w H
          simp only [endB, dgs, List.map_nil, List.map_cons, Nd.one, Nd.av]
          refine wp_ret ?_; exact mEnd [] [0] [.cell 4 41, .tmp 5] [_, _] hN hR H
        · simp at hb
end Go.Proofs.Ythphhnkoilcofaa
/- Proofs as bytes: there and back, in plain Lean. -/
namespace Go.Proofs.Ythphhnkoilcofaa
open Go Go.RowKit
def Pf.pre (p : Pf) (r : List UInt8) : List UInt8 := [UInt8.ofNat (p.s.length / 256), UInt8.ofNat p.s.length] ++ (p.bits ++ (hashes p.s ++ r))
theorem Pf.chk_ok {p : Pf} (h : p.chk = 0) : p.s.length ≤ 256 ∧ p.e.ok ∧ p.e.k ≠ 2 := by
  unfold Pf.chk at h
  split at h
  · cases h
  · split at h
    · rename_i h1 h2; exact ⟨by omega, h2⟩
    · cases h
theorem ntext_len {n : Nd} (hw : n.wf) (h2 : n.k ≠ 2) : n.text.length = 1 ∨ n.text.length = 65 := by
  obtain ⟨h1, h3, _, _⟩ := hw
  unfold Nd.text
  split
  · right; simp; omega
  · left; first | rfl | (rw [if_neg h2]; rfl)
theorem plen (p : Pf) (hw : p.wf) (h : p.chk = 0) : 3 ≤ p.text.length ∧ p.text.length ≤ 8291 := by
  obtain ⟨h1, h2, h3⟩ := p.chk_ok h
  have hl := ntext_len hw.e h3
  have hbl : p.bits.length = (p.s.length + 7) / 8 := bitsB_len _ _
  have hh := hashes_len p.s hw.s
  simp only [Pf.text, List.length_append, List.length_cons, List.length_nil]
  omega
end Go.Proofs.Ythphhnkoilcofaa
/- Ways among entries, plain: they lead up to the root, and say what is there; the error of node.Way. -/
namespace Go.Proofs.Ythphhnkoilcofaa
open Go Go.RowKit
theorem endA_form (key : List UInt8) : ∀ (f d : Nat) (m : List En), endA key f d m = Nd.zero ∨ ∃ x ∈ m, endA key f d m = Nd.one x.1 x.2 := by
  have small : ∀ (m : List En), endB m = Nd.zero ∨ ∃ x ∈ m, endB m = Nd.one x.1 x.2 := fun m => by
    match m with
    | [] => exact .inl rfl
    | x :: _ => exact .inr ⟨x, List.mem_cons_self, rfl⟩
  intro f
  induction f with
  | zero => intro d m; exact small m
  | succ f ih =>
    intro d m
    by_cases h2 : m.length < 2
    · rw [endA_small _ _ _ _ h2]; exact small m
    · rw [endA, if_neg h2]
      rcases ih (d + 1) (half (bitN key d) d m) with h | ⟨x, hx, e⟩
      · exact .inl h
      · exact .inr ⟨x, (List.mem_filter.1 hx).1, e⟩
theorem wayE_wf (l : List Pr) (hk : K32 l) (hd : Dis l) (key : List UInt8) : (wayE l key).wf ∧ (wayE l key).chk = 0 := by
  obtain ⟨e1, e2⟩ := wayE_of l hk hd key
  have hf := endA_form key 256 0 (dgs l)
  rw [← e2] at hf
  have hl := wayA_le key 256 0 (dgs l)
  rw [← e1] at hl
  refine ⟨⟨fun h hh => wayA_w key 256 0 (dgs l) h (e1 ▸ hh), ?_⟩, ?_⟩
  · rcases hf with h | ⟨x, hx, h⟩
    · rw [h]; exact zero_wf
    · rw [h]
      obtain ⟨p, hp, rfl⟩ := List.mem_map.1 hx
      exact Nd.one_wf (hk p hp) (valH_len _)
  · unfold Pf.chk
    rw [if_neg (by omega), if_pos]
    rcases hf with h | ⟨x, hx, h⟩
    · rw [h]; exact ⟨zero_ok, by decide⟩
    · rw [h]; exact ⟨by simp [Nd.ok, Nd.bare, Nd.one], by simp [Nd.one]⟩
set_option maxRecDepth 20000 in
theorem nwayBad_v (l : List Pr) (hk : K32 l) (hl : l.length ≤ 34359730000) (key : List UInt8) (hk32 : key.length = 32) (he : errP l ≠ 0) :
    VC Try.prog 58 [.sl prT (l.map prA) none, .ba key] [] (.tup [Pf.zero.av, errv (errP l : Int)]) := by
  have hs := sorted_v l hk (by omega)
  have hr : resP l = .tup [.sl prT [] none, .v (.int .i64 (errP l : Int))] := by unfold resP; rw [if_neg he]
  rw [hr] at hs
  generalize errP l = er at *
  refine mE Try.func58 ?_; intro N w0 a w hN hR H
  refine mW ?_; clear H; intro a w H
  refine mCall [] [] (hs) H ?_; clear H; intro a w H; try refine wpList_nil ?_
  refine mW ?_; clear H; intro a w H
  refine mC H (fun hb => ?_) (fun hb => ?_)
  · refine mW ?_; clear H; intro a w H
    simp only [Pf.zero, Pf.av, Nd.av, Nd.zero, bas, List.map_nil]
    try simp only [hz] at H
    refine wp_ret ?_; exact mEnd [] [] [.cell 4 41, .tmp 5] [_, _] hN hR H
  · simp at hb; omega
set_option maxRecDepth 20000 in
theorem wayBadR_v (l : List Pr) (hk : K32 l) (hl : l.length ≤ 34359730000) (key : List UInt8) (hk32 : key.length = 32) (he : errP l ≠ 0) :
    VC Try.prog 59 [.sl prT (l.map prA) none, .ba key] [] (.tup [Pf.zero.av, errv (errP l : Int)]) := by
  have hs := listR_v l hk (by omega)
  generalize errP l = er at *
  refine mE Try.func59 ?_; intro N w0 a w hN hR H
  refine mW ?_; clear H; intro a w H
  refine mCall [] [] (hs) H ?_; clear H; intro a w H; try refine wpList_nil ?_
  refine mW ?_; clear H; intro a w H
  refine mC H (fun hb => ?_) (fun hb => ?_)
  · refine mW ?_; clear H; intro a w H
    simp only [Pf.zero, Pf.av, Nd.av, Nd.zero, bas, List.map_nil]
    try simp only [hz] at H
    refine wp_ret ?_; exact mEnd [] [] [.cell 4 41, .tmp 5] [_, _] hN hR H
  · simp at hb; omega
end Go.Proofs.Ythphhnkoilcofaa
/- The statement NodeRoots, in values. -/
namespace Go.Proofs.Ythphhnkoilcofaa
open Go Go.RowKit
theorem fewP_v (l : List Pr) (hl : l.length ≤ 1048576) : VC Try.prog 37 [.sl prT (l.map prA) none] [] (.v (.bool (decide (l.length ≤ 40 ∨ 4096 < l.length)))) := by
  have hlm : (l.map prA).length = l.length := List.length_map ..
  have hd : (bif decide ((l.length : Int) ≤ 40) then true else decide ((4096 : Int) < (l.length : Int))) = decide (l.length ≤ 40 ∨ 4096 < l.length) := by
    by_cases h1 : l.length ≤ 40
    · rw [decide_eq_true (show (l.length : Int) ≤ 40 by omega), decide_eq_true (show l.length ≤ 40 ∨ 4096 < l.length from .inl h1)]; rfl
    · rw [decide_eq_false (show ¬ (l.length : Int) ≤ 40 by omega)]
      by_cases h2 : 4096 < l.length
      · rw [decide_eq_true (show (4096 : Int) < (l.length : Int) by omega), decide_eq_true (show l.length ≤ 40 ∨ 4096 < l.length from .inr h2)]; rfl
      · rw [decide_eq_false (show ¬ (4096 : Int) < (l.length : Int) by omega), decide_eq_false (show ¬ (l.length ≤ 40 ∨ 4096 < l.length) by omega)]; rfl
  refine mE Try.func37 ?_; intro N w0 a w hN hR H
  have hX := @hlm
  refine mW ?_; clear H; intro a w H
  rw [hd] at H
  refine wp_ret ?_; exact mEnd [] [] [.tmp 2] [_] hN hR H
theorem lentA_sub (l : List Pr) (k : Nat) (h1 : k < (l.map prA).length) : sub 3 ((lentPs l)[k]'(by rw [lentPs_len]; rw [List.length_map] at h1; omega)) (l.map prA)[k] := by
  have h2 : k < l.length := by simpa using h1
  have e1 : (lentPs l)[k]'(by rw [lentPs_len]; omega) = lentA l[k] := by simp [lentPs, List.getElem_append, h2]
  rw [e1, List.getElem_map]
  exact ⟨rfl, by simp [sub, lentOf], trivial⟩
end Go.Proofs.Ythphhnkoilcofaa
/- The statement NodeWays, in values. -/
namespace Go.Proofs.Ythphhnkoilcofaa
open Go Go.RowKit
theorem fway_v (l : List Pr) (hk : K32 l) (hl : l.length ≤ 34359730000) (key : List UInt8) (hk32 : key.length = 32) (he : errP l = 0) :
    VC Try.prog 58 [.sl prT (l.map prA) none, .ba key] [] (.tup [(wayE l key).av, errv 0]) := by
  refine (nway_v l hk hl key hk32 he).lessT ⟨⟨⟨rfl, rfl⟩, sub_refl _ _, trivial⟩, rfl, trivial⟩ ?_
  rfl
theorem fwayR_v (l : List Pr) (hk : K32 l) (hl : l.length ≤ 34359730000) (key : List UInt8) (hk32 : key.length = 32) (he : errP l = 0) :
    VC Try.prog 59 [.sl prT (l.map prA) none, .ba key] [] (.tup [(wayE l key).av, errv 0]) := by
  refine (wayR_v l hk hl key hk32 he).lessT ⟨⟨⟨rfl, rfl⟩, sub_refl _ _, trivial⟩, rfl, trivial⟩ ?_
  rfl
set_option maxRecDepth 20000 in
set_option maxHeartbeats 8000000 in
theorem nodeWays_v (l : List Pr) (hk : K32 l) (hv : V0 l) (hl : l.length ≤ 1048576) (key : List UInt8) (hk32 : key.length = 32) (p : Pf) (hp : p.wf) (hpl : p.s.length ≤ 1048576) : VC Try.prog 8 [.sl prT (l.map prA) none, .ba key, p.av] [] (.v (.bool true)) := by
  have c0 := fewP_v l hl
  have c1 := lentP_v l hk hv hl
  have c6 := keptP_v l hk hv hl
  have hq := lentPs_len l
  have hpm : (l.map prA).length = l.length := List.length_map ..
  have hsb := lentA_sub l
  have cu := upX_v key hk32 p hp (by omega)
  have cv := upXR_v key hk32 p hp (by omega)
  have hul := topX_len key p
  have cc := copyPf_v p hp (by omega)
  have cs := sameP_v p p hp hp (by omega)
  rw [decide_eq_true (show p = p from rfl)] at cs
  generalize topX key p = tx at *
  generalize p.chk = ch at *
  obtain ⟨f1, f2, f3, f4⟩ := id hp.e
  obtain ⟨s, n⟩ := p
  dsimp only at f1 f2 f3 f4 hpl
  have hsl := bas_len s
  by_cases he : errP l = 0
  · have c2 := nwayV_v l hk (by omega) key hk32 he
    have c3 := fway_v l hk (by omega) key hk32 he
    have c4 := fwayR_v l hk (by omega) key hk32 he
    obtain ⟨hle, hdis, hvals⟩ := errP_ok he
    obtain ⟨hpw, hpc⟩ := wayE_wf l hk hdis key
    have hsl2 : (wayE l key).s.length ≤ 256 := by
      obtain ⟨e1, e2⟩ := wayE_of l hk hdis key
      rw [e1]; exact wayA_le key 256 0 (dgs l)
    have c5 := sameP_v (wayE l key) (wayE l key) hpw hpw (by omega)
    rw [decide_eq_true (show wayE l key = wayE l key from rfl)] at c5
    obtain ⟨g1, g2, g3, g4⟩ := id hpw.e
    generalize wayE l key = q at *
    obtain ⟨qs, qn⟩ := q
    dsimp only at g1 g2 g3 g4 c2 hsl2
    have hql := bas_len qs
    simp only [Pf.av, Nd.av] at c2 c3 c4 c5 cu cv cc cs
    refine mE Try.func8 ?_; intro N w0 a w hN hR H
    simp only [Pf.av, Nd.av] at H
    have hX := @hsl
    refine mW ?_; clear H; intro a w H
    refine mCall [] [] (c0) H ?_; clear H; intro a w H; try refine wpList_nil ?_
    refine mW ?_; clear H; intro a w H
    refine mC H (fun hb => ?_) (fun hb => ?_)
    · refine mW ?_; clear H; intro a w H
      refine wp_ret ?_; exact mEnd [] [] [.tmp 6] [_] hN hR H
    · clear hb
      refine mW ?_; clear H; intro a w H
      refine mCall [] [] (c1) H ?_; clear H; intro a w H; try refine wpList_nil ?_
      refine mW ?_; clear H; intro a w H
      replace H := v_slcL H 32 (es' := l.map prA) rfl (by omega) hpm hsb
      simp only [nilT, reduceIte, Nat.reduceEqDiff] at H
      refine mCall [] [] (c2) H ?_; clear H; intro a w H; try refine wpList_nil ?_
      refine mW ?_; clear H; intro a w H
      replace H := v_slcL H 38 (es' := l.map prA) rfl (by omega) hpm hsb
      simp only [nilT, reduceIte, Nat.reduceEqDiff] at H
      refine mCall [] [] (c3) H ?_; clear H; intro a w H; try refine wpList_nil ?_
      refine mW ?_; clear H; intro a w H
      refine mCall [] [] (c4) H ?_; clear H; intro a w H; try refine wpList_nil ?_
      refine mW ?_; clear H; intro a w H
      have hqt : bas qs = (bas qs).take qs.length := (List.take_of_length_le (by omega)).symm
      refine v_callR c5 H (by rfl) rfl rfl (by exact ⟨⟨⟨_, _, rfl, by omega, hqt⟩, ⟨⟨sub_refl _ _, rfl, rfl⟩, ⟨sub_refl _ _, rfl, rfl⟩, ⟨sub_refl _ _, rfl, rfl⟩, ⟨sub_refl _ _, rfl, rfl⟩, ⟨sub_refl _ _, rfl, rfl⟩, trivial⟩, trivial⟩, ⟨⟨⟨rfl, rfl⟩, rfl, rfl⟩, ⟨⟨sub_refl _ _, rfl, rfl⟩, ⟨sub_refl _ _, rfl, rfl⟩, ⟨sub_refl _ _, rfl, rfl⟩, ⟨sub_refl _ _, rfl, rfl⟩, ⟨sub_refl _ _, rfl, rfl⟩, trivial⟩, trivial⟩, trivial⟩) ?_; clear H; intro a w H
      replace H := nf H
      refine mW ?_; clear H; intro a w H
      refine mCallG [] [] (c5) H ?_; clear H; intro a w H; try refine wpList_nil ?_
      refine mW ?_; clear H; intro a w H
      refine mCallG [] [] (c6) H ?_; clear H; intro a w H; try refine wpList_nil ?_
      refine mW ?_; clear H; intro a w H
      refine mC H (fun hb => ?_) (fun hb => ?_)
      · simp at hb
      · clear hb
        replace H := mK [0, 4, 5, 6, 8, 10, 12] 6 0 hN hR H
        clear hX; have hX := And.intro @hul (@hsl)
        refine mW ?_; clear H; intro a w H
        refine mCall [] [] (cc) H ?_; clear H; intro a w H; try refine wpList_nil ?_
        refine mW ?_; clear H; intro a w H
        refine mCall [] [] (cu) H ?_; clear H; intro a w H; try refine wpList_nil ?_
        refine mW ?_; clear H; intro a w H
        refine mCall [] [] (cv) H ?_; clear H; intro a w H; try refine wpList_nil ?_
        refine mW ?_; clear H; intro a w H
        refine mCallG [] [] (cs) H ?_; clear H; intro a w H; try refine wpList_nil ?_
        refine mW ?_; clear H; intro a w H
        refine mC H (fun hb => ?_) (fun hb => ?_)
        · simp at hb
        · clear hb
          replace H := mK [4, 5, 6, 8, 10, 12] 6 0 hN hR H
          clear hX; have hX := @hql
          refine mW ?_; clear H; intro a w H
          refine v_loop (fun i : Nat × List AV => ⟨[(19, none, .v (.int .i64 (i.1 : Int))), (4, none, .ptr 0 []), (5, none, .ptr 1 []), (6, none, .v (.bool false)), (8, none, .ptr 3 []), (10, none, .ptr 4 []), (12, none, .ptr 5 [])],
            [(.ba 32, .ba key), (ti41.ty, .st [.sl (.ba 32) (bas s) none, .st [.v (B8 n.k), .ba n.key, .ba n.v, .ba n.l, .ba n.r]]), (.vc 27 (.ba 32), .vc qs.length i.2), (ti41.ty, .st [.vw 2 qs.length qs.length, .st [.v (B8 qn.k), .ba qn.key, .ba qn.v, .ba qn.l, .ba qn.r]]), (ti41.ty, .st [.sl (.ba 32) (bas qs) none, .st [.v (B8 qn.k), .ba qn.key, .ba qn.v, .ba qn.l, .ba qn.r]]), (ti41.ty, .st [.sl (.ba 32) (bas qs) none, .st [.v (B8 qn.k), .ba qn.key, .ba qn.v, .ba qn.l, .ba qn.r]])], [], []⟩) (fun i => i.1 ≤ qs.length ∧ i.2.length = qs.length) (fun i => qs.length - i.1) (0, bas qs) ⟨Nat.zero_le _, hql⟩ (H.to 6 0 ⟨Nat.le_trans hN (by decide), hR⟩ ⟨rfl, rfl, rfl, rfl, rfl, rfl, rfl, trivial⟩ rfl rfl rfl rfl rfl) ?_
          clear H
          rintro ⟨k, es⟩ a w ⟨hk1, hk2⟩ H
          dsimp only at H hk1 hk2
          clear hX
          refine mW ?_; clear H; intro a w H
          refine mC H (fun hb => ?_) (fun hb => ?_)
          · have hlt : k < qs.length := by rw [decide_eq_true_eq] at hb; omega
            clear hb
            have hX := @hk2
            refine mW ?_; clear H; intro a w H
            exact ⟨(k + 1, _), ⟨hlt, by simp [hk2]⟩, by dsimp only; omega, H.to 6 0 ⟨Nat.le_trans hN (by decide), hR⟩ ⟨rfl, rfl, rfl, rfl, rfl, rfl, rfl, trivial⟩ rfl rfl rfl rfl rfl⟩
          · clear hb
            refine mW ?_; clear H; intro a w H
            refine mCall [] [] (c5) H ?_; clear H; intro a w H; try refine wpList_nil ?_
            refine mW ?_; clear H; intro a w H
            refine wp_ret ?_; exact mEnd [] [] [.tmp 6] [_] hN hR H
  · have c2 := nwayBad_v l hk (by omega) key hk32 he
    have c4 := wayBadR_v l hk (by omega) key hk32 he
    have c5 := sameP_v Pf.zero Pf.zero pzero_wf pzero_wf (by simp [Pf.zero])
    rw [decide_eq_true (show Pf.zero = Pf.zero from rfl)] at c5
    have hz2 := z32_len
    generalize (errP l : Int) = er at *
    simp only [Pf.zero, Pf.av, Nd.av, Nd.zero, bas, List.map_nil] at c2 c4 c5
    simp only [Pf.av, Nd.av] at cu cv cc cs
    refine mE Try.func8 ?_; intro N w0 a w hN hR H
    simp only [Pf.av, Nd.av] at H
    have hX := @hsl
    refine mW ?_; clear H; intro a w H
    refine mCall [] [] (c0) H ?_; clear H; intro a w H; try refine wpList_nil ?_
    refine mW ?_; clear H; intro a w H
    refine mC H (fun hb => ?_) (fun hb => ?_)
    · refine mW ?_; clear H; intro a w H
      refine wp_ret ?_; exact mEnd [] [] [.tmp 6] [_] hN hR H
    · clear hb
      refine mW ?_; clear H; intro a w H
      refine mCall [] [] (c1) H ?_; clear H; intro a w H; try refine wpList_nil ?_
      refine mW ?_; clear H; intro a w H
      replace H := v_slcL H 32 (es' := l.map prA) rfl (by omega) hpm hsb
      simp only [nilT, reduceIte, Nat.reduceEqDiff] at H
      refine mCall [] [] (c2) H ?_; clear H; intro a w H; try refine wpList_nil ?_
      refine mW ?_; clear H; intro a w H
      replace H := v_slcL H 38 (es' := l.map prA) rfl (by omega) hpm hsb
      simp only [nilT, reduceIte, Nat.reduceEqDiff] at H
      refine mCall [] [] (c2) H ?_; clear H; intro a w H; try refine wpList_nil ?_
      refine mW ?_; clear H; intro a w H
      refine mCall [] [] (c4) H ?_; clear H; intro a w H; try refine wpList_nil ?_
      refine mW ?_; clear H; intro a w H
      refine mCall [] [] (c5) H ?_; clear H; intro a w H; try refine wpList_nil ?_
      refine mW ?_; clear H; intro a w H
      refine mCallG [] [] (c5) H ?_; clear H; intro a w H; try refine wpList_nil ?_
      refine mW ?_; clear H; intro a w H
      refine mCallG [] [] (c6) H ?_; clear H; intro a w H; try refine wpList_nil ?_
      refine mW ?_; clear H; intro a w H
      refine mC H (fun hb => ?_) (fun hb => ?_)
      · simp at hb
      · clear hb
        replace H := mK [0, 4, 5, 6, 8, 10, 12] 5 0 hN hR H
        clear hX; have hX := And.intro @hul (@hsl)
        refine mW ?_; clear H; intro a w H
        refine mCall [] [] (cc) H ?_; clear H; intro a w H; try refine wpList_nil ?_
        refine mW ?_; clear H; intro a w H
        refine mCall [] [] (cu) H ?_; clear H; intro a w H; try refine wpList_nil ?_
        refine mW ?_; clear H; intro a w H
        refine mCall [] [] (cv) H ?_; clear H; intro a w H; try refine wpList_nil ?_
        refine mW ?_; clear H; intro a w H
        refine mCallG [] [] (cs) H ?_; clear H; intro a w H; try refine wpList_nil ?_
        refine mW ?_; clear H; intro a w H
        refine mC H (fun hb => ?_) (fun hb => ?_)
        · simp at hb
        · clear hb
          clear hX
          refine mW ?_; clear H; intro a w H
          refine v_loop (fun k : Nat => ⟨[(19, none, .v (.int .i64 0)), (6, none, .v (.bool false)), (8, none, .ptr 2 []), (10, none, .ptr 3 []), (12, none, .ptr 4 [])], _, [], []⟩) (fun k => k = 0) (fun k => k) 0 rfl (H.to 5 0 ⟨Nat.le_trans hN (by decide), hR⟩ ⟨rfl, rfl, rfl, rfl, rfl, trivial⟩ rfl rfl rfl rfl rfl) ?_
          clear H
          rintro k a w hk0 H
          refine mW ?_; clear H; intro a w H
          refine mC H (fun hb => ?_) (fun hb => ?_)
          · simp at hb
          · clear hb
            refine mW ?_; clear H; intro a w H
            refine mCall [] [] (c5) H ?_; clear H; intro a w H; try refine wpList_nil ?_
            refine mW ?_; clear H; intro a w H
            refine wp_ret ?_; exact mEnd [] [] [.tmp 6] [_] hN hR H
end Go.Proofs.Ythphhnkoilcofaa
/- Nodes among the arguments. -/
namespace Go.Proofs.Ythphhnkoilcofaa
open Go Go.RowKit
theorem node_sh {M d : Nat} {a : AV} (h : Sh tab M (d + 3) 39 a) : ∃ n : Nd, a = n.av ∧ n.wf := by
  obtain ⟨az, rfl, hs⟩ := h.rcd rfl rfl
  clear h; have h := hs; clear hs; dsimp only [List.map] at h
  obtain ⟨a0, r, rfl, h0, h⟩ := shl_cons h
  obtain ⟨a1, r, rfl, h1, h⟩ := shl_cons h
  obtain ⟨a2, r, rfl, h2, h⟩ := shl_cons h
  obtain ⟨a3, r, rfl, h3, h⟩ := shl_cons h
  obtain ⟨a4, r, rfl, h4, h⟩ := shl_cons h
  obtain rfl := shl_nil h
  obtain ⟨n, rfl, hn⟩ := h0.int rfl rfl
  obtain ⟨k, hk⟩ := u8_of hn
  obtain ⟨l1, rfl, e1⟩ := h1.arr rfl rfl
  obtain ⟨l2, rfl, e2⟩ := h2.arr rfl rfl
  obtain ⟨l3, rfl, e3⟩ := h3.arr rfl rfl
  obtain ⟨l4, rfl, e4⟩ := h4.arr rfl rfl
  exact ⟨⟨k, l1, l2, l3, l4⟩, by rw [hk]; rfl, e1, e2, e3, e4⟩
end Go.Proofs.Ythphhnkoilcofaa
/- Entries among the arguments. -/
namespace Go.Proofs.Ythphhnkoilcofaa
open Go Go.RowKit
theorem pair_sh {M d : Nat} {a : AV} (h : Sh tab M (d + 2) 62 a) : ∃ p : Pr, a = prA p ∧ p.1.length = 32 ∧ p.2.length ≤ M := by
  obtain ⟨az, rfl, hs⟩ := h.rcd rfl rfl
  clear h; have h := hs; clear hs; dsimp only [List.map] at h
  obtain ⟨a0, r, rfl, h0, h⟩ := shl_cons h
  obtain ⟨a1, r, rfl, h1, h⟩ := shl_cons h
  obtain rfl := shl_nil h
  obtain ⟨k, rfl, hk⟩ := h0.arr rfl rfl
  obtain ⟨v, rfl, hv⟩ := h1.bytes rfl rfl rfl
  exact ⟨(k, v), rfl, hk, hv⟩
theorem pairs_sh {M d : Nat} {a : AV} (h : Sh tab M (d + 3) 57 a) : ∃ l : List Pr, a = .sl prT (l.map prA) none ∧ K32 l ∧ l.length ≤ M ∧ ∀ x ∈ l, x.2.length ≤ M := by
  obtain ⟨es, rfl, hl, he⟩ := h.slc rfl rfl rfl
  obtain ⟨ys, rfl, hy⟩ := sh_list (q := fun p : Pr => p.1.length = 32 ∧ p.2.length ≤ M) (f := prA) (fun x hx => pair_sh hx) he
  exact ⟨ys, rfl, fun x hx => (hy x hx).1, by simpa using hl, fun x hx => (hy x hx).2⟩
end Go.Proofs.Ythphhnkoilcofaa
/- Proofs among the arguments. -/
namespace Go.Proofs.Ythphhnkoilcofaa
open Go Go.RowKit
theorem pf_sh {M d : Nat} {a : AV} (h : Sh tab M (d + 4) 41 a) : ∃ p : Pf, a = p.av ∧ p.wf ∧ p.s.length ≤ M := by
  obtain ⟨az, rfl, hs⟩ := h.rcd rfl rfl
  clear h; have h := hs; clear hs; dsimp only [List.map] at h
  obtain ⟨a0, r, rfl, h0, h⟩ := shl_cons h
  obtain ⟨a1, r, rfl, h1, h⟩ := shl_cons h
  obtain rfl := shl_nil h
  obtain ⟨es, rfl, hl, he⟩ := h0.slc rfl rfl rfl
  obtain ⟨ys, rfl, hy⟩ := sh_list (q := fun l : List UInt8 => l.length = 32) (f := AV.ba) (fun x hx => hx.arr rfl rfl) he
  obtain ⟨n, rfl, hn⟩ := node_sh h1
  exact ⟨⟨ys, n⟩, rfl, ⟨hy, hn⟩, by simpa using hl⟩
end Go.Proofs.Ythphhnkoilcofaa
/- NodeWays, of all arguments of its types. -/
namespace Go.Proofs.Ythphhnkoilcofaa
open Go Go.RowKit
theorem nodeWays_az (az : List AV) (h : ShL (Sh tab 1048576 6) [57, 37, 41] az) : VC Try.prog 8 az [] (.v (.bool true)) := by
  obtain ⟨a0, r, rfl, h0, h⟩ := shl_cons h
  obtain ⟨a1, r, rfl, h1, h⟩ := shl_cons h
  obtain ⟨a2, r, rfl, h2, h⟩ := shl_cons h
  obtain rfl := shl_nil h
  obtain ⟨l, rfl, hk, hl, hv⟩ := pairs_sh h0
  obtain ⟨key, rfl, hkey⟩ := h1.arr rfl rfl
  obtain ⟨p, rfl, hp, hpl⟩ := pf_sh h2
  exact nodeWays_v l hk (fun x hx => Nat.le_trans (hv x hx) (by decide)) hl key hkey p hp hpl
end Go.Proofs.Ythphhnkoilcofaa
