/- The document's reader of a sketch at an inner place. -/
import Derived.Test.YtigmpdhnhkdeiaaReadS
import Derived.Test.YtigmpdhnhkdeiaaSk
import Derived.Test.YtigmpdhnhkdeiaaBits
import Derived.Test.YtigmpdhnhkdeiaaA2
set_option linter.unusedSimpArgs false
set_option linter.unusedVariables false
namespace Go.Proofs.Ytigmpdhnhkdeiaa
open Go Go.RowKit
attribute [local irreducible] wpT
set_option maxRecDepth 20000 in
set_option maxHeartbeats 4000000 in
theorem read20_in2 (ks : List (List UInt8)) (sp : Bool) (fr to : List UInt8) (h1 : fr.length = 32) (h2 : to.length = 32) (p : List UInt8) (d : Nat) (hlow : Low d p) (hd : d < 256) (rest : List Br)
    (hop1 : VC Try.prog 174 [askE ks sp fr to, .ba p, .v (.int .i64 ((d : Nat) : Int))] [] (.v (.bool true))) (hl : rest.length < 65536)
    (x : Tr) (r1 : List Br) (x1 : x.dg.length = 32) (hxn : x.num ≤ rest.length) (hdr : rest.drop x.num = r1) (c1 : read20 ks sp fr to rest p (d + 1) (x.pl p (d + 1)) true) (L2 : List Pl) (c2 : read20 ks sp fr to r1 (flipL p d) (d + 1) L2 false) :
    read20 ks sp fr to (⟨2, z32, z32, z32⟩ :: rest) p d [] false := by
  have ht := hlow.1
  have hz2 : (List.replicate 32 (0 : UInt8)).length = 32 := List.length_replicate
  have hcl := cleanR_v ⟨2, List.replicate 32 0, List.replicate 32 0, List.replicate 32 0⟩ ⟨hz2, hz2, hz2⟩
  rw [show Br.clean ⟨2, List.replicate 32 0, List.replicate 32 0, List.replicate 32 0⟩ = true by decide +kernel] at hcl
  have hem := emptyR_v
  unfold read20 at *
  simp only [z32]
  have hs1 := setR_v p ht d hd false
  have hs2 := setR_v p ht d hd true
  obtain ⟨w1, w2⟩ := setL_low hlow hd
  rw [w1] at hs1
  rw [w2] at hs2
  simp only [Bool.false_eq_true, if_false, if_true] at hs1 hs2
  have hfl := flipL_len p d
  rw [ht] at hfl
  rw [show ((d + 1 : Nat) : Int) = (d : Int) + 1 by omega] at *
  generalize hbe : brs (⟨2, List.replicate 32 0, List.replicate 32 0, List.replicate 32 0⟩ :: rest) = B
  have hbl : B.length = rest.length + 1 := by rw [← hbe]; simp [brs]
  have hb0 : B.getD 0 .any = .st [.v (B8 2), .ba (List.replicate 32 0), .ba (List.replicate 32 0), .ba (List.replicate 32 0)] := by rw [← hbe]; rfl
  have hbs : List.drop 1 B = brs rest := by rw [← hbe]; rfl
  have e0 : decide (((rest.length + 1 : Nat) : Int) = 0) = false := decide_eq_false (by omega)
  have e2 : decide ((255 : Int) < (d : Int)) = false := decide_eq_false (by omega)
  have hs0 : (sum [0]).length = 32 := sum_length _
  have hfit : fit (Ty.sc.cn ((Ty.ba 32).cn ((Ty.ba 32).cn ((Ty.ba 32).cn Ty.nl)))) (B.getD 0 AV.any) := by rw [hb0]; exact ⟨trivial, hz2, hz2, hz2, trivial⟩
  simp only [Br.av] at hcl
  refine mE Try.func111 ?_; intro N w0 a w hN hR H
  have hX := And.intro @hbl (And.intro @hb0 (And.intro @ht (And.intro @hz2 (And.intro @hs0 (And.intro @h1 (@h2))))))
  refine mW ?_; clear H; intro a w H
  refine mCallG [] [] (hcl) H ?_; clear H; intro a w H; try refine wpList_nil ?_
  simp only [e0] at H
  refine mW ?_; clear H; intro a w H
  refine mC H (fun hb => ?_) (fun hb => ?_)
  · exact absurd hb (by decide)
  · clear hb
    refine mS ?_
    replace H := mK [0, 1, 2, 3, 4, 6, 8, 9] 2 0 hN hR H
    refine mW ?_; clear H; intro a w H
    refine mCall [] [] (hem) H ?_; clear H; intro a w H; try refine wpList_nil ?_
    refine mW ?_; clear H; intro a w H
    refine mC H (fun hb => ?_) (fun hb => ?_)
    · exact absurd hb (by decide)
    · clear hb
      refine mS ?_
      replace H := mK [0, 1, 2, 3, 4, 6, 8, 9, 10, 11] 5 0 hN hR H
      refine mW ?_; clear H; intro a w H
      refine mCall [] [] (hop1) H ?_; clear H; intro a w H; try refine wpList_nil ?_
      refine mW ?_; clear H; intro a w H
      refine mC H (fun hb => ?_) (fun hb => ?_)
      · exact absurd hb (by decide)
      · clear hb
        refine mS ?_
        replace H := mK [0, 1, 2, 3, 4, 6, 8, 9, 10, 11] 5 0 hN hR H
        refine mW ?_; clear H; intro a w H
        refine mC H (fun hb => ?_) (fun hb => ?_)
        · exact absurd hb (by decide)
        · clear hb
          refine mW ?_; clear H; intro a w H
          simp only [e2] at H
          refine mC H (fun hb => ?_) (fun hb => ?_)
          · exact absurd hb (by decide)
          · clear hb
            refine mS ?_
            replace H := mK [0, 1, 2, 3, 4, 6, 8, 9, 11] 5 0 hN hR H
            refine mS ?_; refine mD 5 [5, 8] [0, 1, 2, 6, 7] H ?_; clear H; intro gS H
            refine mT ?_; clear H; intro a w H
            refine mCallT [] [] (hs1) H ?_; clear H; intro a w H
            refine mT ?_; clear H; intro a w H
            simp only [hbs] at H
            refine mCallT [] [] (c1) H ?_; clear H; intro a w H
            refine mT ?_; clear H; intro a w H
            refine v_drawNil H ?_; clear H; intro H
            refine mW ?_; clear H; intro a w H
            refine mC H (fun hb => ?_) (fun hb => ?_)
            · exact absurd hb (by decide)
            · clear hb
              obtain ⟨t1, t2, t3⟩ := x.pl_top p (d + 1)
              have hxl := x.pl_len p (d + 1)
              have hxl2 := pls_len (x.pl p (d + 1))
              rw [hxl] at hxl2
              have hxp := x.num_pos
              have hbd : List.drop (1 + x.num) B = brs r1 := by rw [← hbe, ← hdr, Nat.add_comm]; simp only [brs, List.map_drop, List.map_cons, List.drop_succ_cons]
              simp only [Pl.av] at t3
              generalize x.pl p (d + 1) = xp at *
              refine mS ?_
              replace H := mK [0, 1, 2, 3, 4, 6, 8, 9, 11, 13] 5 0 hN hR H
              clear hX; have hX := And.intro @hbl (And.intro @hb0 (And.intro @ht (And.intro @hz2 (And.intro @hs0 (And.intro @h1 (And.intro @h2 (And.intro @hxl2 (@t3))))))))
              refine mS ?_; refine mD 5 [10, 13] [0, 1, 2, 3, 4, 5, 6, 7, 11, 12] H ?_; clear H; intro gS H
              refine mTN 3 hN H ?_; clear H; intro a w H; simp only [List.drop_succ_cons, List.drop_zero, List.drop_nil]
              refine mTN 1 hN H ?_; clear H; intro a w H; simp only [List.drop_succ_cons, List.drop_zero, List.drop_nil]
              refine mTN 3 hN H ?_; clear H; intro a w H; simp only [List.drop_succ_cons, List.drop_zero, List.drop_nil]
              have e5 : (1 : Int) + (x.num : Int) = ((1 + x.num : Nat) : Int) := by omega
              simp only [e5] at H
              refine mTN 1 hN H ?_; clear H; intro a w H; simp only [List.drop_succ_cons, List.drop_zero, List.drop_nil]
              simp only [hbd] at H
              refine mTN 2 hN H ?_; clear H; intro a w H; simp only [List.drop_succ_cons, List.drop_zero, List.drop_nil]
              refine mCallT [] [] (hs2) H ?_; clear H; intro a w H
              refine mT ?_; clear H; intro a w H
              refine mCallT [] [] (c2) H ?_; clear H; intro a w H
              refine mT ?_; clear H; intro a w H
              refine v_drawNil H ?_; clear H; intro H
              refine mW ?_; clear H; intro a w H
              refine mC H (fun hb => ?_) (fun hb => ?_)
              · simp only [pls, List.map_nil]
                refine mW ?_; clear H; intro a w H
                refine wp_ret ?_; exact mEnd [] [] [.tmp 8, .tmp 9] [_, _] hN hR H
              · exact absurd hb (by decide)
end Go.Proofs.Ytigmpdhnhkdeiaa
/- The document's reader of a sketch at an inner place. -/
namespace Go.Proofs.Ytigmpdhnhkdeiaa
open Go Go.RowKit
attribute [local irreducible] wpT
set_option maxRecDepth 20000 in
set_option maxHeartbeats 4000000 in
theorem read20_in3 (ks : List (List UInt8)) (sp : Bool) (fr to : List UInt8) (h1 : fr.length = 32) (h2 : to.length = 32) (p : List UInt8) (d : Nat) (hlow : Low d p) (hd : d < 256) (rest : List Br)
    (hop1 : VC Try.prog 174 [askE ks sp fr to, .ba p, .v (.int .i64 ((d : Nat) : Int))] [] (.v (.bool true))) (hl : rest.length < 65536)
    (x : Tr) (r1 : List Br) (x1 : x.dg.length = 32) (hxn : x.num ≤ rest.length) (hdr : rest.drop x.num = r1) (c1 : read20 ks sp fr to rest p (d + 1) (x.pl p (d + 1)) true) (y : Tr) (y1 : y.dg.length = 32) (hyn : x.num + y.num ≤ rest.length) (c2 : read20 ks sp fr to r1 (flipL p d) (d + 1) (y.pl (flipL p d) (d + 1)) true) :
    read20 ks sp fr to (⟨2, z32, z32, z32⟩ :: rest) p d (⟨⟨2, z32, z32, z32⟩, innerH x.dg y.dg, d, p, 1 + x.num + y.num⟩ :: (x.pl p (d + 1) ++ y.pl (flipL p d) (d + 1))) true := by
  have ht := hlow.1
  have hz2 : (List.replicate 32 (0 : UInt8)).length = 32 := List.length_replicate
  have hcl := cleanR_v ⟨2, List.replicate 32 0, List.replicate 32 0, List.replicate 32 0⟩ ⟨hz2, hz2, hz2⟩
  rw [show Br.clean ⟨2, List.replicate 32 0, List.replicate 32 0, List.replicate 32 0⟩ = true by decide +kernel] at hcl
  have hem := emptyR_v
  unfold read20 at *
  simp only [z32]
  have hs1 := setR_v p ht d hd false
  have hs2 := setR_v p ht d hd true
  obtain ⟨w1, w2⟩ := setL_low hlow hd
  rw [w1] at hs1
  rw [w2] at hs2
  simp only [Bool.false_eq_true, if_false, if_true] at hs1 hs2
  have hfl := flipL_len p d
  rw [ht] at hfl
  rw [show ((d + 1 : Nat) : Int) = (d : Int) + 1 by omega] at *
  generalize hbe : brs (⟨2, List.replicate 32 0, List.replicate 32 0, List.replicate 32 0⟩ :: rest) = B
  have hbl : B.length = rest.length + 1 := by rw [← hbe]; simp [brs]
  have hb0 : B.getD 0 .any = .st [.v (B8 2), .ba (List.replicate 32 0), .ba (List.replicate 32 0), .ba (List.replicate 32 0)] := by rw [← hbe]; rfl
  have hbs : List.drop 1 B = brs rest := by rw [← hbe]; rfl
  have e0 : decide (((rest.length + 1 : Nat) : Int) = 0) = false := decide_eq_false (by omega)
  have e2 : decide ((255 : Int) < (d : Int)) = false := decide_eq_false (by omega)
  have hs0 : (sum [0]).length = 32 := sum_length _
  have hfit : fit (Ty.sc.cn ((Ty.ba 32).cn ((Ty.ba 32).cn ((Ty.ba 32).cn Ty.nl)))) (B.getD 0 AV.any) := by rw [hb0]; exact ⟨trivial, hz2, hz2, hz2, trivial⟩
  simp only [Br.av] at hcl
  refine mE Try.func111 ?_; intro N w0 a w hN hR H
  have hX := And.intro @hbl (And.intro @hb0 (And.intro @ht (And.intro @hz2 (And.intro @hs0 (And.intro @h1 (@h2))))))
  refine mW ?_; clear H; intro a w H
  refine mCallG [] [] (hcl) H ?_; clear H; intro a w H; try refine wpList_nil ?_
  simp only [e0] at H
  refine mW ?_; clear H; intro a w H
  refine mC H (fun hb => ?_) (fun hb => ?_)
  · exact absurd hb (by decide)
  · clear hb
    refine mS ?_
    replace H := mK [0, 1, 2, 3, 4, 6, 8, 9] 2 0 hN hR H
    refine mW ?_; clear H; intro a w H
    refine mCall [] [] (hem) H ?_; clear H; intro a w H; try refine wpList_nil ?_
    refine mW ?_; clear H; intro a w H
    refine mC H (fun hb => ?_) (fun hb => ?_)
    · exact absurd hb (by decide)
    · clear hb
      refine mS ?_
      replace H := mK [0, 1, 2, 3, 4, 6, 8, 9, 10, 11] 5 0 hN hR H
      refine mW ?_; clear H; intro a w H
      refine mCall [] [] (hop1) H ?_; clear H; intro a w H; try refine wpList_nil ?_
      refine mW ?_; clear H; intro a w H
      refine mC H (fun hb => ?_) (fun hb => ?_)
      · exact absurd hb (by decide)
      · clear hb
        refine mS ?_
        replace H := mK [0, 1, 2, 3, 4, 6, 8, 9, 10, 11] 5 0 hN hR H
        refine mW ?_; clear H; intro a w H
        refine mC H (fun hb => ?_) (fun hb => ?_)
        · exact absurd hb (by decide)
        · clear hb
          refine mW ?_; clear H; intro a w H
          simp only [e2] at H
          refine mC H (fun hb => ?_) (fun hb => ?_)
          · exact absurd hb (by decide)
          · clear hb
            refine mS ?_
            replace H := mK [0, 1, 2, 3, 4, 6, 8, 9, 11] 5 0 hN hR H
            refine mS ?_; refine mD 5 [5, 8] [0, 1, 2, 6, 7] H ?_; clear H; intro gS H
            refine mT ?_; clear H; intro a w H
            refine mCallT [] [] (hs1) H ?_; clear H; intro a w H
            refine mT ?_; clear H; intro a w H
            simp only [hbs] at H
            refine mCallT [] [] (c1) H ?_; clear H; intro a w H
            refine mT ?_; clear H; intro a w H
            refine v_drawNil H ?_; clear H; intro H
            refine mW ?_; clear H; intro a w H
            refine mC H (fun hb => ?_) (fun hb => ?_)
            · exact absurd hb (by decide)
            · clear hb
              obtain ⟨t1, t2, t3⟩ := x.pl_top p (d + 1)
              obtain ⟨u1, u2, u3⟩ := y.pl_top (flipL p d) (d + 1)
              have hyl := y.pl_len (flipL p d) (d + 1)
              have hyl2 := pls_len (y.pl (flipL p d) (d + 1))
              rw [hyl] at hyl2
              simp only [Pl.av] at u3
              have hyp := y.num_pos
              generalize y.pl (flipL p d) (d + 1) = yp at *
              have hxl := x.pl_len p (d + 1)
              have hxl2 := pls_len (x.pl p (d + 1))
              rw [hxl] at hxl2
              have hxp := x.num_pos
              have hbd : List.drop (1 + x.num) B = brs r1 := by rw [← hbe, ← hdr, Nat.add_comm]; simp only [brs, List.map_drop, List.map_cons, List.drop_succ_cons]
              simp only [Pl.av] at t3
              generalize x.pl p (d + 1) = xp at *
              refine mS ?_
              replace H := mK [0, 1, 2, 3, 4, 6, 8, 9, 11, 13] 5 0 hN hR H
              clear hX; have hX := And.intro @hbl (And.intro @hb0 (And.intro @ht (And.intro @hz2 (And.intro @hs0 (And.intro @h1 (And.intro @h2 (And.intro @hxl2 (@t3))))))))
              refine mS ?_; refine mD 5 [10, 13] [0, 1, 2, 3, 4, 5, 6, 7, 11, 12] H ?_; clear H; intro gS H
              refine mTN 3 hN H ?_; clear H; intro a w H; simp only [List.drop_succ_cons, List.drop_zero, List.drop_nil]
              refine mTN 1 hN H ?_; clear H; intro a w H; simp only [List.drop_succ_cons, List.drop_zero, List.drop_nil]
              refine mTN 3 hN H ?_; clear H; intro a w H; simp only [List.drop_succ_cons, List.drop_zero, List.drop_nil]
              have e5 : (1 : Int) + (x.num : Int) = ((1 + x.num : Nat) : Int) := by omega
              simp only [e5] at H
              refine mTN 1 hN H ?_; clear H; intro a w H; simp only [List.drop_succ_cons, List.drop_zero, List.drop_nil]
              simp only [hbd] at H
              refine mTN 2 hN H ?_; clear H; intro a w H; simp only [List.drop_succ_cons, List.drop_zero, List.drop_nil]
              refine mCallT [] [] (hs2) H ?_; clear H; intro a w H
              refine mT ?_; clear H; intro a w H
              refine mCallT [] [] (c2) H ?_; clear H; intro a w H
              refine mT ?_; clear H; intro a w H
              refine v_drawNil H ?_; clear H; intro H
              refine mW ?_; clear H; intro a w H
              refine mC H (fun hb => ?_) (fun hb => ?_)
              · exact absurd hb (by decide)
              · clear hb
                have eg : ∀ q : Pl, pls (q :: (xp ++ yp)) = q.av :: (pls xp ++ pls yp) := fun q => by simp [pls]
                rw [eg]
                simp only [Pl.av, Br.av]
                refine mS ?_
                replace H := mK [0, 1, 2, 3, 4, 6, 8, 9, 11, 13, 15] 5 0 hN hR H
                have hinl := innerH_len x.dg y.dg
                have hin := innerHR_v x.dg y.dg x1 y1
                clear hX; have hX := And.intro @hbl (And.intro @hb0 (And.intro @ht (And.intro @hz2 (And.intro @hs0 (And.intro @h1 (And.intro @h2 (And.intro @hxl2 (And.intro @t3 (And.intro @hyl2 (And.intro @u3 (And.intro @x1 (And.intro @y1 (@hinl)))))))))))))
                refine mS ?_; refine mD 0 [8, 10] [] H ?_; clear H; intro gS H
                refine mTN 1 hN H ?_; clear H; intro a w H; simp only [List.drop_succ_cons, List.drop_zero, List.drop_nil]
                refine mTN 1 hN H ?_; clear H; intro a w H; simp only [List.drop_succ_cons, List.drop_zero, List.drop_nil]
                refine mTN 3 hN H ?_; clear H; intro a w H; simp only [List.drop_succ_cons, List.drop_zero, List.drop_nil]
                refine mTN 1 hN H ?_; clear H; intro a w H; simp only [List.drop_succ_cons, List.drop_zero, List.drop_nil]
                refine mTN 2 hN H ?_; clear H; intro a w H; simp only [List.drop_succ_cons, List.drop_zero, List.drop_nil]
                refine mCallT [] [] (hin) H ?_; clear H; intro a w H
                refine mT ?_; clear H; intro a w H
                refine v_drawNil H ?_; clear H; intro H
                refine mS ?_
                refine mS ?_; refine mD 0 [11] [] H ?_; clear H; intro gS H
                refine mTN 1 hN H ?_; clear H; intro a w H; simp only [List.drop_succ_cons, List.drop_zero, List.drop_nil]
                refine mTN 1 hN H ?_; clear H; intro a w H; simp only [List.drop_succ_cons, List.drop_zero, List.drop_nil]
                refine mTN 4 hN H ?_; clear H; intro a w H; simp only [List.drop_succ_cons, List.drop_zero, List.drop_nil]
                refine mTN 1 hN H ?_; clear H; intro a w H; simp only [List.drop_succ_cons, List.drop_zero, List.drop_nil]
                refine mTN 3 hN H ?_; clear H; intro a w H; simp only [List.drop_succ_cons, List.drop_zero, List.drop_nil]
                have e6 : (1 : Int) + (x.num : Int) + (y.num : Int) = ((1 + x.num + y.num : Nat) : Int) := by omega
                simp only [e5, e6] at H
                refine mT ?_; clear H; intro a w H
                refine v_drawNil H ?_; clear H; intro H
                refine mW ?_; clear H; intro a w H
                refine wp_ret ?_; exact mEnd [] [] [.tmp 8, .tmp 9] [_, _] hN hR H
set_option maxRecDepth 20000 in
/-- The document's reader tells the places of a sketch. -/
theorem read20_v (ks : List (List UInt8)) (sp : Bool) (fr to : List UInt8) (op : List UInt8 → Nat → Bool)
    (hop : ∀ p d, p.length = 32 → d ≤ 256 → VC Try.prog 174 [askE ks sp fr to, .ba p, .v (.int .i64 ((d : Nat) : Int))] [] (.v (.bool (op p d))))
    (h1 : fr.length = 32) (h2 : to.length = 32) : ∀ (f : Nat) (p : List UInt8) (d : Nat) (l : List Br), f + d = 257 → d ≤ 256 → Low d p → (∀ b ∈ l, b.wf) → l.length ≤ 65536 →
    read20 ks sp fr to l p d (rdP op f l p d).1 (rdP op f l p d).2 := by
  intro f
  induction f with
  | zero => intro p d l hf hd; omega
  | succ f ih =>
    intro p d l hf hd256 hlow hw hl
    cases l with
    | nil => exact read20_nil ks sp fr to p d h1 h2 hlow.1
    | cons b rest =>
      have hbw := hw b List.mem_cons_self
      have hwr : ∀ b ∈ rest, b.wf := fun b hb => hw b (List.mem_cons_of_mem _ hb)
      simp only [List.length_cons] at hl
      by_cases hno : b.clean = false ∨ b.k = 0 ∨ op p d = false ∨ b.k = 1 ∨ b.k ≠ 2 ∨ 255 < d
      · exact read20_one ks sp fr to op h1 h2 p d hlow.1 hd256 b rest hbw (hop p d hlow.1 hd256) (by omega) hno f
      · simp only [not_or, Bool.not_eq_false, Classical.not_not] at hno
        obtain ⟨n1, n2, n3, n4, n5, n6⟩ := hno
        have hb2 := (clean_e n1).2.2.1 n5
        have hd : d < 256 := by omega
        have ho := hop p d hlow.1 hd256
        rw [n3] at ho
        rw [rdP_cons, if_neg (by rw [n1]; decide), if_neg n2, if_neg (by rw [n3]; decide), if_neg n4, if_neg (by rintro (h | h); exact h n5; exact n6 h)]
        subst hb2
        have ih1 := ih p (d + 1) rest (by omega) (by omega) hlow.up hwr (by omega)
        cases ex : rdTr op f p (d + 1) rest with
        | none =>
          have e2 := rdP_none (by omega) ex
          rw [if_pos e2]
          rw [e2] at ih1
          exact read20_in1 ks sp fr to h1 h2 p d hlow hd rest ho (by omega) _ ih1
        | some Q =>
          obtain ⟨x, r1⟩ := Q
          obtain ⟨a1, a2, a3⟩ := rdP_some (by omega) ex
          obtain ⟨x1, x2⟩ := rd_dgl hwr ex
          obtain ⟨t1, t2, t3⟩ := x.pl_top p (d + 1)
          have hdr : (⟨2, z32, z32, z32⟩ :: rest : List Br).drop (1 + x.num) = r1 := by rw [Nat.add_comm, List.drop_succ_cons]; exact a2
          have hr1 : r1.length = rest.length - x.num := by rw [← a2, List.length_drop]
          rw [a1] at ih1 ⊢
          dsimp only at ih1 ⊢
          rw [if_neg (by decide), t1, t2, hdr]
          have ih2 := ih (flipL p d) (d + 1) r1 (by omega) (by omega) (hlow.flip hd) x2 (by omega)
          cases ey : rdTr op f (flipL p d) (d + 1) r1 with
          | none =>
            have e2 := rdP_none (by omega) ey
            rw [if_pos e2]
            rw [e2] at ih2
            exact read20_in2 ks sp fr to h1 h2 p d hlow hd rest ho (by omega) x r1 x1 a3 a2 ih1 _ ih2
          | some Q =>
            obtain ⟨y, r2⟩ := Q
            obtain ⟨b1, b2, b3⟩ := rdP_some (by omega) ey
            obtain ⟨y1, y2⟩ := rd_dgl x2 ey
            obtain ⟨u1, u2, u3⟩ := y.pl_top (flipL p d) (d + 1)
            rw [b1] at ih2 ⊢
            dsimp only at ih2 ⊢
            rw [if_neg (by decide), u1, u2]
            exact read20_in3 ks sp fr to h1 h2 p d hlow hd rest ho (by omega) x r1 x1 a3 a2 ih1 y y1 (by omega) ih2
end Go.Proofs.Ytigmpdhnhkdeiaa
/- A growing array that a field points to is turned to stay as it is. -/
namespace Go.Proofs.Ytigmpdhnhkdeiaa
open Go Go.RowKit
section
variable {P : Program} {w0 w : World} {N : Gh} {g : Gh} {st : St} {nt : Nat} {a : Act}
theorem v_frzB0 (HI : Inv P w0 N g st.bx st.fz st.rw w) (hF : FR g nt st a) (i j : Nat) (path : List Nat) {e γ n o : Nat} {T Tj : Ty} {x : AV} {es : List AV} (hN : N.bx.length ≤ i) (hb : st.bx[i]? = some (.vc e T, .vc γ es)) (hj : st.bx[j]? = some (Tj, x)) (hT : Tj.loc path = some (o, .sc)) (hx : x.loc path = some (.vw i γ n)) (hn : n ≤ es.length) :
    ∃ g1, g.lex g1 ∧ Inv P w0 N g1 (st.bx.set j (Tj, x.put path (.sl T (es.take n) none))) (i :: st.fz) st.rw w ∧ FR g1 nt ⟨st.t, st.bx.set j (Tj, x.put path (.sl T (es.take n) none)), i :: st.fz, st.rw⟩ a := by
  obtain ⟨y, hy, hyT, hbc⟩ := HI.br.at_ i _ _ hb
  obtain ⟨T2, F, sp, ⟨e2, he2, htid⟩, hmp, hgen, h0, hcm, hcs, hcl, hsp, hFk⟩ := hbc.vc_inv
  injection he2 with he20 he2; subst he20 he2
  have htl : (es.take n).length = n := by rw [List.length_take]; omega
  have key : ∀ g1, g.lex g1 → Inv P w0 N g1 st.bx (i :: st.fz) st.rw w → (∀ u, RC g1 .sc (.vw i γ n) [u] → RC g1 .sc (.sl T (es.take n) none) [u]) → ∃ g1, g.lex g1 ∧ Inv P w0 N g1 (st.bx.set j (Tj, x.put path (.sl T (es.take n) none))) (i :: st.fz) st.rw w ∧ FR g1 nt ⟨st.t, st.bx.set j (Tj, x.put path (.sl T (es.take n) none)), i :: st.fz, st.rw⟩ a := by
    intro g1 l1 I1 hu
    obtain ⟨xj, hxj, hxT, hbj⟩ := I1.br.at_ j _ _ hj
    obtain ⟨hjo, hjm, hrc⟩ := hbj.rc (Ty.loc_grows hT)
    obtain ⟨a', ha', pre, mid, post, hc, hpl, hmid, hput⟩ := hrc.lens hT
    rw [hx] at ha'; injection ha' with ha'; subst ha'
    obtain ⟨u, rfl⟩ : ∃ u, mid = [u] := by
      cases hmid with
      | vw => exact ⟨_, rfl⟩
    have h2 := hput _ _ (hu u hmid)
    rw [← hc] at h2
    subst hxT
    refine ⟨g1, l1, I1.re hxj (BC.pl h2 hjo hjm), (hF.mono l1.1).sz, hF.df, fun p hp hg => (hF.mono l1.1).t p hp hg, fun p hp hg => hF.u p hp hg⟩
  cases ho : y.off with
  | true =>
    refine key g (Gh.lex.refl g) ⟨HI.mem, HI.fr, HI.br, fun j x hj hf => List.mem_cons_of_mem _ (HI.fz j x hj hf), HI.wr, HI.wz⟩ fun u hu => ?_
    obtain ⟨_, y', e3, T3, A, c, hval, hy', hty', hle, hnc, hm, hxx⟩ := hu.vw_inv
    rw [hy] at hy'; injection hy' with hy'; subst hy'
    injection hval with hval; subst hval
    obtain ⟨hcc, hA⟩ := hxx hgen
    have hc0 : c = 0 := by rw [hcc]; exact hcm.2 ho
    rcases hA with ⟨_, hA⟩ | ⟨h, _⟩
    · rw [hA, hc0, show n = 0 by omega]
      exact RC.nil2 (by simp)
    · rw [ho] at h; cases h
  | false =>
    obtain ⟨g1, l1, I1, ⟨y1, hy1, q1, q2, q3, q4, q5, q6⟩, hro⟩ := HI.freeze hy ho hmp hN
    refine key g1 l1 I1 fun u hu => ?_
    obtain ⟨_, y', e3, T3, A, c, hval, hy', hty', hle, hnc, hm, hxx⟩ := hu.vw_inv
    rw [hy1] at hy'; injection hy' with hy'; subst hy'
    injection hval with hval; subst hval
    obtain ⟨hcc, hA⟩ := hxx (q4.trans hgen)
    rcases hA with ⟨h, _⟩ | ⟨_, hA⟩
    · rw [q6] at h; cases h
    · rw [hA]
      have := RC.sl (g := g1) (T := T) (es := es.take n) (tok := none) (A := some ⟨y1.blk, 0, none⟩) (c := c) (by omega) hm F (.inr ⟨y1.blk, 0, rfl, fun k hk j u hu => by
        rw [Nat.zero_add, q1]
        refine hro _ _ ?_
        rw [hcs]
        exact flat_at hFk (by omega) hu⟩) (fun k hk => by
        rw [List.getElem_take]
        exact (hFk k (by omega)).mono l1.1.base) (fun i hi => by cases hi)
      rw [htl] at this
      exact this
theorem v_frzB (H : Rel P w0 N nt st a w) (i j : Nat) (path : List Nat) {e γ n o : Nat} {T Tj : Ty} {x : AV} {es : List AV} (hN : N.bx.length ≤ i) (hb : st.bx[i]? = some (.vc e T, .vc γ es)) (hj : st.bx[j]? = some (Tj, x)) (hT : Tj.loc path = some (o, .sc)) (hx : x.loc path = some (.vw i γ n)) (hn : n ≤ es.length) :
    Rel P w0 N nt ⟨st.t, st.bx.set j (Tj, x.put path (.sl T (es.take n) none)), i :: st.fz, st.rw⟩ a w := by
  obtain ⟨g, HI, hF⟩ := H
  obtain ⟨g1, _, h1, h2⟩ := v_frzB0 HI hF i j path hN hb hj hT hx hn
  exact ⟨g1, h1, h2⟩
end
end Go.Proofs.Ytigmpdhnhkdeiaa
/- A reader of a stretch: (*span.reader).place. -/
namespace Go.Proofs.Ytigmpdhnhkdeiaa
open Go Go.RowKit

end Go.Proofs.Ytigmpdhnhkdeiaa
/- slices.Reverse of digests, in memory that may be written. -/
namespace Go.Proofs.Ytigmpdhnhkdeiaa
open Go Go.RowKit
def revG (n k : Nat) (g : Nat → List UInt8) (t : Nat) : List UInt8 := if t < k ∨ n ≤ t + k then g (n - 1 - t) else g t
def revF (n k : Nat) (g : Nat → List UInt8) : List AV := (List.range n).map fun t => .ba (revG n k g t)
theorem revF_len (n k : Nat) (g : Nat → List UInt8) : (revF n k g).length = n := by simp [revF]
theorem revF_get (n k : Nat) (g : Nat → List UInt8) (t : Nat) (h : t < n) : (revF n k g).getD t .any = .ba (revG n k g t) := by simp [revF, List.getD_eq_getElem?_getD, h]
theorem revF_zero (ls : List (List UInt8)) : revF ls.length 0 (fun t => ls.getD t []) = bas ls := by
  apply List.ext_getElem (by simp [revF, bas])
  intro i h1 h2
  simp [revF] at h1
  simp [revF, bas, revG, h1]
  omega
theorem revF_end (ls : List (List UInt8)) (k : Nat) (hk : ls.length ≤ 2 * k + 1) : revF ls.length k (fun t => ls.getD t []) = bas ls.reverse := by
  apply List.ext_getElem (by simp [revF, bas])
  intro i h1 h2
  simp [revF] at h1
  simp only [revF, bas, revG, List.getElem_map, List.getElem_range, List.getElem_reverse, AV.ba.injEq]
  split
  · rw [List.getD_eq_getElem?_getD, List.getElem?_eq_getElem (by omega)]; rfl
  · rw [List.getD_eq_getElem?_getD, List.getElem?_eq_getElem (by omega)]
    have : i = ls.length - 1 - i := by omega
    simp only [Option.getD_some]; congr 1
theorem revF_step (n k : Nat) (g : Nat → List UInt8) (h : 2 * k + 1 < n) : ((revF n k g).set k (.ba (g (n - 1 - k)))).set (n - 1 - k) (.ba (g k)) = revF n (k + 1) g := by
  apply List.ext_getElem (by simp [revF])
  intro i h1 h2
  simp [revF] at h2
  rw [List.getElem_set]
  split
  · rename_i e; subst e
    simp only [revF, revG, List.getElem_map, List.getElem_range, AV.ba.injEq]
    rw [if_pos (by omega), show n - 1 - (n - 1 - k) = k by omega]
  · rw [List.getElem_set]
    split
    · rename_i e; subst e
      simp only [revF, revG, List.getElem_map, List.getElem_range, AV.ba.injEq]
      rw [if_pos (by omega)]
    · simp only [revF, revG, List.getElem_map, List.getElem_range, AV.ba.injEq]
      by_cases hh : i < k ∨ n ≤ i + k
      · rw [if_pos hh, if_pos (by omega)]
      · rw [if_neg hh, if_neg (by omega)]
set_option maxRecDepth 20000 in
theorem revV_v (ls : List (List UInt8)) (γ : Nat) (hl : ls.length ≤ 1000000) (h32 : ∀ x ∈ ls, x.length = 32) :
    VX Try.prog 180 [(.vc 50 (.ba 32), .vc γ (bas ls))] [] [] [.vw 0 γ ls.length] [(.vc 50 (.ba 32), .vc γ (bas ls.reverse))] [] [] (.tup []) := by
  rw [← revF_zero ls]
  have hend := revF_end ls
  obtain ⟨g, hg⟩ : ∃ g : Nat → List UInt8, g = fun t => ls.getD t [] := ⟨_, rfl⟩
  have hg32 : ∀ t, t < ls.length → (g t).length = 32 := fun t ht => by
    rw [hg]; dsimp only; rw [List.getD_eq_getElem?_getD, List.getElem?_eq_getElem ht]; exact h32 _ (List.getElem_mem ht)
  rw [← hg] at hend ⊢
  generalize ls.reverse = lr at *
  generalize ls.length = n at *
  clear hg h32
  have hl0 := revF_len n 0 g
  have e00 : (n : Int) - 1 - ((0 : Nat) : Int) = (n : Int) - 1 := by omega
  refine mE Try.func180 ?_; intro N w0 a w hN hR H
  refine mW ?_; clear H; intro a w H
  refine v_loop (fun k : Nat => ⟨[(3, none, .v (.int .i64 ((n : Int) - 1 - (k : Int)))), (2, none, .v (.int .i64 (k : Int))), (0, none, .vw 0 γ n)], [(.vc 50 (.ba 32), .vc γ (revF n k g))], [], []⟩) (fun k => 2 * k ≤ n) (fun k => n - k) 0 (by omega)
    (H.to 1 0 ⟨Nat.le_trans hN (Nat.le_of_ble_eq_true rfl), hR⟩ ⟨by rw [e00]; rfl, rfl, rfl, trivial⟩ rfl rfl rfl rfl rfl) ?_
  clear H
  intro k a w hk H
  have hlk := revF_len n k g
  have hX := @hlk
  refine mW ?_; clear H; intro a w H
  refine mC H (fun hb => ?_) (fun hb => ?_)
  · have hlt : 2 * k + 1 < n := by rw [decide_eq_true_eq] at hb; omega
    clear hb
    have e1 : ((n : Int) - 1 - (k : Int)).toNat = n - 1 - k := by omega
    have g1 := revF_get n k g k (by omega)
    have g2 := revF_get n k g (n - 1 - k) (by omega)
    have r1 : revG n k g k = g k := by unfold revG; rw [if_neg (by omega)]
    have r2 : revG n k g (n - 1 - k) = g (n - 1 - k) := by unfold revG; rw [if_neg (by omega)]
    rw [r1] at g1
    rw [r2] at g2
    have q1 := hg32 k (by omega)
    have q2 := hg32 (n - 1 - k) (by omega)
    have hst := revF_step n k g hlt
    clear hX; have hX := And.intro @hlk (And.intro @e1 (And.intro @g1 (And.intro @g2 (And.intro @q1 (@q2)))))
    refine mS ?_; refine mD 0 [13, 15] [2, 3] H ?_; clear H; intro gS H
    refine mT ?_; clear H; intro a w H
    refine v_drawNil H ?_; clear H; intro H
    refine mW ?_; clear H; intro a w H
    rw [hst, show (n : Int) - 1 - (k : Int) - 1 = (n : Int) - 1 - ((k + 1 : Nat) : Int) by omega, show (k : Int) + 1 = ((k + 1 : Nat) : Int) by omega] at H
    exact ⟨k + 1, by omega, by omega, H.to 1 0 ⟨Nat.le_trans hN (Nat.le_of_ble_eq_true rfl), hR⟩ ⟨rfl, rfl, rfl, trivial⟩ rfl rfl rfl rfl rfl⟩
  · have hge : n ≤ 2 * k + 1 := by rw [decide_eq_false_iff_not] at hb; omega
    rw [hend k hge] at H
    refine mW ?_; clear H; intro a w H
    exact mEnd [0] [] [] [] hN hR H
end Go.Proofs.Ytigmpdhnhkdeiaa
/- Proofs as bytes: the document's. -/
namespace Go.Proofs.Ytigmpdhnhkdeiaa
open Go Go.RowKit
end Go.Proofs.Ytigmpdhnhkdeiaa
/- A region at a function's end in which the named results are loaded and stored again: nothing changes. -/
namespace Go.Proofs.Ytigmpdhnhkdeiaa
open Go Go.RowKit
section
variable {P : Program} {τ : Tab} {w0 w : World} {N : Gh} {st : St} {nt : Nat} {a : Act}
theorem FR.anew {g : Gh} (hF : FR g nt st a) {d : Nat} {x : AV} {v : Value} (hd : d < nt) (hv : RV g x v) : FR g nt (st.put (some d) none x) (a.put (some d) v) :=
  hF.put (by simp [okDst, hd]) (fun _ => hv) rfl (fun h => absurd trivial h)
end
end Go.Proofs.Ytigmpdhnhkdeiaa
/- What bytes say to whoever knows the root: verify, and the document's. -/
namespace Go.Proofs.Ytigmpdhnhkdeiaa
open Go Go.RowKit
def valH (v : List UInt8) : List UInt8 := sum (3 :: v)
theorem valH_len (v : List UInt8) : (valH v).length = 32 := sum_length _
theorem value_v (v : List UInt8) (hv : v.length ≤ 34359730000) : VC Try.prog 57 [.bs v none] [] (.ba (valH v)) := by
  have h := of_v 3 [v] (by simp; omega) (by simp)
  have e : [v].flatten = v := by simp
  rw [e] at h
  have hsl := sum_length (3 :: v)
  unfold valH
  refine mE Try.func57 ?_; intro N w0 a w hN hR H
  refine mW ?_; clear H; intro a w H
  refine mCall [] [] (h) H ?_; clear H; intro a w H; try refine wpList_nil ?_
  refine mW ?_; clear H; intro a w H
  refine wp_ret ?_; exact mEnd [] [] [.cell 2 50] [_] hN hR H
theorem valueR_v (v : List UInt8) (hv : v.length ≤ 34359730000) : VC Try.prog 117 [.bs v none] [] (.ba (valH v)) := by
  have h := ofHR_v 3 [v] (by simp; omega) (by simp)
  have e : [v].flatten = v := by simp
  rw [e] at h
  have hsl := sum_length (3 :: v)
  unfold valH
  refine mE Try.func117 ?_; intro N w0 a w hN hR H
  refine mW ?_; clear H; intro a w H
  refine mCall [] [] (h) H ?_; clear H; intro a w H; try refine wpList_nil ?_
  refine mW ?_; clear H; intro a w H
  refine wp_ret ?_; exact mEnd [] [] [.cell 2 49] [_] hN hR H
end Go.Proofs.Ytigmpdhnhkdeiaa
/- span.read: what is read of a span. -/
namespace Go.Proofs.Ytigmpdhnhkdeiaa
open Go Go.RowKit
/-- A span. -/
structure Sp where
  p : List Br
  v : List (List UInt8)
structure Sp.wf (s : Sp) : Prop where
  p : ∀ b ∈ s.p, b.wf
  lp : s.p.length ≤ 90000
  lv : s.v.length ≤ 90000
  v : ∀ x ∈ s.v, x.length ≤ 34359730000
def Sp.av (s : Sp) : AV := .st [.sl brT (brs s.p) none, .sl .sc (bss s.v) none]
attribute [local irreducible] wpT
end Go.Proofs.Ytigmpdhnhkdeiaa
/- Entries. -/
namespace Go.Proofs.Ytigmpdhnhkdeiaa
open Go Go.RowKit
end Go.Proofs.Ytigmpdhnhkdeiaa
/- span.Check, Root, Single. -/
namespace Go.Proofs.Ytigmpdhnhkdeiaa
open Go Go.RowKit
attribute [local irreducible] wpT
end Go.Proofs.Ytigmpdhnhkdeiaa
/- A key's way through places: ref20.Way. -/
namespace Go.Proofs.Ytigmpdhnhkdeiaa
open Go Go.RowKit
/-- Digests and keys are as long as they should be; no inner place too deep. -/
def Tr.okd : Nat → Tr → Prop
  | d, .n a b => d < 256 ∧ a.dg.length = 32 ∧ b.dg.length = 32 ∧ a.okd (d + 1) ∧ b.okd (d + 1)
  | _, .l k v => k.length = 32 ∧ v.length = 32
  | _, _ => True
theorem rd_okd {op : List UInt8 → Nat → Bool} : ∀ {f : Nat} {p : List UInt8} {d : Nat} {l : List Br} {t : Tr} {r : List Br}, (∀ b ∈ l, b.wf) → rdTr op f p d l = some (t, r) → t.okd d
  | 0, p, d, l, t, r, _, h => by simp [rdTr] at h
  | f + 1, p, d, [], t, r, _, h => by simp [rdTr] at h
  | f + 1, p, d, b :: rest, t, r, hw, h => by
    have hw2 : ∀ b ∈ rest, b.wf := fun b hb => hw b (List.mem_cons_of_mem _ hb)
    unfold rdTr at h
    split at h
    · cases h
    · split at h
      · simp only [Option.some.injEq, Prod.mk.injEq] at h; obtain ⟨rfl, rfl⟩ := h; trivial
      · split at h
        · split at h
          · cases h
          · simp only [Option.some.injEq, Prod.mk.injEq] at h; obtain ⟨rfl, rfl⟩ := h; trivial
        · split at h
          · cases h
          · split at h
            · split at h
              · simp only [Option.some.injEq, Prod.mk.injEq] at h; obtain ⟨rfl, rfl⟩ := h
                exact ⟨(hw b List.mem_cons_self).key, (hw b List.mem_cons_self).v⟩
              · cases h
            · split at h
              · cases h
              · rename_i h6
                split at h
                · cases h
                · rename_i x r1 e1
                  split at h
                  · cases h
                  · rename_i y r2 e2
                    simp only [Option.some.injEq, Prod.mk.injEq] at h; obtain ⟨rfl, rfl⟩ := h
                    obtain ⟨x1, x2⟩ := rd_dgl hw2 e1
                    exact ⟨by omega, x1, (rd_dgl x2 e2).1, rd_okd hw2 e1, rd_okd x2 e2⟩
def Tr.end_ (t : Tr) : Nd := ⟨t.part.k, t.part.key, t.part.v, z32, z32⟩
/-- Where a key's way has come to. -/
structure WI where
  i : Nat
  u : Tr
  q : List UInt8
  e : Nat
  sd : List (List UInt8)
structure WI.ok (L : List Pl) (key : List UInt8) (W : List (List UInt8)) (T : Tr) (x : WI) : Prop where
  at_ : AtP L x.i x.u x.q x.e
  way : W = x.sd ++ x.u.way key x.e
  last : T = x.u.last key x.e
  sd : ∀ g ∈ x.sd, g.length = 32
  okd : x.u.okd x.e
  len : x.sd.length = x.e
theorem pls_get {L : List Pl} {i : Nat} {x : Pl} (h : L[i]? = some x) : (pls L).getD i .any = x.av := by
  rw [List.getD_eq_getElem?_getD, pls, List.getElem?_map, h]; rfl
attribute [local irreducible] wpT
end Go.Proofs.Ytigmpdhnhkdeiaa
/- The document's new digests of places: ref22.through, ref22.digest. -/
namespace Go.Proofs.Ytigmpdhnhkdeiaa
open Go Go.RowKit
/-- A place has to be open for keys. -/
def opKx (ks : List (List UInt8)) (top : List UInt8) (d : Nat) : Bool := ks.any fun k => und d k top
def thr (d : Nat) (q : List UInt8) (l : List En) : List En := l.filter fun x => und d x.1 q
theorem thr_step (d : Nat) (q : List UInt8) (l : List En) (k : Nat) (hk : k < l.length) : thr d q (l.take (k + 1)) = thr d q (l.take k) ++ (if und d l[k].1 q then [l[k]] else []) := by
  unfold thr
  rw [List.take_succ_eq_append_getElem hk, List.filter_append]
  by_cases h : und d l[k].1 q = true
  · rw [if_pos h]; simp [h]
  · rw [if_neg h]; simp [h]
structure Pl.wf (x : Pl) : Prop where
  key : x.b.key.length = 32
  v : x.b.v.length = 32
  g : x.b.g.length = 32
  dg : x.g.length = 32
  p : x.p.length = 32
  d : x.d ≤ 256
attribute [local irreducible] wpT
set_option maxRecDepth 20000 in
set_option maxHeartbeats 8000000 in
theorem through_v (l : List En) (hwd : Wd l) (hl : l.length ≤ 100000) (x : Pl) (hx : x.wf) :
    VX Try.prog 201 [] [] [] [.sl enT (ens l) none, x.av] [] [] [(226, (thr x.d x.p l).length)] (.sl enT (ens (thr x.d x.p l)) (some 0)) := by
  obtain ⟨⟨bk, bkey, bv, bg⟩, g, d, q, n⟩ := x
  obtain ⟨p1, p2, p3, p4, p5, p6⟩ := hx
  dsimp only at p1 p2 p3 p4 p5 p6 ⊢
  have hel := ens_len l
  refine mE Try.func201 ?_; intro N w0 a w hN hR H
  simp only [Pl.av, Br.av] at H
  have hX := And.intro @hel (And.intro @p1 (And.intro @p2 (And.intro @p3 (And.intro @p4 (@p5)))))
  refine mW ?_; clear H; intro a w H
  replace H := v_ref H 3 0 (Nat.le_trans hN (Nat.le_of_ble_eq_true rfl)) rfl rfl rfl
  simp only [nilT, strip, List.map_cons, List.map_nil, reduceIte, Nat.reduceEqDiff] at H
  replace H := v_nilE tab_ok H 5 226 enT (j := ti226) rfl (by decide) rfl
  simp only [nilT, reduceIte, Nat.reduceEqDiff, List.length_nil, List.nil_append] at H
  refine v_loop (fun i : Nat => ⟨[(6, none, .v (.int .i64 (i : Int))), (5, none, .sl enT (ens (thr d q (l.take i))) (some 0)), (3, none, .ref plT (.st [.st [.v (B8 bk), .ba bkey, .ba bv, .ba bg], .ba g, .v (.int .i64 (d : Int)), .ba q, .v (.int .i64 (n : Int))])), (0, none, .sl enT (ens l) none)],
    [(plT, .st [.st [.v (B8 bk), .ba bkey, .ba bv, .ba bg], .ba g, .v (.int .i64 (d : Int)), .ba q, .v (.int .i64 (n : Int))])], [0], [(226, (thr d q (l.take i)).length)]⟩)
    (fun i => i ≤ l.length) (fun i => l.length - i) 0 (Nat.zero_le _)
    (H.to 1 1 ⟨Nat.le_trans hN (Nat.zero_le _), Nat.le_trans hR (Nat.zero_le _)⟩ ⟨rfl, rfl, rfl, rfl, trivial⟩ rfl rfl rfl rfl rfl) ?_
  clear H
  intro i a w hi H
  refine mW ?_; clear H; intro a w H
  refine mC H (fun hb => ?_) (fun hb => ?_)
  · have hlt : i < l.length := by rw [decide_eq_true_eq] at hb; omega
    clear hb
    have hg := ens_get l i hlt
    obtain ⟨w1, w2⟩ := hwd _ (List.getElem_mem hlt)
    have hu := underR_v l[i].1 q w1 p5 (d : Int)
    have eu : decide (0 ≤ (d : Int) ∧ (d : Int) ≤ 256 ∧ (d : Int) ≤ (com l[i].1 q : Int)) = und d l[i].1 q := by
      unfold und; rw [decide_eq_decide]; omega
    rw [eu] at hu
    have hst := thr_step d q l i hlt
    have hol := ens_len (thr d q (l.take i))
    have hle : (thr d q (l.take i)).length ≤ 100000 := by
      have : (thr d q (l.take i)).length ≤ (l.take i).length := List.length_filter_le _ _
      rw [List.length_take] at this; omega
    generalize l[i] = y at *
    generalize thr d q (l.take i) = o at *
    obtain ⟨yk, yv⟩ := y
    dsimp only at *
    clear hX; have hX := And.intro @hel (And.intro @p1 (And.intro @p2 (And.intro @p3 (And.intro @p4 (And.intro @p5 (And.intro @hg (And.intro @w1 (And.intro @w2 (@hol)))))))))
    refine mS ?_; refine mD 0 [9] [] H ?_; clear H; intro gS H
    refine mTN 3 hN H ?_; clear H; intro a w H; simp only [List.drop_succ_cons, List.drop_zero, List.drop_nil]
    refine mT ?_; clear H; intro a w H
    refine mCallT [] [] (hu) H ?_; clear H; intro a w H
    refine mT ?_; clear H; intro a w H
    refine v_drawNil H ?_; clear H; intro H
    refine mC H (fun hb => ?_) (fun hb => ?_)
    · rw [hb, if_pos rfl] at hst
      clear hb
      have e2 : ens (o ++ [(yk, yv)]) = ens o ++ [.st [.ba yk, .ba yv]] := ens_app o (yk, yv)
      have e3 : (o ++ [(yk, yv)]).length = o.length + 1 := by rw [List.length_append]; rfl
      rw [← hst] at e2 e3
      refine mS ?_
      (try refine wp_region_lit ?_); refine mN 4 hN H ?_; clear H; intro a w H
      refine mW ?_; clear H; intro a w H
      rw [← e2, ← e3, show (i : Int) + 1 = ((i + 1 : Nat) : Int) by omega] at H
      exact ⟨i + 1, hlt, by omega, H.to 1 1 ⟨Nat.le_trans hN (Nat.zero_le _), Nat.le_trans hR (Nat.zero_le _)⟩ ⟨rfl, rfl, rfl, rfl, trivial⟩ rfl rfl rfl rfl rfl⟩
    · rw [hb, if_neg (by decide), List.append_nil] at hst
      clear hb
      rw [← hst] at H
      clear hX; have hX := @hel
      refine mW ?_; clear H; intro a w H
      rw [show (i : Int) + 1 = ((i + 1 : Nat) : Int) by omega] at H
      exact ⟨i + 1, hlt, by omega, H.to 1 1 ⟨Nat.le_trans hN (Nat.zero_le _), Nat.le_trans hR (Nat.zero_le _)⟩ ⟨rfl, rfl, rfl, rfl, trivial⟩ rfl rfl rfl rfl rfl⟩
  · have hge : i = l.length := by rw [decide_eq_false_iff_not] at hb; omega
    clear hb
    subst hge
    rw [List.take_length] at H
    clear hX; have hX := @hel
    refine mW ?_; clear H; intro a w H
    refine wp_ret ?_; exact mEnd [] [0] [.tmp 4] [_] hN hR H
theorem nx_nil {ks : List (List UInt8)} {l : List En} (hk : l.map Prod.fst = ks) {u : Tr} {q : List UInt8} {e : Nat} (ho : u.opn (opKx ks) q e) (h : thr e q l = []) : nxT u (thr e q l) e = u.dg ∧ ((∀ a b, u ≠ .n a b) ∧ ∀ k v, u ≠ .l k v) := by
  have hno : opKx ks q e = false := by
    rw [← hk]
    unfold opKx
    rw [List.any_eq_false]
    intro k hkm hu
    obtain ⟨x, hx, rfl⟩ := List.mem_map.1 hkm
    have : x ∈ thr e q l := List.mem_filter.2 ⟨hx, hu⟩
    rw [h] at this; cases this
  cases u with
  | e => exact ⟨by rw [h]; show rootA _ _ [] = _; rw [rootA_small _ _ _ (by simp)]; rfl, fun a b => (by rintro ⟨⟩), fun k v => (by rintro ⟨⟩)⟩
  | c g => exact ⟨rfl, fun a b => (by rintro ⟨⟩), fun k v => (by rintro ⟨⟩)⟩
  | l k v => rw [ho.1] at hno; cases hno
  | n a b => rw [ho.2.1] at hno; cases hno
theorem thr_ne {ks : List (List UInt8)} {l : List En} (hk : l.map Prod.fst = ks) {q : List UInt8} {e : Nat} (h : thr e q l ≠ []) : opKx ks q e = true := by
  obtain ⟨x, hx⟩ := List.exists_mem_of_ne_nil _ h
  obtain ⟨h1, h2⟩ := List.mem_filter.1 hx
  rw [← hk]
  unfold opKx
  exact List.any_eq_true.2 ⟨x.1, List.mem_map.2 ⟨x, h1, rfl⟩, h2⟩
theorem thr_rise {l : List En} (hr : Rise 0 l) {e : Nat} (he : e ≤ 256) (q : List UInt8) : Rise e (thr e q l) := by
  unfold Rise thr
  have h1 : (l.filter fun x => und e x.1 q).Pairwise fun x y => agree 0 x.1 y.1 ∧ ltB x.1 y.1 := hr.filter _
  refine h1.imp_of_mem fun {x y} hx hy h => ⟨fun t ht => ?_, h.2⟩
  have a := (und_iff he).1 (List.mem_filter.1 hx).2
  have b := (und_iff he).1 (List.mem_filter.1 hy).2
  exact (a t ht).trans (b t ht).symm
theorem sep_snoc {e : Nat} {l : List En} (hr : Rise e l) {x : En} (hx : x.1.length = 32) (hw : ∀ y ∈ l, y.1.length = 32) (ha : ∀ y ∈ l, agree e x.1 y.1) (hn : (l.any fun y => decide (y.1 = x.1)) = false) : Sep e (l ++ [x]) := by
  unfold Sep
  rw [List.pairwise_append]
  refine ⟨hr.sep, List.pairwise_singleton _ _, fun y hy z hz => ?_⟩
  obtain rfl := List.mem_singleton.1 hz
  refine ⟨(ha y hy).symm, fun h => ?_⟩
  rw [List.any_eq_false] at hn
  exact hn y hy (decide_eq_true (agree_eq (hw y hy) hx h))
theorem nx_leaf {l : List En} {e : Nat} (he : e ≤ 256) (hr : Rise e l) (hw : ∀ y ∈ l, y.1.length = 32) {k v : List UInt8} (hk : k.length = 32) (ha : ∀ y ∈ l, agree e k y.1) :
    Sep e (if (l.any fun y => decide (y.1 = k)) = true then l else l ++ [(k, v)]) ∧ rootA (256 - e) e (if (l.any fun y => decide (y.1 = k)) = true then l else l ++ [(k, v)]) = nxT (.l k v) l e := by
  have hB := wiB_any (k := k) hk hw hr
  by_cases h : (l.any fun y => decide (y.1 = k)) = true
  · rw [if_pos h]
    refine ⟨hr.sep, ?_⟩
    show _ = rootA _ _ (wiE l (k, v))
    unfold wiE
    rw [if_pos (by rw [hB]; exact h)]
  · rw [if_neg h]
    have hs := sep_snoc hr (x := (k, v)) hk hw ha (Bool.eq_false_iff.2 h)
    refine ⟨hs, ?_⟩
    show _ = rootA _ _ (wiE l (k, v))
    exact rootA_perm _ _ _ _ (by omega) hs (wiE_perm l (k, v) (by rw [hB]; exact Bool.eq_false_iff.2 h)).symm
end Go.Proofs.Ytigmpdhnhkdeiaa
/- The document's new digest of a place: ref22.digest. -/
namespace Go.Proofs.Ytigmpdhnhkdeiaa
open Go Go.RowKit
attribute [local irreducible] wpT
set_option maxRecDepth 20000 in
set_option maxHeartbeats 16000000 in
theorem digest_v (L : List Pl) (hL : L.length ≤ 70000) (ks : List (List UInt8)) (l : List En) (hkl : l.map Prod.fst = ks) (hwd : Wd l) (hri : Rise 0 l) (hl : l.length ≤ 70) : ∀ (u : Tr) (i e : Nat) (q : List UInt8), AtP L i u q e → u.okd e → u.opn (opKx ks) q e → Low e q → e ≤ 256 → u.dg.length = 32 →
    VC Try.prog 132 [.sl plT (pls L) none, .v (.int .i64 (i : Int)), .sl enT (ens l) none] [] (.ba (nxT u (thr e q l) e)) := by
  intro u
  induction u with
  | n a b iha ihb =>
    intro i e q hat hok hop hlow he256 hdg
    obtain ⟨g1, g2⟩ := hat.get
    have g3 := pls_get g2
    have hPl := pls_len L
    have hpart : (⟨(Tr.n a b).part, (Tr.n a b).dg, e, q, (Tr.n a b).num⟩ : Pl).wf := ⟨z32_len, z32_len, z32_len, hdg, hlow.1, he256⟩
    have htr := through_v l hwd (by omega) _ hpart
    dsimp only [Tr.part] at g3 htr
    simp only [Pl.av, Br.av] at g3 htr
    have hpos := (Tr.n a b).num_pos
    have hFl2 := ens_len (thr e q l)
    have hq32 := hlow.1
    have hz2 : (List.replicate 32 (0 : UInt8)).length = 32 := List.length_replicate
    have hFne : thr e q l ≠ [] := fun h => (nx_nil hkl hop h).2.1 a b rfl
    have hF0 : 0 < (thr e q l).length := List.length_pos_iff.2 hFne
    obtain ⟨oe, oa, ob, oka, okb⟩ := hok
    obtain ⟨_, _, pa, pb⟩ := hop
    have al := hat.left
    have ar := hat.right
    obtain ⟨l1, l2⟩ := al.get
    have l3 := pls_get l2
    simp only [Pl.av, Br.av] at l3
    have hap := a.num_pos
    have hbp := b.num_pos
    have hbl := ar.get.1
    have ia := iha (i + 1) (e + 1) q al oka pa hlow.up (by omega) oa
    have ib := ihb (i + 1 + a.num) (e + 1) (flipL q e) ar okb pb (hlow.flip oe) (by omega) ob
    obtain ⟨u1, u2⟩ := half_und oe hlow l
    have na := nxT_len a (thr (e + 1) q l) (e + 1) oa
    have nb := nxT_len b (thr (e + 1) (flipL q e) l) (e + 1) ob
    have eN : nxT (.n a b) (thr e q l) e = innerH (nxT a (thr (e + 1) q l) (e + 1)) (nxT b (thr (e + 1) (flipL q e) l) (e + 1)) := by
      show innerH (nxT a (half false e (thr e q l)) (e + 1)) (nxT b (half true e (thr e q l)) (e + 1)) = _
      unfold thr
      rw [u1, u2]
    rw [eN]
    generalize nxT a (thr (e + 1) q l) (e + 1) = Xa at *
    generalize nxT b (thr (e + 1) (flipL q e) l) (e + 1) = Xb at *
    have hin := innerHR_v Xa Xb na nb
    have hgl := innerH_len Xa Xb
    have e1 : (i : Int) + 1 = ((i + 1 : Nat) : Int) := by omega
    have e2 : ((i + 1 : Nat) : Int) + (a.num : Int) = ((i + 1 + a.num : Nat) : Int) := by omega
    simp only [z32] at g3 htr
    generalize (Tr.n a b).dg = dg at *
    generalize (Tr.n a b).num = num at *
    generalize thr e q l = F at *
    refine mE Try.func132 ?_; intro N w0 a w hN hR H
    refine mS ?_
    have hX := And.intro @hPl (And.intro @hz2 (And.intro @g3 (And.intro @hq32 (And.intro @hdg (And.intro @hFl2 (@hgl))))))
    (try refine wp_region_lit ?_); refine mN 1 hN H ?_; clear H; intro a w H
    refine wpList_nil ?_
    refine mS ?_
    (try refine wp_region_lit ?_); refine mN 3 hN H ?_; clear H; intro a w H
    refine mW ?_; clear H; intro a w H
    replace H := v_ref H 7 1 (Nat.le_trans hN (Nat.zero_le _)) rfl rfl rfl
    simp only [nilT, strip, List.map_cons, List.map_nil, reduceIte, Nat.reduceEqDiff] at H
    refine mCall [] [] (htr) H ?_; clear H; intro a w H; try refine wpList_nil ?_
    refine mW ?_; clear H; intro a w H
    refine mC H (fun hb => ?_) (fun hb => ?_)
    · rw [decide_eq_true_eq] at hb; omega
    clear hb
    clear hX; have hX := And.intro @hz2 (And.intro @hq32 (And.intro @hdg (And.intro @hFl2 (And.intro @hgl (And.intro @hPl (@l3))))))
    refine mW ?_; clear H; intro a w H
    refine mC H (fun hb => ?_) (fun hb => ?_)
    rotate_left
    · exact absurd hb (by decide)
    clear hb
    refine mS ?_
    (try refine wp_region_lit ?_); refine mN 5 hN H ?_; clear H; intro a w H
    simp only [e1] at H
    (try refine wp_region_lit ?_); refine mN 1 hN H ?_; clear H; intro a w H
    refine mW ?_; clear H; intro a w H
    simp only [e1, e2] at H
    have hX := And.intro hX (And.intro na nb)
    refine mCall [] [] (ia) H ?_; clear H; intro a w H; try refine wpList_nil ?_
    refine mW ?_; clear H; intro a w H
    refine mCall [] [] (ib) H ?_; clear H; intro a w H; try refine wpList_nil ?_
    refine mW ?_; clear H; intro a w H
    refine mCall [] [] (hin) H ?_; clear H; intro a w H; try refine wpList_nil ?_
    refine mW ?_; clear H; intro a w H
    refine wp_ret ?_; exact mEnd [] [] [.cell 6 50] [_] hN hR H
  | e =>
    intro i e q hat hok hop hlow he256 hdg
    obtain ⟨g1, g2⟩ := hat.get
    have g3 := pls_get g2
    have hPl := pls_len L
    have hpart : (⟨Tr.e.part, Tr.e.dg, e, q, Tr.e.num⟩ : Pl).wf := ⟨z32_len, z32_len, z32_len, hdg, hlow.1, he256⟩
    have htr := through_v l hwd (by omega) _ hpart
    dsimp only [Tr.part] at g3 htr
    simp only [Pl.av, Br.av] at g3 htr
    have hpos := Tr.e.num_pos
    have hFl2 := ens_len (thr e q l)
    have hq32 := hlow.1
    have hz2 : (List.replicate 32 (0 : UInt8)).length = 32 := List.length_replicate
    have hFr := thr_rise hri he256 q
    have hFwd : Wd (thr e q l) := fun y hy => hwd y (List.mem_filter.1 hy).1
    have hFl : (thr e q l).length ≤ 70 := Nat.le_trans (List.length_filter_le _ _) hl
    have hat2 := atR_v (256 - e) e (thr e q l) (by omega) hFr.sep hFwd (by omega)
    have hnil := fun h => (nx_nil hkl hop (u := .e) h).1
    have hrl := nxT_len .e (thr e q l) e hdg
    change VC _ _ _ _ (.ba (nxT .e (thr e q l) e)) at hat2
    have hgl : True := trivial
    generalize nxT .e (thr e q l) e = R at *
    simp only [z32] at g3 htr
    generalize (Tr.e).dg = dg at *
    generalize (Tr.e).num = num at *
    generalize thr e q l = F at *
    refine mE Try.func132 ?_; intro N w0 a w hN hR H
    refine mS ?_
    have hX := And.intro @hPl (And.intro @hz2 (And.intro @g3 (And.intro @hq32 (And.intro @hdg (And.intro @hFl2 (@hgl))))))
    (try refine wp_region_lit ?_); refine mN 1 hN H ?_; clear H; intro a w H
    refine wpList_nil ?_
    refine mS ?_
    (try refine wp_region_lit ?_); refine mN 3 hN H ?_; clear H; intro a w H
    refine mW ?_; clear H; intro a w H
    replace H := v_ref H 7 1 (Nat.le_trans hN (Nat.zero_le _)) rfl rfl rfl
    simp only [nilT, strip, List.map_cons, List.map_nil, reduceIte, Nat.reduceEqDiff] at H
    refine mCall [] [] (htr) H ?_; clear H; intro a w H; try refine wpList_nil ?_
    refine mW ?_; clear H; intro a w H
    refine mC H (fun hb => ?_) (fun hb => ?_)
    · have hF0 : F = [] := List.length_eq_zero_iff.1 (by rw [decide_eq_true_eq] at hb; omega)
      rw [hnil hF0]
      clear hb
      clear hX; have hX := And.intro @hz2 (And.intro @hq32 (And.intro @hdg (@hFl2)))
      refine mW ?_; clear H; intro a w H
      refine wp_ret ?_; exact mEnd [] [] [.cell 6 50] [_] hN hR H
    clear hb
    clear hX; have hX := And.intro @hz2 (And.intro @hq32 (And.intro @hdg (And.intro @hFl2 (@hrl))))
    refine mW ?_; clear H; intro a w H
    refine mC H (fun hb => ?_) (fun hb => ?_)
    · exact absurd hb (by decide)
    clear hb
    refine mW ?_; clear H; intro a w H
    refine mC H (fun hb => ?_) (fun hb => ?_)
    · exact absurd hb (by decide)
    clear hb
    refine mW ?_; clear H; intro a w H
    refine mCall [] [] (hat2) H ?_; clear H; intro a w H; try refine wpList_nil ?_
    refine mW ?_; clear H; intro a w H
    refine wp_ret ?_; exact mEnd [] [] [.cell 6 50] [_] hN hR H
  | c g =>
    intro i e q hat hok hop hlow he256 hdg
    obtain ⟨g1, g2⟩ := hat.get
    have g3 := pls_get g2
    have hPl := pls_len L
    have hpart : (⟨(Tr.c g).part, (Tr.c g).dg, e, q, (Tr.c g).num⟩ : Pl).wf := ⟨z32_len, z32_len, hdg, hdg, hlow.1, he256⟩
    have htr := through_v l hwd (by omega) _ hpart
    dsimp only [Tr.part] at g3 htr
    simp only [Pl.av, Br.av] at g3 htr
    have hpos := (Tr.c g).num_pos
    have hFl2 := ens_len (thr e q l)
    have hq32 := hlow.1
    have hz2 : (List.replicate 32 (0 : UInt8)).length = 32 := List.length_replicate
    have hF0 : thr e q l = [] := by
      by_cases h : thr e q l = []
      · exact h
      · have h1 := thr_ne hkl h
        have h2 : opKx ks q e = false := hop
        rw [h2] at h1; cases h1
    rw [hF0] at htr hFl2 ⊢
    have hgl : g.length = 32 := hdg
    simp only [z32] at g3 htr
    show VC _ _ _ _ (.ba g)
    rw [show (Tr.c g).dg = g from rfl] at g3 htr hdg
    generalize (Tr.c g).num = num at *
    refine mE Try.func132 ?_; intro N w0 a w hN hR H
    refine mS ?_
    have hX := And.intro @hPl (And.intro @hz2 (And.intro @g3 (And.intro @hq32 (And.intro @hdg (And.intro @hFl2 (@hgl))))))
    (try refine wp_region_lit ?_); refine mN 1 hN H ?_; clear H; intro a w H
    refine wpList_nil ?_
    refine mS ?_
    (try refine wp_region_lit ?_); refine mN 3 hN H ?_; clear H; intro a w H
    refine mW ?_; clear H; intro a w H
    replace H := v_ref H 7 1 (Nat.le_trans hN (Nat.zero_le _)) rfl rfl rfl
    simp only [nilT, strip, List.map_cons, List.map_nil, reduceIte, Nat.reduceEqDiff] at H
    refine mCall [] [] (htr) H ?_; clear H; intro a w H; try refine wpList_nil ?_
    refine mW ?_; clear H; intro a w H
    refine mC H (fun hb => ?_) (fun hb => ?_)
    · clear hb
      clear hX; have hX := And.intro @hz2 (And.intro @hq32 (@hdg))
      refine mW ?_; clear H; intro a w H
      refine wp_ret ?_; exact mEnd [] [] [.cell 6 50] [_] hN hR H
    · exact absurd hb (by decide)
  | l k v =>
    intro i e q hat hok hop hlow he256 hdg
    obtain ⟨g1, g2⟩ := hat.get
    have g3 := pls_get g2
    have hPl := pls_len L
    have hpart : (⟨(Tr.l k v).part, (Tr.l k v).dg, e, q, (Tr.l k v).num⟩ : Pl).wf := ⟨hok.1, hok.2, z32_len, hdg, hlow.1, he256⟩
    have htr := through_v l hwd (by omega) _ hpart
    dsimp only [Tr.part] at g3 htr
    simp only [Pl.av, Br.av] at g3 htr
    have hpos := (Tr.l k v).num_pos
    generalize (Tr.l k v).dg = dg at *
    generalize (Tr.l k v).num = num at *
    have hrl := nxT_len (.l k v) (thr e q l) e (leafH_len k v)
    have hFr := thr_rise hri he256 q
    have hFw : ∀ y ∈ thr e q l, y.1.length = 32 := fun y hy => (hwd y (List.mem_filter.1 hy).1).1
    have hFwd : Wd (thr e q l) := fun y hy => hwd y (List.mem_filter.1 hy).1
    have hFa : ∀ y ∈ thr e q l, agree e k y.1 := fun y hy t ht => (((und_iff he256).1 hop.2) t ht).trans (((und_iff he256).1 (List.mem_filter.1 hy).2) t ht).symm
    have hFne : thr e q l ≠ [] := fun h => (nx_nil hkl hop h).2.2 k v rfl
    have hFl : (thr e q l).length ≤ 70 := Nat.le_trans (List.length_filter_le _ _) hl
    obtain ⟨hsep, hroot⟩ := nx_leaf (v := v) he256 hFr hFw hok.1 hFa
    have hat2 := atR_v (256 - e) e _ (by omega) hsep (by
      intro y hy
      split at hy
      · exact hFwd y hy
      · rcases List.mem_append.1 hy with hy | hy
        · exact hFwd y hy
        · obtain rfl := List.mem_singleton.1 hy; exact ⟨hok.1, hok.2⟩) (by
        split
        · omega
        · rw [List.length_append, List.length_singleton]; omega)
    rw [hroot] at hat2
    generalize nxT (.l k v) (thr e q l) e = R at *
    obtain ⟨A0, hA0⟩ : ∃ A0, ((thr e q l).any fun y => decide (y.1 = k)) = A0 := ⟨_, rfl⟩
    rw [hA0] at hat2
    have hFl2 := ens_len (thr e q l)
    have hgF := fun n h => ens_get (thr e q l) n h
    have hap := ens_app (thr e q l) (k, v)
    obtain ⟨hk32, hv32⟩ := hok
    have hq32 := hlow.1
    have hz2 : (List.replicate 32 (0 : UInt8)).length = 32 := List.length_replicate
    simp only [z32] at g3 htr
    generalize thr e q l = F at *
    refine mE Try.func132 ?_; intro N w0 a w hN hR H
    refine mS ?_
    have hX := And.intro @hPl (And.intro @hz2 (And.intro @g3 (And.intro @hk32 (And.intro @hv32 (And.intro @hq32 (And.intro @hdg (@hFl2)))))))
    (try refine wp_region_lit ?_); refine mN 1 hN H ?_; clear H; intro a w H
    refine wpList_nil ?_
    refine mS ?_
    (try refine wp_region_lit ?_); refine mN 3 hN H ?_; clear H; intro a w H
    refine mW ?_; clear H; intro a w H
    replace H := v_ref H 7 1 (Nat.le_trans hN (Nat.zero_le _)) rfl rfl rfl
    simp only [nilT, strip, List.map_cons, List.map_nil, reduceIte, Nat.reduceEqDiff] at H
    refine mCall [] [] (htr) H ?_; clear H; intro a w H; try refine wpList_nil ?_
    refine mW ?_; clear H; intro a w H
    have hF0 : 0 < F.length := List.length_pos_iff.2 hFne
    refine mC H (fun hb => ?_) (fun hb => ?_)
    · rw [decide_eq_true_eq] at hb; omega
    clear hb
    clear hX; have hX := And.intro @hk32 (And.intro @hv32 (And.intro @hq32 (And.intro @hdg (And.intro @hFl2 (@hz2)))))
    refine mW ?_; clear H; intro a w H
    refine mC H (fun hb => ?_) (fun hb => ?_)
    · exact absurd hb (by decide)
    clear hb
    refine mW ?_; clear H; intro a w H
    refine mC H (fun hb => ?_) (fun hb => ?_)
    rotate_left
    · exact absurd hb (by decide)
    clear hb
    refine mW ?_; clear H; intro a w H
    refine v_loop (fun n : Nat => ⟨[(11, none, .v (.int .i64 (n : Int))), (10, none, .v (.bool ((F.take n).any fun y => decide (y.1 = k)))), (8, none, .sl enT (ens F) (some 0)), (7, none, .ref plT (.st [.st [.v (B8 1), .ba k, .ba v, .ba (List.replicate 32 0)], .ba dg, .v (.int .i64 (e : Int)), .ba q, .v (.int .i64 (num : Int))])), (6, none, .ptr 0 [])], [(.ba 32, .ba (List.replicate 32 0)), (plT, .st [.st [.v (B8 1), .ba k, .ba v, .ba (List.replicate 32 0)], .ba dg, .v (.int .i64 (e : Int)), .ba q, .v (.int .i64 (num : Int))])], [1], [(226, F.length)]⟩)
      (fun n => n ≤ F.length) (fun n => F.length - n) 0 (Nat.zero_le _)
      (H.to 2 1 ⟨Nat.le_trans hN (Nat.zero_le _), Nat.le_trans hR (Nat.zero_le _)⟩ ⟨rfl, rfl, rfl, rfl, rfl, trivial⟩ rfl rfl rfl rfl rfl) ?_
    clear H
    intro n a w hn H
    refine mW ?_; clear H; intro a w H
    refine mC H (fun hb => ?_) (fun hb => ?_)
    · have hlt : n < F.length := by rw [decide_eq_true_eq] at hb; omega
      clear hb
      have hg := hgF n hlt
      have hyw := hFw _ (List.getElem_mem hlt)
      have hyv := (hFwd _ (List.getElem_mem hlt)).2
      have hst : ((F.take (n + 1)).any fun y => decide (y.1 = k)) = (((F.take n).any fun y => decide (y.1 = k)) || decide (F[n].1 = k)) := by
        rw [List.take_succ_eq_append_getElem hlt, List.any_append]; simp
      generalize F[n] = y at *
      obtain ⟨yk, yv⟩ := y
      dsimp only at hg hyw hyv hst
      generalize ((F.take n).any fun y => decide (y.1 = k)) = A at *
      clear hX; have hX := And.intro @hk32 (And.intro @hv32 (And.intro @hq32 (And.intro @hdg (And.intro @hFl2 (And.intro @hz2 (And.intro @hg (And.intro @hyw (@hyv))))))))
      refine mS ?_; refine mD 0 [] [] H ?_; clear H; intro gS H
      refine mTN 5 hN H ?_; clear H; intro a w H; simp only [List.drop_succ_cons, List.drop_zero, List.drop_nil]
      refine mT ?_; clear H; intro a w H
      refine v_drawNil H ?_; clear H; intro H
      have eb : (bif A then true else decide (yk = k)) = (A || decide (yk = k)) := by cases A <;> rfl
      rw [eb, ← hst] at H
      clear hX; have hX := And.intro @hk32 (And.intro @hv32 (And.intro @hq32 (And.intro @hdg (And.intro @hFl2 (@hz2)))))
      refine mW ?_; clear H; intro a w H
      rw [show (n : Int) + 1 = ((n + 1 : Nat) : Int) by omega] at H
      exact ⟨n + 1, hlt, by omega, H.to 2 1 ⟨Nat.le_trans hN (Nat.zero_le _), Nat.le_trans hR (Nat.zero_le _)⟩ ⟨rfl, rfl, rfl, rfl, rfl, trivial⟩ rfl rfl rfl rfl rfl⟩
    · have hge : n = F.length := by rw [decide_eq_false_iff_not] at hb; omega
      clear hb
      subst hge
      rw [List.take_length, hA0] at H
      clear hA0
      cases A0 with
      | true =>
        rw [if_pos rfl] at hat2
        clear hX; have hX := And.intro @hk32 (And.intro @hv32 (And.intro @hq32 (And.intro @hdg (And.intro @hFl2 (And.intro @hz2 (@hrl))))))
        refine mW ?_; clear H; intro a w H
        refine mC H (fun hb => ?_) (fun hb => ?_)
        · exact absurd hb (by decide)
        clear hb
        refine mW ?_; clear H; intro a w H
        refine mCall [] [] (hat2) H ?_; clear H; intro a w H; try refine wpList_nil ?_
        refine mW ?_; clear H; intro a w H
        refine wp_ret ?_; exact mEnd [] [] [.cell 6 50] [_] hN hR H
      | false =>
        rw [if_neg (by decide), hap] at hat2
        clear hX; have hX := And.intro @hk32 (And.intro @hv32 (And.intro @hq32 (And.intro @hdg (And.intro @hFl2 (And.intro @hz2 (@hrl))))))
        refine mW ?_; clear H; intro a w H
        refine mC H (fun hb => ?_) (fun hb => ?_)
        rotate_left
        · exact absurd hb (by decide)
        clear hb
        refine mW ?_; clear H; intro a w H
        refine mCall [] [] (hat2) H ?_; clear H; intro a w H; try refine wpList_nil ?_
        refine mW ?_; clear H; intro a w H
        refine wp_ret ?_; exact mEnd [] [] [.cell 6 50] [_] hN hR H
end Go.Proofs.Ytigmpdhnhkdeiaa
/- Boxes and rows of a frame chosen anew. -/
namespace Go.Proofs.Ytigmpdhnhkdeiaa
open Go Go.RowKit
section
variable {P : Program} {w0 w : World} {N : Gh} {g : Gh} {st : St} {nt : Nat} {a : Act}
theorem v_sel {nb nr : Nat} (js ks : List Nat) (hM : N.bx.length ≤ nb ∧ N.rw.length ≤ nr) (H : Rel P w0 N nt st a w)
    {bx' : List (Ty × AV)} {fz' : List Nat} {rw' : List (TypeId × Nat)} {t' : List (Nat × Gd × AV)}
    (hchk : (okSel js st.bx.length && okSel ks st.rw.length && usesB js st.bx && preOk js nb && preOk ks nr && st.t.all (fun p => argOk js p.2.2)) = true)
    (hf : fzOk js st.fz fz' 0 = true) (hb : bxs (pickB js ks st.bx) bx') (hw : ks.filterMap (st.rw[·]?) = rw')
    (ht : (st.t.map fun p => (p.1, p.2.1, ren (idx? js) (idx? ks) 4 p.2.2)) = t') : Rel P w0 N nt ⟨t', bx', fz', rw'⟩ a w := by
  subst ht
  obtain ⟨g, HI, hF⟩ := H
  simp only [Bool.and_eq_true] at hchk
  obtain ⟨⟨⟨⟨⟨c1, c2⟩, c3⟩, c4⟩, c5⟩, c6⟩ := hchk
  obtain ⟨hj, nj⟩ := okSel_ok c1
  obtain ⟨hk, nk⟩ := okSel_ok c2
  have hlr : g.rw.length = st.rw.length := by rw [← HI.wr, List.length_map]
  have hj' : ∀ j ∈ js, j < g.bx.length := fun j hm => by rw [HI.br.len]; exact hj j hm
  have hk' : ∀ k ∈ ks, k < g.rw.length := fun k hm => by rw [hlr]; exact hk k hm
  have p1 := fun j hj => preOk_ok c4 j (Nat.lt_of_lt_of_le hj hM.1)
  have p2 := fun j hj => preOk_ok c5 j (Nat.lt_of_lt_of_le hj hM.2)
  have hfr : Fr w0 N (g.pick js ks) w := by
    refine ⟨HI.fr.kept, fun i x hx hxo => ?_, fun i r k hr hrk => ?_, HI.fr.ro, ⟨HI.fr.le.ro, fun i x hx => ?_, fun i r hr => ?_⟩⟩
    · have hx' : (js.filterMap (g.bx[·]?))[i]? = some x := hx
      rw [pick_get hj'] at hx'
      obtain ⟨j, h1, h2⟩ := Option.bind_eq_some_iff.1 hx'
      rcases HI.fr.bx j x h2 hxo with h3 | ⟨y, h3, h4⟩
      · exact .inl h3
      · have := nodup_get nj h1 (p1 j (List.getElem?_eq_some_iff.1 h3).1); subst this
        exact .inr ⟨y, h3, h4⟩
    · have hx' : (ks.filterMap (g.rw[·]?))[i]? = some r := hr
      rw [pick_get hk'] at hx'
      obtain ⟨j, h1, h2⟩ := Option.bind_eq_some_iff.1 hx'
      rcases HI.fr.rw j r k h2 hrk with h3 | ⟨y, h3, h4⟩
      · exact .inl h3
      · have := nodup_get nk h1 (p2 j (List.getElem?_eq_some_iff.1 h3).1); subst this
        exact .inr ⟨y, h3, h4⟩
    · obtain ⟨x', h1, h2⟩ := HI.fr.le.bx i x hx
      refine ⟨x', ?_, h2⟩
      show (js.filterMap (g.bx[·]?))[i]? = _
      rw [pick_get hj', p1 i (List.getElem?_eq_some_iff.1 hx).1]; exact h1
    · obtain ⟨x', h1, h2⟩ := HI.fr.le.rw i r hr
      refine ⟨x', ?_, h2⟩
      show (ks.filterMap (g.rw[·]?))[i]? = _
      rw [pick_get hk', p2 i (List.getElem?_eq_some_iff.1 hr).1]; exact h1
  have HP : Inv P w0 N (g.pick js ks) bx' fz' rw' w := HI.pick js ks hj hk nj nk (usesB_ok c3) hb (fun i j hi hm => by simpa using fzOk_ok hf i j hi hm) hw hfr
  refine ⟨g.pick js ks, HP, hF.sz, hF.df, fun p hp hg => ?_, fun p hp hg => ?_⟩
  · obtain ⟨q, hq, rfl⟩ := List.mem_map.1 hp
    have hc := List.all_eq_true.1 c6 q hq
    simp only [argOk, Bool.and_eq_true, Bool.not_eq_true'] at hc
    have ht : ∀ az, q.2.2 ≠ .tup az := fun az e => by rw [e] at hc; simp at hc
    exact ((hF.t q hq hg).pick_ (d := 3) hj' hk' hc.1.1)
  · obtain ⟨q, hq, rfl⟩ := List.mem_map.1 hp
    exact hF.u q hq hg
theorem bxs_refl : ∀ l : List (Ty × AV), bxs l l
  | [] => trivial
  | x :: l => ⟨⟨rfl, sub_refl _ _⟩, bxs_refl l⟩
/-- The same, boxes as they are. -/
theorem v_selB {nb nr : Nat} (js ks : List Nat) (fz' : List Nat) (hM : N.bx.length ≤ nb ∧ N.rw.length ≤ nr) (H : Rel P w0 N nt st a w)
    (hchk : (okSel js st.bx.length && okSel ks st.rw.length && usesB js st.bx && preOk js nb && preOk ks nr && st.t.all (fun p => argOk js p.2.2)) = true := by rfl)
    (hf : fzOk js st.fz fz' 0 = true := by rfl) : Rel P w0 N nt ⟨st.t.map fun p => (p.1, p.2.1, ren (idx? js) (idx? ks) 4 p.2.2), pickB js ks st.bx, fz', ks.filterMap (st.rw[·]?)⟩ a w :=
  v_sel js ks hM H hchk hf (bxs_refl _) rfl rfl
end
end Go.Proofs.Ytigmpdhnhkdeiaa
/- An entry among rising entries: update.with. -/
namespace Go.Proofs.Ytigmpdhnhkdeiaa
open Go Go.RowKit
theorem wiN_drop (k : List UInt8) (l : List En) (i : Nat) (hi : i < l.length) : wiN k (l.drop i) = if Lib.compareBytes l[i].1 k < 0 then wiN k (l.drop (i + 1)) + 1 else 0 := by
  rw [List.drop_eq_getElem_cons hi]
  unfold wiN
  rw [List.takeWhile_cons]
  by_cases h : Lib.compareBytes l[i].1 k < 0
  · rw [if_pos h, decide_eq_true h]; rfl
  · rw [if_neg h, decide_eq_false h]; rfl
theorem ks_get (l : List En) (k : Nat) (hk : k < l.length) : (ksOf l).getD k .any = .ba l[k].1 := by simp [ksOf, bas, List.getD, hk]
theorem ks_mid (l : List En) (n : Nat) (x : En) : (ksOf l).take n ++ [.ba x.1] ++ (ksOf l).drop n = ksOf (l.take n ++ x :: l.drop n) := by
  rw [ks_take, ks_drop]; simp [ksOf, bas]
theorem vs_mid (l : List En) (n : Nat) (x : En) : (vsOf l).take n ++ [.ba x.2] ++ (vsOf l).drop n = vsOf (l.take n ++ x :: l.drop n) := by
  rw [vs_take, vs_drop]; simp [vsOf, bas]
attribute [local irreducible] wpT
set_option maxRecDepth 20000 in
set_option maxHeartbeats 8000000 in
theorem with_v (l : List En) (hl : l.length ≤ 100000) (hw : Wd l) (b : Br) (hb : b.wf) : VC Try.prog 199 [.sl (.ba 32) (ksOf l) none, .sl (.ba 32) (vsOf l) none, b.av] [] (.tup [.sl (.ba 32) (ksOf (wiE l (b.key, b.v))) none, .sl (.ba 32) (vsOf (wiE l (b.key, b.v))) none]) := by
  obtain ⟨q1, q2, q3⟩ := id hb
  obtain ⟨bk, bkey, bv, bg⟩ := b
  dsimp only at q1 q2 q3 ⊢
  have hkl := ks_len l
  have hvl := vs_len l
  have hnl := wiN_le bkey l
  obtain ⟨n, hn⟩ : ∃ n, wiN bkey l = n := ⟨_, rfl⟩
  have h0 : 0 + wiN bkey (l.drop 0) = n := by rw [List.drop_zero, Nat.zero_add]; exact hn
  refine mE Try.func199 ?_; intro N w0 a w hN hR H
  simp only [Br.av] at H
  have hX := And.intro @hkl (And.intro @hvl (And.intro @q1 (And.intro @q2 (@q3))))
  refine mW ?_; clear H; intro a w H
  replace H := v_ref H 5 0 (Nat.le_trans hN (Nat.le_of_ble_eq_true rfl)) rfl rfl rfl
  simp only [nilT, strip, List.map_cons, List.map_nil, reduceIte, Nat.reduceEqDiff] at H
  revert a w
  apply cutG9 (R := fun a w => Rel Try.prog w0 N Try.f199.ntmps ⟨[(8, none, .v (.int .i64 (n : Int))), (7, none, .v (.slice none 0 0)), (6, none, .v (.slice none 0 0)), (5, none, .ref brT (.st [.v (B8 bk), .ba bkey, .ba bv, .ba bg])), (0, none, .sl (.ba 32) (ksOf l) none), (1, none, .sl (.ba 32) (vsOf l) none)], [(brT, .st [.v (B8 bk), .ba bkey, .ba bv, .ba bg])], [0], []⟩ a w)
  · intro key1 a w H
    refine v_loop (fun i : Nat => ⟨[(8, none, .v (.int .i64 (i : Int))), (7, none, .v (.slice none 0 0)), (6, none, .v (.slice none 0 0)), (5, none, .ref brT (.st [.v (B8 bk), .ba bkey, .ba bv, .ba bg])), (0, none, .sl (.ba 32) (ksOf l) none), (1, none, .sl (.ba 32) (vsOf l) none)], [(brT, .st [.v (B8 bk), .ba bkey, .ba bv, .ba bg])], [0], []⟩) (fun i => i ≤ l.length ∧ i + wiN bkey (l.drop i) = n) (fun i => l.length - i) 0 ⟨Nat.zero_le _, h0⟩
      (H.to 1 0 ⟨Nat.le_trans hN (Nat.le_of_ble_eq_true rfl), Nat.le_trans hR (Nat.zero_le _)⟩ ⟨rfl, rfl, rfl, rfl, rfl, rfl, trivial⟩ rfl rfl rfl rfl rfl) ?_
    clear H
    rintro i a w ⟨hi1, hi2⟩ H
    rcases Nat.lt_or_ge i l.length with hlt | hge
    · have e0 : decide ((i : Int) < (l.length : Int)) = true := decide_eq_true (by omega)
      have hg := ks_get l i hlt
      have hq := (hw _ (List.getElem_mem hlt)).1
      have hd := wiN_drop bkey l i hlt
      have hc := pcmp_v l[i].1 bkey hq q1
      generalize l[i].1 = q at *
      have hX := And.intro hX (And.intro hg (And.intro hq e0))
      refine mS ?_; refine mD 1 [11] [] H ?_; clear H; intro gS H
      refine mTN 5 hN H ?_; clear H; intro a w H; simp only [List.drop_succ_cons, List.drop_zero, List.drop_nil]
      refine mTN 3 hN H ?_; clear H; intro a w H; simp only [List.drop_succ_cons, List.drop_zero, List.drop_nil]
      refine mT ?_; clear H; intro a w H
      refine mCallTG [] [] (hc) H ?_; clear H; intro a w H
      refine mT ?_; clear H; intro a w H
      refine v_drawNil H ?_; clear H; intro H
      refine mC H (fun hb => ?_) (fun hb => ?_)
      · rw [decide_eq_true_eq] at hb
        rw [if_pos hb] at hd
        clear hb
        refine mW ?_; clear H; intro a w H
        rw [show (i : Int) + 1 = ((i + 1 : Nat) : Int) by omega] at H
        exact ⟨i + 1, ⟨hlt, by omega⟩, by omega, H.to 1 0 ⟨Nat.le_trans hN (Nat.le_of_ble_eq_true rfl), Nat.le_trans hR (Nat.zero_le _)⟩ ⟨rfl, rfl, rfl, rfl, rfl, rfl, trivial⟩ rfl rfl rfl rfl rfl⟩
      · rw [decide_eq_false_iff_not] at hb
        rw [if_neg hb] at hd
        clear hb
        have e : i = n := by omega
        subst e
        refine mS ?_
        exact key1 _ _ (H.to 1 0 ⟨Nat.le_trans hN (Nat.le_of_ble_eq_true rfl), Nat.le_trans hR (Nat.zero_le _)⟩ ⟨rfl, rfl, rfl, rfl, rfl, rfl, trivial⟩ rfl rfl rfl rfl rfl)
    · have e0 : decide ((i : Int) < (l.length : Int)) = false := decide_eq_false (by omega)
      have e : i = n := by
        rw [List.drop_eq_nil_of_le hge] at hi2
        exact hi2
      subst e
      have hX := And.intro hX e0
      refine mS ?_; refine mD 1 [11] [] H ?_; clear H; intro gS H
      refine mTN 5 hN H ?_; clear H; intro a w H; simp only [List.drop_succ_cons, List.drop_zero, List.drop_nil]
      refine mSkT (.v (.int .i64 0)) H ?_; clear H; intro a w H
      refine mSkT (.v (.int .i64 0)) H ?_; clear H; intro a w H
      refine mSkT (.v (.int .i64 0)) H ?_; clear H; intro a w H
      refine mSkT (.v (.int .i64 0)) H ?_; clear H; intro a w H
      refine mSkT (.v (.int .i64 0)) H ?_; clear H; intro a w H
      refine mSkT (.v (.int .i64 0)) H ?_; clear H; intro a w H
      refine mSkT (.v (.int .i64 0)) H ?_; clear H; intro a w H
      refine mSkT (.v (.bool true)) H ?_; clear H; intro a w H
      refine mT ?_; clear H; intro a w H
      refine v_drawNil H ?_; clear H; intro H
      refine mC H (fun hb => ?_) (fun hb => ?_)
      · exact absurd hb (by decide)
      · clear hb
        refine mS ?_
        exact key1 _ _ (H.to 1 0 ⟨Nat.le_trans hN (Nat.le_of_ble_eq_true rfl), Nat.le_trans hR (Nat.zero_le _)⟩ ⟨rfl, rfl, rfl, rfl, rfl, rfl, trivial⟩ rfl rfl rfl rfl rfl)
  intro a w H
  have hxb : (bkey, bv).1 = bkey := rfl
  by_cases hB : wiB bkey l = true
  · have eE : wiE l (bkey, bv) = l := by unfold wiE; rw [if_pos hB]
    rw [eE]
    unfold wiB at hB
    rw [hn, Bool.and_eq_true, decide_eq_true_eq, decide_eq_true_eq] at hB
    obtain ⟨hlt, hke⟩ := hB
    rw [List.getD_eq_getElem?_getD, List.getElem?_eq_getElem hlt, Option.getD_some] at hke
    have hg := ks_get l n hlt
    rw [hke] at hg
    have e0 : decide ((n : Int) < (l.length : Int)) = true := decide_eq_true (by omega)
    clear hX; have hX := And.intro @hkl (And.intro @hvl (And.intro @q1 (And.intro @q2 (And.intro @q3 (And.intro @hg (@e0))))))
    refine mS ?_; refine mD 1 [] [] H ?_; clear H; intro gS H
    refine mTN 5 hN H ?_; clear H; intro a w H; simp only [List.drop_succ_cons, List.drop_zero, List.drop_nil]
    refine mTN 3 hN H ?_; clear H; intro a w H; simp only [List.drop_succ_cons, List.drop_zero, List.drop_nil]
    refine mT ?_; clear H; intro a w H
    refine v_drawNil H ?_; clear H; intro H
    refine mC H (fun hb => ?_) (fun hb => ?_)
    · clear hb
      clear hX; have hX := And.intro @hkl (@hvl)
      refine mW ?_; clear H; intro a w H
      refine wp_ret ?_; exact mEnd [] [] [.tmp 6, .tmp 7] [_, _] hN hR H
    · simp at hb
  · have eE : wiE l (bkey, bv) = l.take n ++ (bkey, bv) :: l.drop n := by unfold wiE; rw [hxb, if_neg hB, hn]
    rw [eE, ← ks_mid, ← vs_mid]
    replace H := nf H
    revert a w
    apply cutG9 (R := fun a w => Rel Try.prog w0 N Try.f199.ntmps ⟨[(8, none, .v (.int .i64 (n : Int))), (5, none, .ref brT (.st [.v (B8 bk), .ba bkey, .ba bv, .ba bg])), (0, none, .sl (.ba 32) (ksOf l) none), (1, none, .sl (.ba 32) (vsOf l) none)], [(brT, .st [.v (B8 bk), .ba bkey, .ba bv, .ba bg])], [0], []⟩ a w)
    · intro key1 a w H
      rcases Nat.lt_or_ge n l.length with hlt | hge
      · have e0 : decide ((n : Int) < (l.length : Int)) = true := decide_eq_true (by omega)
        have hg := ks_get l n hlt
        have hq := (hw _ (List.getElem_mem hlt)).1
        have hne : decide (l[n].1 = bkey) = false := decide_eq_false fun h => by
          apply hB
          unfold wiB
          rw [hn, List.getD_eq_getElem?_getD, List.getElem?_eq_getElem hlt, Option.getD_some, decide_eq_true hlt, decide_eq_true h]; rfl
        generalize l[n].1 = q at *
        have hX := And.intro hX (And.intro hg (And.intro hq (And.intro e0 hne)))
        refine mS ?_; refine mD 1 [] [] H ?_; clear H; intro gS H
        refine mTN 5 hN H ?_; clear H; intro a w H; simp only [List.drop_succ_cons, List.drop_zero, List.drop_nil]
        refine mTN 3 hN H ?_; clear H; intro a w H; simp only [List.drop_succ_cons, List.drop_zero, List.drop_nil]
        refine mT ?_; clear H; intro a w H
        refine v_drawNil H ?_; clear H; intro H
        refine mC H (fun hb => ?_) (fun hb => ?_)
        · exact absurd hb (by decide)
        · clear hb
          refine mS ?_
          exact key1 _ _ (H.to 1 0 ⟨Nat.le_trans hN (Nat.le_of_ble_eq_true rfl), Nat.le_trans hR (Nat.zero_le _)⟩ ⟨rfl, rfl, rfl, rfl, trivial⟩ rfl rfl rfl rfl rfl)
      · have e0 : decide ((n : Int) < (l.length : Int)) = false := decide_eq_false (by omega)
        have hX := And.intro hX e0
        refine mS ?_; refine mD 1 [] [] H ?_; clear H; intro gS H
        refine mTN 5 hN H ?_; clear H; intro a w H; simp only [List.drop_succ_cons, List.drop_zero, List.drop_nil]
        refine mSkT (.v (.int .i64 0)) H ?_; clear H; intro a w H
        refine mSkT (.v (.int .i64 0)) H ?_; clear H; intro a w H
        refine mSkT (.v (.int .i64 0)) H ?_; clear H; intro a w H
        refine mSkT (.v (.int .i64 0)) H ?_; clear H; intro a w H
        refine mSkT (.v (.int .i64 0)) H ?_; clear H; intro a w H
        refine mSkT (.v (.int .i64 0)) H ?_; clear H; intro a w H
        refine mSkT (.v (.bool true)) H ?_; clear H; intro a w H
        refine mT ?_; clear H; intro a w H
        refine v_drawNil H ?_; clear H; intro H
        refine mC H (fun hb => ?_) (fun hb => ?_)
        · exact absurd hb (by decide)
        · clear hb
          refine mS ?_
          exact key1 _ _ (H.to 1 0 ⟨Nat.le_trans hN (Nat.le_of_ble_eq_true rfl), Nat.le_trans hR (Nat.zero_le _)⟩ ⟨rfl, rfl, rfl, rfl, trivial⟩ rfl rfl rfl rfl rfl)
    intro a w H
    have hn2 : n ≤ l.length := by omega
    have tk : ((ksOf l).take n).length = n := by rw [List.length_take]; omega
    have tv : ((vsOf l).take n).length = n := by rw [List.length_take]; omega
    have dk : ((ksOf l).drop n).length = l.length - n := by rw [List.length_drop, hkl]
    have dv : ((vsOf l).drop n).length = l.length - n := by rw [List.length_drop, hvl]
    revert a w
    apply cutG9 (R := fun a w => Rel Try.prog w0 N Try.f199.ntmps ⟨[(9, none, .sl (.ba 32) ((ksOf l).take n ++ [.ba bkey]) (some 0)), (8, none, .v (.int .i64 (n : Int))), (5, none, .ref brT (.st [.v (B8 bk), .ba bkey, .ba bv, .ba bg])), (0, none, .sl (.ba 32) (ksOf l) none), (1, none, .sl (.ba 32) (vsOf l) none)], [(brT, .st [.v (B8 bk), .ba bkey, .ba bv, .ba bg])], [0], [(52, n + 1)]⟩ a w)
    · intro key1 a w H
      have hX := And.intro hX (And.intro tk tv)
      repeat (first | refine wp_seq ?_ | refine wp_block ?_)
      refine v_drawZ 0 [1, 2, 3, 5, 6, 0, 4, 7, 8, 9] [0, 4, 7, 8] [1, 2, 3, 5, 6] [(0, 7), (4, 7)] (by kernel_rfl) (by kernel_rfl) (by kernel_rfl) (by kernel_rfl) (by kernel_rfl) H (by rfl) ?_; clear H; intro gS H; try replace H := ntf H
      repeat' ((first | refine wpZ_q1 rfl rfl ?_ | refine wpZ_l1 rfl rfl rfl ?_ | refine wpZ_l2 rfl rfl rfl rfl rfl ?_ ?_ | refine wpZ_l3 rfl rfl rfl rfl rfl rfl rfl ?_ ?_ ?_ | refine wpZ_l4 rfl rfl rfl rfl rfl rfl rfl rfl rfl ?_ ?_ ?_ ?_) <;> ((first | (refine wpT_at 0 ?_; (refine v_someT 1 tab_ok hN H rfl ctX ?_; clear H; intro a w H; replace H := ntf H; simp only [List.replicate_zero, List.nil_append, List.length_nil, Nat.zero_add] at H)) | (refine wpT_at 4 ?_; (refine v_someT 1 tab_ok hN H rfl ctX ?_; clear H; intro a w H; replace H := ntf H; simp only [List.replicate_zero, List.nil_append, List.length_nil, Nat.zero_add] at H)) | (refine v_someT 1 tab_ok hN H rfl ctX ?_; clear H; intro a w H; replace H := ntf H; simp only [List.drop_succ_cons, List.drop_zero, List.drop_nil])); refine wpT_nil ?_; try dsimp only))
      all_goals (refine wpZ_nil ?_; replace H := RelT.toRel H)
      all_goals
        first
        | exact key1 _ _ (H.to 1 1 ⟨Nat.le_trans hN (Nat.zero_le _), Nat.le_trans hR (Nat.zero_le _)⟩ ⟨rfl, rfl, rfl, rfl, rfl, trivial⟩ rfl rfl rfl rfl rfl)
        | (replace H := mK [9, 8, 5, 0, 1] 1 2 hN hR H
           replace H := v_selB [0] [1] [0] ⟨hN, hR⟩ H
           simp only [pickB, List.filterMap_cons, List.filterMap_nil, List.getElem?_cons_zero, List.getElem?_cons_succ, Option.map_some, List.map_cons, List.map_nil, ren, idx?, List.idxOf_cons, List.length_cons, List.length_nil, Nat.reduceAdd, Nat.reduceBEq, cond_true, cond_false, Nat.reduceLT, if_true, Option.some.injEq] at H
           exact key1 _ _ (H.to 1 1 ⟨Nat.le_trans hN (Nat.zero_le _), Nat.le_trans hR (Nat.zero_le _)⟩ ⟨rfl, rfl, rfl, rfl, rfl, trivial⟩ rfl rfl rfl rfl rfl))
    intro a w H
    revert a w
    apply cutG9 (R := fun a w => Rel Try.prog w0 N Try.f199.ntmps ⟨[(10, none, .sl (.ba 32) ((vsOf l).take n ++ [.ba bv]) (some 1)), (9, none, .sl (.ba 32) ((ksOf l).take n ++ [.ba bkey]) (some 0)), (8, none, .v (.int .i64 (n : Int))), (5, none, .ref brT (.st [.v (B8 bk), .ba bkey, .ba bv, .ba bg])), (0, none, .sl (.ba 32) (ksOf l) none), (1, none, .sl (.ba 32) (vsOf l) none)], [(brT, .st [.v (B8 bk), .ba bkey, .ba bv, .ba bg])], [0], [(52, n + 1), (50, n + 1)]⟩ a w)
    · intro key1 a w H
      have hX := And.intro hX (And.intro tk tv)
      repeat (first | refine wp_seq ?_ | refine wp_block ?_)
      refine v_drawZ 0 [1, 2, 3, 5, 6, 0, 4, 7, 8, 9] [0, 4, 7, 8] [1, 2, 3, 5, 6] [(0, 7), (4, 7)] (by kernel_rfl) (by kernel_rfl) (by kernel_rfl) (by kernel_rfl) (by kernel_rfl) H (by rfl) ?_; clear H; intro gS H; try replace H := ntf H
      repeat' ((first | refine wpZ_q1 rfl rfl ?_ | refine wpZ_l1 rfl rfl rfl ?_ | refine wpZ_l2 rfl rfl rfl rfl rfl ?_ ?_ | refine wpZ_l3 rfl rfl rfl rfl rfl rfl rfl ?_ ?_ ?_ | refine wpZ_l4 rfl rfl rfl rfl rfl rfl rfl rfl rfl ?_ ?_ ?_ ?_) <;> ((first | (refine wpT_at 0 ?_; (refine v_someT 1 tab_ok hN H rfl ctX ?_; clear H; intro a w H; replace H := ntf H; simp only [List.replicate_zero, List.nil_append, List.length_nil, Nat.zero_add] at H)) | (refine wpT_at 4 ?_; (refine v_someT 1 tab_ok hN H rfl ctX ?_; clear H; intro a w H; replace H := ntf H; simp only [List.replicate_zero, List.nil_append, List.length_nil, Nat.zero_add] at H)) | (refine v_someT 1 tab_ok hN H rfl ctX ?_; clear H; intro a w H; replace H := ntf H; simp only [List.drop_succ_cons, List.drop_zero, List.drop_nil])); refine wpT_nil ?_; try dsimp only))
      all_goals (refine wpZ_nil ?_; replace H := RelT.toRel H)
      all_goals
        first
        | exact key1 _ _ (H.to 1 2 ⟨Nat.le_trans hN (Nat.zero_le _), Nat.le_trans hR (Nat.zero_le _)⟩ ⟨rfl, rfl, rfl, rfl, rfl, rfl, trivial⟩ rfl rfl rfl rfl rfl)
        | (replace H := mK [10, 9, 8, 5, 0, 1] 1 3 hN hR H
           replace H := v_selB [0] [0, 2] [0] ⟨hN, hR⟩ H
           simp only [pickB, List.filterMap_cons, List.filterMap_nil, List.getElem?_cons_zero, List.getElem?_cons_succ, Option.map_some, List.map_cons, List.map_nil, ren, idx?, List.idxOf_cons, List.length_cons, List.length_nil, Nat.reduceAdd, Nat.reduceBEq, cond_true, cond_false, Nat.reduceLT, if_true, Option.some.injEq] at H
           exact key1 _ _ (H.to 1 2 ⟨Nat.le_trans hN (Nat.zero_le _), Nat.le_trans hR (Nat.zero_le _)⟩ ⟨rfl, rfl, rfl, rfl, rfl, rfl, trivial⟩ rfl rfl rfl rfl rfl))
    intro a w H
    have hn1 : ((ksOf l).take n ++ [AV.ba bkey]).length = n + 1 := by rw [List.length_append, tk]; rfl
    have hn2' : ((vsOf l).take n ++ [AV.ba bv]).length = n + 1 := by rw [List.length_append, tv]; rfl
    generalize (ksOf l).take n ++ [AV.ba bkey] = K1 at *
    generalize (vsOf l).take n ++ [AV.ba bv] = V1 at *
    have tkl : (ksOf l).take l.length = ksOf l := List.take_of_length_le (by omega)
    have tvl : (vsOf l).take l.length = vsOf l := List.take_of_length_le (by omega)
    clear hX; have hX := And.intro @hkl (And.intro @hvl (And.intro @hn1 (And.intro @hn2' (And.intro @dk (And.intro @dv (And.intro @tkl (@tvl)))))))
    refine mS ?_; refine mD 0 [4, 9] [5, 6, 7, 8] H ?_; clear H; intro gS H
    refine mT ?_; clear H; intro a w H
    refine v_drawNil H ?_; clear H; intro H
    refine mS ?_
    refine wp_ret ?_; exact mEnd [] [] [.tmp 6, .tmp 7] [_, _] hN hR H
end Go.Proofs.Ytigmpdhnhkdeiaa
/- The new digest of a place: update.next. -/
namespace Go.Proofs.Ytigmpdhnhkdeiaa
open Go Go.RowKit
theorem partN_half {d : Nat} (hd : d < 256) {l : List En} (h : Rise d l) : (ksOf l).take (partN d l) = ksOf (half false d l) ∧ (vsOf l).take (partN d l) = vsOf (half false d l) ∧ (ksOf l).drop (partN d l) = ksOf (half true d l) ∧ (vsOf l).drop (partN d l) = vsOf (half true d l) := by
  obtain ⟨h1, h2⟩ := h.part hd
  exact ⟨by rw [ks_take, h1], by rw [vs_take, h1], by rw [ks_drop, h2], by rw [vs_drop, h2]⟩
attribute [local irreducible] wpT
set_option maxRecDepth 20000 in
set_option maxHeartbeats 16000000 in
theorem unext_v (op : List UInt8 → Nat → Bool) : ∀ (f : Nat) (top : List UInt8) (d : Nat) (p : List Br) (t : Tr) (r : List Br) (l : List En), f + d = 257 → rdTr op f top d p = some (t, r) → Low d top → (∀ b ∈ p, b.wf) → p.length ≤ 100000 → Rise d l → Wd l → l.length ≤ 70 → (∀ x ∈ l, und d x.1 top = true) →
    VC Try.prog 131 [.sl brT (brs p) none, .sl (.ba 32) (ksOf l) none, .sl (.ba 32) (vsOf l) none, .v (.int .i64 (d : Int))] [] (.tup [.ba (nxT t l d), .sl brT (brs r) none]) := by
  intro f
  induction f with
  | zero => intro top d p t r l hf h; simp [rdTr] at h
  | succ f ih =>
    intro top d p t r l hf h hlow hpw hpl hri hwd hl70 hun
    cases p with
    | nil => simp [rdTr] at h
    | cons b rest =>
      have hbw := hpw b List.mem_cons_self
      have hpw2 : ∀ b ∈ rest, b.wf := fun b h => hpw b (List.mem_cons_of_mem _ h)
      obtain ⟨bk, bkey, bv, bg⟩ := b
      obtain ⟨q1, q2, q3⟩ := id hbw
      dsimp only at q1 q2 q3
      simp only [List.length_cons] at hpl
      generalize hbe : brs (⟨bk, bkey, bv, bg⟩ :: rest) = B0
      have hbl0 : B0.length = (brs rest).length + 1 := by rw [← hbe]; simp [brs]
      have hb0 : B0.getD 0 .any = .st [.v (B8 bk), .ba bkey, .ba bv, .ba bg] := by rw [← hbe]; rfl
      have hbs : List.drop 1 B0 = brs rest := by rw [← hbe]; rfl
      have hbs2 : List.drop 1 (List.take ((brs rest).length + 1) B0) = brs rest := by rw [List.take_of_length_le (by omega)]; exact hbs
      have hkl := ks_len l
      have hvl := vs_len l
      have hrl := brs_len rest
      have k0 : decide ((bk.toNat : Int) = 0) = decide (bk = 0) := kz bk 0 (by decide)
      have k1 : decide ((bk.toNat : Int) = 1) = decide (bk = 1) := kz bk 1 (by decide)
      have k3 : decide ((bk.toNat : Int) = 3) = decide (bk = 3) := kz bk 3 (by decide)
      unfold rdTr at h
      by_cases hcl : Br.clean ⟨bk, bkey, bv, bg⟩ = false
      · rw [if_pos hcl] at h; cases h
      rw [if_neg hcl] at h
      dsimp only at h
      refine mE Try.func131 ?_; intro N w0 a w hN hR H
      have hX := And.intro @hbl0 (And.intro @hb0 (And.intro @hbs (And.intro @hbs2 (And.intro @q1 (And.intro @q2 (And.intro @q3 (And.intro @hkl (@hvl))))))))
      refine mW ?_; clear H; intro a w H
      refine mS ?_; refine mD 0 [5, 6] [0, 1, 2, 3, 4] H ?_; clear H; intro gS H
      refine mTN 2 hN H ?_; clear H; intro a w H; simp only [List.drop_succ_cons, List.drop_zero, List.drop_nil]
      refine mTN 3 hN H ?_; clear H; intro a w H; simp only [List.drop_succ_cons, List.drop_zero, List.drop_nil]
      refine mT ?_; clear H; intro a w H
      refine v_drawNil H ?_; clear H; intro H
      refine mW ?_; clear H; intro a w H
      simp only [k3] at H
      refine mC H (fun hb => ?_) (fun hb => ?_)
      · have e : bk = 3 := of_decide_eq_true hb
        clear hb
        subst e
        rw [if_neg (by decide), if_pos rfl] at h
        split at h
        · cases h
        simp only [Option.some.injEq, Prod.mk.injEq] at h
        obtain ⟨rfl, rfl⟩ := h
        clear hX; have hX := And.intro @hbl0 (And.intro @hb0 (And.intro @hbs (And.intro @q1 (And.intro @q2 (And.intro @q3 (And.intro @hkl (@hvl)))))))
        refine mW ?_; clear H; intro a w H
        refine wp_ret ?_; exact mEnd [] [] [.cell 8 50, .tmp 9] [_, _] hN hR H
      · have n3 : ¬ bk = 3 := of_decide_eq_false hb
        clear hb
        clear hX; have hX := And.intro @hbl0 (And.intro @hb0 (And.intro @hbs (And.intro @q1 (And.intro @q2 (And.intro @q3 (And.intro @hkl (@hvl)))))))
        refine mW ?_; clear H; intro a w H
        simp only [k0] at H
        refine mC H (fun hb => ?_) (fun hb => ?_)
        · have e : bk = 0 := of_decide_eq_true hb
          clear hb
          subst e
          rw [if_pos rfl] at h
          simp only [Option.some.injEq, Prod.mk.injEq] at h
          obtain ⟨rfl, rfl⟩ := h
          have hro := rootOf_v (256 - d) d l (by omega) hri hwd (by omega)
          have hrlen := rootA_len (256 - d) d l
          show Code.wp _ _ _ _ _
          simp only [nxT]
          generalize rootA (256 - d) d l = R at *
          clear hX; have hX := And.intro @hkl (And.intro @hvl (@hrlen))
          refine mW ?_; clear H; intro a w H
          refine mCall [] [] (hro) H ?_; clear H; intro a w H; try refine wpList_nil ?_
          refine mW ?_; clear H; intro a w H
          refine wp_ret ?_; exact mEnd [] [] [.cell 8 50, .tmp 9] [_, _] hN hR H
        · have n0 : ¬ bk = 0 := of_decide_eq_false hb
          clear hb
          rw [if_neg n0, if_neg n3] at h
          split at h
          · cases h
          refine mW ?_; clear H; intro a w H
          simp only [k1] at H
          refine mC H (fun hb => ?_) (fun hb => ?_)
          · have e : bk = 1 := of_decide_eq_true hb
            clear hb
            subst e
            rw [if_pos rfl] at h
            split at h
            · rename_i hund
              simp only [Option.some.injEq, Prod.mk.injEq] at h
              obtain ⟨rfl, rfl⟩ := h
              have hwi := with_v l (by omega) hwd ⟨1, bkey, bv, bg⟩ hbw
              have hag : ∀ y ∈ l, agree d (bkey, bv).1 y.1 := fun y hy t ht => (((und_iff (by omega)).1 hund) t ht).trans (((und_iff (by omega)).1 (hun y hy)) t ht).symm
              have hri2 := wiE_rise (x := (bkey, bv)) q1 (fun y hy => (hwd y hy).1) hag hri
              have hwd2 := wiE_wd hwd (x := (bkey, bv)) ⟨q1, q2⟩
              have hle2 := wiE_len l (bkey, bv)
              have hro := rootOf_v (256 - d) d (wiE l (bkey, bv)) (by omega) hri2 hwd2 (by omega)
              have hrlen := rootA_len (256 - d) d (wiE l (bkey, bv))
              simp only [nxT]
              dsimp only at hwi
              simp only [Br.av] at hwi
              generalize rootA (256 - d) d (wiE l (bkey, bv)) = R at *
              have hkl2 := ks_len (wiE l (bkey, bv))
              have hvl2 := vs_len (wiE l (bkey, bv))
              generalize wiE l (bkey, bv) = l2 at *
              clear hX; have hX := And.intro @hkl (And.intro @hvl (And.intro @hrlen (And.intro @q1 (And.intro @q2 (And.intro @q3 (And.intro @hkl2 (@hvl2)))))))
              refine mW ?_; clear H; intro a w H
              refine mCall [] [] (hwi) H ?_; clear H; intro a w H; try refine wpList_nil ?_
              refine mW ?_; clear H; intro a w H
              refine mCall [] [] (hro) H ?_; clear H; intro a w H; try refine wpList_nil ?_
              refine mW ?_; clear H; intro a w H
              refine wp_ret ?_; exact mEnd [] [] [.cell 8 50, .tmp 9] [_, _] hN hR H
            · cases h
          · have n1 : ¬ bk = 1 := of_decide_eq_false hb
            clear hb
            rw [if_neg n1] at h
            split at h
            · cases h
            have hd : d < 256 := by omega
            cases e1 : rdTr op f top (d + 1) rest with
            | none => rw [e1] at h; cases h
            | some Q =>
              obtain ⟨x, r1⟩ := Q
              rw [e1] at h
              dsimp only at h
              cases e2 : rdTr op f (flipL top d) (d + 1) r1 with
              | none => rw [e2] at h; cases h
              | some Q =>
                obtain ⟨y, r2⟩ := Q
                rw [e2] at h
                dsimp only at h
                simp only [Option.some.injEq, Prod.mk.injEq] at h
                obtain ⟨rfl, rfl⟩ := h
                obtain ⟨x2, x1, _, _, hrl1, _⟩ := rd_parts e1 hpw2
                obtain ⟨y2, y1, _, _, _, _⟩ := rd_parts e2 x2
                have hpt := parted_v (l.map Prod.fst) (fun k hk => by obtain ⟨z, hz, rfl⟩ := List.mem_map.1 hk; exact (hwd z hz).1) d hd (by rw [List.length_map]; omega)
                rw [partN_K] at hpt
                have hpn := partN_le d l
                obtain ⟨s1, s2, s3, s4⟩ := partN_half hd hri
                have hF := half_le false d l
                have hT := half_le true d l
                have ih1 := ih top (d + 1) rest x r1 (half false d l) (by omega) e1 hlow.up hpw2 (by omega) (hri.side false) (hwd.half false d) (by omega) (fun z hz => by
                  rw [und_left hd hlow, hun z (half_mem hz)]
                  have : bitN z.1 d = false := by simpa using (List.mem_filter.1 hz).2
                  rw [this]; rfl)
                have ih2 := ih (flipL top d) (d + 1) r1 y r2 (half true d l) (by omega) e2 (hlow.flip hd) x2 (by omega) (hri.side true) (hwd.half true d) (by omega) (fun z hz => by
                  rw [und_right hd hlow, hun z (half_mem hz)]
                  have : bitN z.1 d = true := by simpa using (List.mem_filter.1 hz).2
                  rw [this]; rfl)
                rw [← s1, ← s2, show ((d + 1 : Nat) : Int) = (d : Int) + 1 by omega] at ih1
                rw [← s3, ← s4, show ((d + 1 : Nat) : Int) = (d : Int) + 1 by omega] at ih2
                simp only [nxT]
                have nx := nxT_len x (half false d l) (d + 1) x1
                have ny := nxT_len y (half true d l) (d + 1) y1
                generalize nxT x (half false d l) (d + 1) = X at *
                generalize nxT y (half true d l) (d + 1) = Y at *
                have hin := inner_v X Y nx ny
                have hinl := innerH_len X Y
                have tkl : (ksOf l).take l.length = ksOf l := List.take_of_length_le (by omega)
                have tvl : (vsOf l).take l.length = vsOf l := List.take_of_length_le (by omega)
                clear s1 s2 s3 s4 hF hT
                clear hX; have hX := And.intro @hkl (And.intro @hvl (And.intro @q1 (And.intro @q2 (And.intro @q3 (And.intro @tkl (And.intro @tvl (And.intro @nx (And.intro @ny (@hinl)))))))))
                refine mW ?_; clear H; intro a w H
                refine mCall [] [] (hpt) H ?_; clear H; intro a w H; try refine wpList_nil ?_
                refine mW ?_; clear H; intro a w H
                revert a w
                apply cutG9 (R := fun a w => Rel Try.prog w0 N Try.f131.ntmps ⟨[(15, none, .ptr 2 []), (14, none, .v (.int .i64 ((partN d l : Nat) : Int))), (11, none, .sl brT (brs r1) none), (9, none, .v (.slice none 0 0)), (8, none, .ptr 0 []), (1, none, .sl (.ba 32) (ksOf l) none), (2, none, .sl (.ba 32) (vsOf l) none), (3, none, .v (.int .i64 (d : Int)))], [(.ba 32, .ba (List.replicate 32 0)), (brT, .st [.v (B8 bk), .ba bkey, .ba bv, .ba bg]), (.ba 32, .ba X)], [], []⟩ a w)
                · intro key1 a w H
                  repeat (first | refine wp_seq ?_ | refine wp_block ?_)
                  refine v_drawZ 0 [0, 1, 2, 3, 4, 5, 6, 7, 8, 9, 10, 11, 12, 13, 14, 15] [9, 13, 14] [0, 1, 2, 3, 4, 5, 6, 7, 8, 10, 11, 12] [(9, 13)] (by kernel_rfl) (by kernel_rfl) (by kernel_rfl) (by kernel_rfl) (by kernel_rfl) H (by rfl) ?_; clear H; intro gS H; try replace H := ntf H
                  repeat' ((first | refine wpZ_q1 rfl rfl ?_ | refine wpZ_l1 rfl rfl rfl ?_ | refine wpZ_l2 rfl rfl rfl rfl rfl ?_ ?_ | refine wpZ_l3 rfl rfl rfl rfl rfl rfl rfl ?_ ?_ ?_ | refine wpZ_l4 rfl rfl rfl rfl rfl rfl rfl rfl rfl ?_ ?_ ?_ ?_) <;> ((first | (refine wpT_at 9 ?_; refine mCallT [] [] (ih1) H ?_; clear H; intro a w H) | (refine v_someT 1 tab_ok hN H rfl ctX ?_; clear H; intro a w H; replace H := ntf H; simp only [List.drop_succ_cons, List.drop_zero, List.drop_nil])); refine wpT_nil ?_; try dsimp only))
                  all_goals (refine wpZ_nil ?_; replace H := RelT.toRel H)
                  all_goals
                    exact key1 _ _ (H.to 3 0 ⟨Nat.le_trans hN (Nat.zero_le _), Nat.le_trans hR (Nat.zero_le _)⟩ ⟨rfl, rfl, rfl, rfl, rfl, rfl, rfl, rfl, trivial⟩ rfl rfl rfl rfl rfl)
                intro a w H
                revert a w
                apply cutG9 (R := fun a w => Rel Try.prog w0 N Try.f131.ntmps ⟨[(16, none, .ptr 3 []), (15, none, .ptr 2 []), (14, none, .v (.int .i64 ((partN d l : Nat) : Int))), (11, none, .sl brT (brs r2) none), (9, none, .v (.slice none 0 0)), (8, none, .ptr 0 []), (1, none, .sl (.ba 32) (ksOf l) none), (2, none, .sl (.ba 32) (vsOf l) none), (3, none, .v (.int .i64 (d : Int)))], [(.ba 32, .ba (List.replicate 32 0)), (brT, .st [.v (B8 bk), .ba bkey, .ba bv, .ba bg]), (.ba 32, .ba X), (.ba 32, .ba Y)], [], []⟩ a w)
                · intro key1 a w H
                  repeat (first | refine wp_seq ?_ | refine wp_block ?_)
                  refine v_drawZ 0 [0, 1, 2, 3, 4, 5, 6, 7, 8, 9, 10, 11, 12, 13, 14, 15] [9, 13, 14] [0, 1, 2, 3, 4, 5, 6, 7, 8, 10, 11, 12] [(9, 13)] (by kernel_rfl) (by kernel_rfl) (by kernel_rfl) (by kernel_rfl) (by kernel_rfl) H (by rfl) ?_; clear H; intro gS H; try replace H := ntf H
                  repeat' ((first | refine wpZ_q1 rfl rfl ?_ | refine wpZ_l1 rfl rfl rfl ?_ | refine wpZ_l2 rfl rfl rfl rfl rfl ?_ ?_ | refine wpZ_l3 rfl rfl rfl rfl rfl rfl rfl ?_ ?_ ?_ | refine wpZ_l4 rfl rfl rfl rfl rfl rfl rfl rfl rfl ?_ ?_ ?_ ?_) <;> ((first | (refine wpT_at 9 ?_; refine mCallT [] [] (ih2) H ?_; clear H; intro a w H) | (refine v_someT 1 tab_ok hN H rfl ctX ?_; clear H; intro a w H; replace H := ntf H; simp only [List.drop_succ_cons, List.drop_zero, List.drop_nil])); refine wpT_nil ?_; try dsimp only))
                  all_goals (refine wpZ_nil ?_; replace H := RelT.toRel H)
                  all_goals
                    exact key1 _ _ (H.to 4 0 ⟨Nat.le_trans hN (Nat.zero_le _), Nat.le_trans hR (Nat.zero_le _)⟩ ⟨rfl, rfl, rfl, rfl, rfl, rfl, rfl, rfl, rfl, trivial⟩ rfl rfl rfl rfl rfl)
                intro a w H
                clear hX; have hX := And.intro @hkl (And.intro @hvl (And.intro @q1 (And.intro @q2 (And.intro @q3 (And.intro @nx (And.intro @ny (@hinl)))))))
                refine mW ?_; clear H; intro a w H
                refine mCall [] [] (hin) H ?_; clear H; intro a w H; try refine wpList_nil ?_
                refine mW ?_; clear H; intro a w H
                refine wp_ret ?_; exact mEnd [] [] [.cell 8 50, .tmp 9] [_, _] hN hR H
end Go.Proofs.Ytigmpdhnhkdeiaa
/- What a reader of a sketch for keys makes of its parts (plain). -/
namespace Go.Proofs.Ytigmpdhnhkdeiaa
open Go Go.RowKit
theorem Nd.one_wf2 {key v : List UInt8} (h1 : key.length = 32) (h2 : v.length = 32) : (Nd.one key v).wf := ⟨h1, h2, List.length_replicate, List.length_replicate⟩
/-- A key and its way, as it is read. -/
structure MW where
  key : List UInt8
  sd : List (List UInt8)
  en : Nd
structure MRd where
  rest : List Br
  ws : List MW
  dg : List UInt8
  ok : Bool
def MW.aside (h : List UInt8) (w : MW) : MW := ⟨w.key, w.sd ++ [h], w.en⟩
def MW.lf (b : Br) (w : MW) : MW := ⟨w.key, w.sd, Nd.one b.key b.v⟩
def MW.by (t : Tr) (d : Nat) (w : MW) : MW := ⟨w.key, w.sd ++ (t.way w.key d).reverse, t.fin w.key d w.en⟩
def mpartN (d : Nat) (ws : List MW) : Nat := (ws.takeWhile fun w => !bitN w.key d).length
/-- What a reader for keys makes of the parts at a place. -/
def plM : Nat → List UInt8 → Nat → List MW → List Br → MRd
  | 0, _, _, ws, l => ⟨l, ws, z32, false⟩
  | _ + 1, _, _, ws, [] => ⟨[], ws, z32, false⟩
  | f + 1, top, d, ws, b :: r =>
    if b.clean = false then ⟨b :: r, ws, z32, false⟩
    else if b.k = 0 then ⟨r, ws, sum [0], true⟩
    else if b.k = 3 then ⟨r, ws, b.g, ws.isEmpty⟩
    else if b.k = 1 then ⟨r, ws.map (MW.lf b), leafH b.key b.v, !ws.isEmpty && und d b.key top⟩
    else if ws.isEmpty = true then ⟨r, ws, z32, false⟩
    else if 256 ≤ d then ⟨r, ws, z32, false⟩
    else
      let x := plM f top (d + 1) (ws.take (mpartN d ws)) r
      if x.ok = false then ⟨x.rest, x.ws ++ ws.drop (mpartN d ws), z32, false⟩
      else
        let y := plM f (flipL top d) (d + 1) (ws.drop (mpartN d ws)) x.rest
        ⟨y.rest, x.ws.map (MW.aside y.dg) ++ y.ws.map (MW.aside x.dg), innerH x.dg y.dg, y.ok⟩
theorem mpart_split {d : Nat} : ∀ {ws : List MW}, ws.Pairwise (fun a b => bitN a.key d = true → bitN b.key d = true) → ws.take (mpartN d ws) = ws.filter (fun w => !bitN w.key d) ∧ ws.drop (mpartN d ws) = ws.filter (fun w => bitN w.key d)
  | [], _ => ⟨rfl, rfl⟩
  | a :: l, h => by
    rw [List.pairwise_cons] at h
    cases hb : bitN a.key d
    · have hn : mpartN d (a :: l) = mpartN d l + 1 := by unfold mpartN; rw [List.takeWhile_cons, hb]; rfl
      obtain ⟨h1, h2⟩ := mpart_split h.2
      rw [hn, List.take_succ_cons, List.drop_succ_cons, List.filter_cons, List.filter_cons, hb, h1, h2]
      exact ⟨rfl, rfl⟩
    · have hn : mpartN d (a :: l) = 0 := by unfold mpartN; rw [List.takeWhile_cons, hb]; rfl
      have hl : ∀ w ∈ a :: l, bitN w.key d = true := fun w hw => by
        rcases List.mem_cons.1 hw with rfl | hw
        · exact hb
        · exact h.1 w hw hb
      rw [hn, List.take_zero, List.drop_zero]
      exact ⟨(List.filter_eq_nil_iff.2 fun w hw => by rw [hl w hw]; decide).symm, (List.filter_eq_self.2 hl).symm⟩
/-- Which ways a place has. -/
structure MSeg (ks : List (List UInt8)) (top : List UInt8) (d : Nat) (ws : List MW) : Prop where
  keys : ws.map (·.key) = ks.filter fun k => und d k top
  up : ws.Pairwise fun a b => ltB a.key b.key
theorem MSeg.und {ks : List (List UInt8)} {top : List UInt8} {d : Nat} {ws : List MW} (h : MSeg ks top d ws) {w : MW} (hw : w ∈ ws) : und d w.key top = true := by
  have : w.key ∈ ws.map (·.key) := List.mem_map.2 ⟨w, hw, rfl⟩
  rw [h.keys, List.mem_filter] at this; exact this.2
theorem MSeg.any {ks : List (List UInt8)} {top : List UInt8} {d : Nat} {ws : List MW} (h : MSeg ks top d ws) : (ks.any fun k => Go.Proofs.Ytigmpdhnhkdeiaa.und d k top) = !ws.isEmpty := by
  have hk := h.keys
  cases ws with
  | nil =>
    rw [List.any_eq_false.2 fun k hk2 h2 => ?_]; rfl
    have : k ∈ ks.filter fun k => Go.Proofs.Ytigmpdhnhkdeiaa.und d k top := List.mem_filter.2 ⟨hk2, h2⟩
    rw [← hk] at this; cases this
  | cons w ws =>
    have : w.key ∈ ks.filter fun k => Go.Proofs.Ytigmpdhnhkdeiaa.und d k top := by rw [← hk]; exact List.mem_cons_self
    rw [List.mem_filter] at this
    rw [List.any_eq_true.2 ⟨_, this⟩]; rfl
theorem MSeg.mono {ks : List (List UInt8)} {top : List UInt8} {d : Nat} {ws : List MW} (hd : d < 256) (h : MSeg ks top d ws) : ws.Pairwise fun a b => bitN a.key d = true → bitN b.key d = true := by
  refine h.up.imp_of_mem fun {a b} ha hb hab hbit => ?_
  obtain ⟨c, hc, h1, h2, h3⟩ := hab
  have ga := (und_iff (by omega)).1 (h.und ha)
  have gb := (und_iff (by omega)).1 (h.und hb)
  rcases Nat.lt_trichotomy c d with hcd | rfl | hcd
  · have := (ga c hcd).trans (gb c hcd).symm
    rw [h2, h3] at this; cases this
  · rw [h2] at hbit; cases hbit
  · rw [← h1 d hcd]; exact hbit
theorem MSeg.left {ks : List (List UInt8)} {top : List UInt8} {d : Nat} {ws : List MW} (hd : d < 256) (hl : Low d top) (h : MSeg ks top d ws) : MSeg ks top (d + 1) (ws.take (mpartN d ws)) := by
  refine ⟨?_, h.up.sublist (List.take_sublist _ _)⟩
  rw [(mpart_split (h.mono hd)).1]
  have : (fun k => Go.Proofs.Ytigmpdhnhkdeiaa.und (d + 1) k top) = fun k => (!bitN k d) && Go.Proofs.Ytigmpdhnhkdeiaa.und d k top := funext fun k => by rw [und_left hd hl, Bool.and_comm]
  rw [this, ← List.filter_filter, ← h.keys, List.filter_map]; rfl
theorem MSeg.right {ks : List (List UInt8)} {top : List UInt8} {d : Nat} {ws : List MW} (hd : d < 256) (hl : Low d top) (h : MSeg ks top d ws) : MSeg ks (flipL top d) (d + 1) (ws.drop (mpartN d ws)) := by
  refine ⟨?_, h.up.sublist (List.drop_sublist _ _)⟩
  rw [(mpart_split (h.mono hd)).2]
  have : (fun k => Go.Proofs.Ytigmpdhnhkdeiaa.und (d + 1) k (flipL top d)) = fun k => bitN k d && Go.Proofs.Ytigmpdhnhkdeiaa.und d k top := funext fun k => by rw [und_right hd hl, Bool.and_comm]
  rw [this, ← List.filter_filter, ← h.keys, List.filter_map]; rfl
/-- A reader for keys reads the tree. -/
theorem plM_rd {op : List UInt8 → Nat → Bool} {ks : List (List UInt8)} (hop : ∀ top d, d ≤ 256 → op top d = ks.any fun k => und d k top) : ∀ {f : Nat} {top : List UInt8} {d : Nat} {ws : List MW} {l : List Br}, f + d = 257 → Low d top → MSeg ks top d ws →
    (∀ t r, rdTr op f top d l = some (t, r) → plM f top d ws l = ⟨r, ws.map (MW.by t d), t.dg, true⟩) ∧ (rdTr op f top d l = none → (plM f top d ws l).ok = false)
  | 0, top, d, ws, l, _, _, _ => ⟨fun t r h => (by simp [rdTr] at h), fun _ => rfl⟩
  | f + 1, top, d, ws, [], _, _, _ => ⟨fun t r h => (by simp [rdTr] at h), fun _ => rfl⟩
  | f + 1, top, d, ws, b :: rest, hf, hl, hs => by
    have ho : op top d = !ws.isEmpty := (hop top d (by omega)).trans hs.any
    have hby : ∀ {t : Tr}, (∀ k, t.way k d = []) → (∀ k x, t.fin k d x = x) → ws.map (MW.by t d) = ws := fun {t} h1 h2 => by
      conv => rhs; rw [← List.map_id ws]
      refine List.map_congr_left fun w _ => ?_
      unfold MW.by; rw [h1, h2, List.reverse_nil, List.append_nil]; rfl
    unfold rdTr plM
    by_cases h1 : b.clean = false
    · rw [if_pos h1, if_pos h1]; exact ⟨fun t r h => (by cases h), fun _ => rfl⟩
    rw [if_neg h1, if_neg h1]
    by_cases h2 : b.k = 0
    · rw [if_pos h2, if_pos h2]
      refine ⟨fun t r h => ?_, fun h => (by cases h)⟩
      simp only [Option.some.injEq, Prod.mk.injEq] at h; obtain ⟨rfl, rfl⟩ := h
      rw [hby (fun _ => rfl) fun _ _ => rfl]; rfl
    rw [if_neg h2, if_neg h2]
    by_cases h3 : b.k = 3
    · rw [if_pos h3, if_pos h3, ho]
      cases he : ws.isEmpty
      · exact ⟨fun t r h => (by cases h), fun _ => rfl⟩
      · refine ⟨fun t r h => ?_, fun h => (by cases h)⟩
        simp only [Bool.not_true, Bool.false_eq_true, if_false, Option.some.injEq, Prod.mk.injEq] at h; obtain ⟨rfl, rfl⟩ := h
        rw [hby (fun _ => rfl) fun _ _ => rfl]; rfl
    rw [if_neg h3, if_neg h3, ho]
    cases he : ws.isEmpty
    · rw [if_neg (show ¬ ((!false) = false) by decide)]
      by_cases h4 : b.k = 1
      · rw [if_pos h4, if_pos h4]
        cases hu : und d b.key top
        · exact ⟨fun t r h => (by cases h), fun _ => rfl⟩
        · refine ⟨fun t r h => ?_, fun h => (by cases h)⟩
          simp only [if_true, Option.some.injEq, Prod.mk.injEq] at h; obtain ⟨rfl, rfl⟩ := h
          have : ws.map (MW.lf b) = ws.map (MW.by (.l b.key b.v) d) := List.map_congr_left fun w _ => by
            unfold MW.by MW.lf; simp only [Tr.way, Tr.fin, List.reverse_nil, List.append_nil]
          rw [this]; rfl
      rw [if_neg h4, if_neg h4, if_neg (show ¬ (false = true) by decide)]
      by_cases h5 : 256 ≤ d
      · rw [if_pos h5, if_pos h5]; exact ⟨fun t r h => (by cases h), fun _ => rfl⟩
      rw [if_neg h5, if_neg h5]
      have hd : d < 256 := by omega
      obtain ⟨s1, s2⟩ := mpart_split (hs.mono hd)
      obtain ⟨x1, x2⟩ := plM_rd hop (f := f) (l := rest) (by omega) hl.up (hs.left hd hl)
      cases e1 : rdTr op f top (d + 1) rest with
      | none =>
        have hx := x2 e1
        refine ⟨fun t r h => (by cases h), fun _ => ?_⟩
        dsimp only
        rw [if_pos hx]
      | some p =>
        obtain ⟨x, r1⟩ := p
        have hx := x1 x r1 e1
        obtain ⟨y1, y2⟩ := plM_rd hop (f := f) (l := r1) (by omega) (hl.flip hd) (hs.right hd hl)
        dsimp only
        rw [hx]
        dsimp only
        rw [if_neg (show ¬ (true = false) by decide)]
        cases e2 : rdTr op f (flipL top d) (d + 1) r1 with
        | none => exact ⟨fun t r h => (by cases h), fun _ => y2 e2⟩
        | some p =>
          obtain ⟨y, r2⟩ := p
          refine ⟨fun t r h => ?_, fun h => (by cases h)⟩
          simp only [Option.some.injEq, Prod.mk.injEq] at h; obtain ⟨rfl, rfl⟩ := h
          rw [y1 y r2 e2]
          dsimp only
          have w1 : ((ws.take (mpartN d ws)).map (MW.by x (d + 1))).map (MW.aside y.dg) = (ws.take (mpartN d ws)).map (MW.by (.n x y) d) := by
            rw [List.map_map]
            refine List.map_congr_left fun w hw => ?_
            rw [s1, List.mem_filter] at hw
            have hb : bitN w.key d = false := by simpa using hw.2
            show MW.aside y.dg (MW.by x (d + 1) w) = _
            unfold MW.aside MW.by
            simp only [Tr.way, Tr.fin, hb, Bool.false_eq_true, if_false, List.reverse_cons, List.append_assoc]
          have w2 : ((ws.drop (mpartN d ws)).map (MW.by y (d + 1))).map (MW.aside x.dg) = (ws.drop (mpartN d ws)).map (MW.by (.n x y) d) := by
            rw [List.map_map]
            refine List.map_congr_left fun w hw => ?_
            rw [s2, List.mem_filter] at hw
            have hb : bitN w.key d = true := hw.2
            show MW.aside x.dg (MW.by y (d + 1) w) = _
            unfold MW.aside MW.by
            simp only [Tr.way, Tr.fin, hb, if_true, List.reverse_cons, List.append_assoc]
          rw [w1, w2, ← List.map_append, List.take_append_drop]; rfl
    · rw [if_pos (show (!true) = false by decide)]
      refine ⟨fun t r h => (by cases h), fun _ => ?_⟩
      by_cases h4 : b.k = 1
      · rw [if_pos h4]; rfl
      · rw [if_neg h4, if_pos rfl]
theorem aside_key (h : List UInt8) : (fun w : MW => w.key) ∘ MW.aside h = fun w => w.key := rfl
/-- It keeps the keys; the sides stay few. -/
theorem plM_keys : ∀ {f : Nat} {top : List UInt8} {d : Nat} {ws : List MW} {l : List Br}, (plM f top d ws l).ws.map (·.key) = ws.map (·.key)
  | 0, top, d, ws, l => rfl
  | f + 1, top, d, ws, [] => rfl
  | f + 1, top, d, ws, b :: rest => by
    unfold plM
    dsimp only
    repeat' split
    all_goals first
      | rfl
      | (rw [List.map_map]; rfl)
      | (rw [List.map_append, plM_keys, ← List.map_append, List.take_append_drop])
      | (rw [List.map_append, List.map_map, List.map_map, aside_key, aside_key, plM_keys, plM_keys, ← List.map_append, List.take_append_drop])
theorem plM_len {f : Nat} {top : List UInt8} {d : Nat} {ws : List MW} {l : List Br} : (plM f top d ws l).ws.length = ws.length := by
  have := congrArg List.length (plM_keys (f := f) (top := top) (d := d) (ws := ws) (l := l))
  rwa [List.length_map, List.length_map] at this
theorem plM_few {m : Nat} : ∀ {f : Nat} {top : List UInt8} {d : Nat} {ws : List MW} {l : List Br}, (∀ w ∈ ws, w.sd.length ≤ m) → ∀ w ∈ (plM f top d ws l).ws, w.sd.length ≤ m + f
  | 0, top, d, ws, l, h => h
  | f + 1, top, d, ws, [], h => fun w hw => Nat.le_trans (h w hw) (Nat.le_add_right _ _)
  | f + 1, top, d, ws, b :: rest, h => by
    have hle : ∀ w ∈ ws, w.sd.length ≤ m + (f + 1) := fun w hw => Nat.le_trans (h w hw) (Nat.le_add_right _ _)
    unfold plM
    dsimp only
    repeat' split
    all_goals first
      | exact hle
      | (intro w hw
         obtain ⟨z, hz, rfl⟩ := List.mem_map.1 hw
         exact hle z hz)
      | (intro w hw
         rcases List.mem_append.1 hw with hw | hw
         · exact Nat.le_trans (plM_few (fun w hw => h w (List.mem_of_mem_take hw)) w hw) (by omega)
         · exact hle w (List.mem_of_mem_drop hw))
      | (intro w hw
         rcases List.mem_append.1 hw with hw | hw
         · obtain ⟨z, hz, rfl⟩ := List.mem_map.1 hw
           have := plM_few (fun w hw => h w (List.mem_of_mem_take hw)) z hz
           show (z.sd ++ [_]).length ≤ _
           rw [List.length_append, List.length_singleton]; omega
         · obtain ⟨z, hz, rfl⟩ := List.mem_map.1 hw
           have := plM_few (fun w hw => h w (List.mem_of_mem_drop hw)) z hz
           show (z.sd ++ [_]).length ≤ _
           rw [List.length_append, List.length_singleton]; omega)
structure MW.wf (w : MW) : Prop where
  key : w.key.length = 32
  sd : ∀ g ∈ w.sd, g.length = 32
  en : w.en.wf
structure MRd.wf (x : MRd) (l : List Br) : Prop where
  rest : ∀ b ∈ x.rest, b ∈ l
  len : x.rest.length ≤ l.length
  ws : ∀ w ∈ x.ws, w.wf
  dg : x.dg.length = 32
theorem plM_wf : ∀ {f : Nat} {top : List UInt8} {d : Nat} {ws : List MW} {l : List Br}, (∀ b ∈ l, b.wf) → (∀ w ∈ ws, w.wf) → (plM f top d ws l).wf l
  | 0, top, d, ws, l, _, h => ⟨fun b hb => hb, Nat.le_refl _, h, z32_len⟩
  | f + 1, top, d, ws, [], _, h => ⟨fun b hb => hb, Nat.le_refl _, h, z32_len⟩
  | f + 1, top, d, ws, b :: rest, hb, h => by
    have hb2 : ∀ b ∈ rest, b.wf := fun b h => hb b (List.mem_cons_of_mem _ h)
    have hb1 := hb b List.mem_cons_self
    have hx := plM_wf (f := f) (top := top) (d := d + 1) hb2 fun w hw => h w (List.mem_of_mem_take (i := mpartN d ws) hw)
    have hy := plM_wf (f := f) (top := flipL top d) (d := d + 1) (fun b hb => hb2 b (hx.rest b hb)) fun w hw => h w (List.mem_of_mem_drop (i := mpartN d ws) hw)
    unfold plM
    dsimp only
    repeat' split
    · exact ⟨fun b hb => hb, Nat.le_refl _, h, z32_len⟩
    · exact ⟨fun b hb => List.mem_cons_of_mem _ hb, Nat.le_succ _, h, sum_length _⟩
    · exact ⟨fun b hb => List.mem_cons_of_mem _ hb, Nat.le_succ _, h, hb1.g⟩
    · refine ⟨fun b hb => List.mem_cons_of_mem _ hb, Nat.le_succ _, fun w hw => ?_, leafH_len _ _⟩
      obtain ⟨z, hz, rfl⟩ := List.mem_map.1 hw
      exact ⟨(h z hz).key, (h z hz).sd, Nd.one_wf2 hb1.key hb1.v⟩
    · exact ⟨fun b hb => List.mem_cons_of_mem _ hb, Nat.le_succ _, h, z32_len⟩
    · exact ⟨fun b hb => List.mem_cons_of_mem _ hb, Nat.le_succ _, h, z32_len⟩
    · refine ⟨fun b hb => List.mem_cons_of_mem _ (hx.rest b hb), Nat.le_succ_of_le hx.len, fun w hw => ?_, z32_len⟩
      rcases List.mem_append.1 hw with hw | hw
      · exact hx.ws w hw
      · exact h w (List.mem_of_mem_drop hw)
    · refine ⟨fun b hb => List.mem_cons_of_mem _ (hx.rest b (hy.rest b hb)), Nat.le_succ_of_le (Nat.le_trans hy.len hx.len), fun w hw => ?_, innerH_len _ _⟩
      have hsd : ∀ {z : MW} {g : List UInt8}, z.wf → g.length = 32 → (z.aside g).wf := fun {z g} hz hg => ⟨hz.key, fun u hu => by
        rcases List.mem_append.1 hu with hu | hu
        · exact hz.sd u hu
        · rw [List.mem_singleton.1 hu]; exact hg, hz.en⟩
      rcases List.mem_append.1 hw with hw | hw
      · obtain ⟨z, hz, rfl⟩ := List.mem_map.1 hw
        exact hsd (hx.ws z hz) hy.dg
      · obtain ⟨z, hz, rfl⟩ := List.mem_map.1 hw
        exact hsd (hy.ws z hz) hx.dg
end Go.Proofs.Ytigmpdhnhkdeiaa
/- What a reader of a sketch for keys calls: multi.parted. -/
namespace Go.Proofs.Ytigmpdhnhkdeiaa
open Go Go.RowKit
theorem mpart_eq (d : Nat) (ws : List MW) : mpartN d ws = partK d (ws.map (·.key)) := by
  unfold mpartN partK
  rw [List.takeWhile_map, List.length_map]; rfl
theorem partK_drop (d : Nat) (ks : List (List UInt8)) (k : Nat) (hk : k < ks.length) : partK d (ks.drop k) = if bitN ks[k] d then 0 else partK d (ks.drop (k + 1)) + 1 := by
  rw [List.drop_eq_getElem_cons hk]
  unfold partK
  rw [List.takeWhile_cons]
  cases bitN ks[k] d <;> rfl
attribute [local irreducible] wpT
set_option maxRecDepth 20000 in
theorem mparted_v (ks : List (List UInt8)) (hk32 : ∀ k ∈ ks, k.length = 32) (hl : ks.length ≤ 65536) (d : Nat) (hd : d < 256) : VC Try.prog 228 [.sl (.ba 32) (bas ks) none, .v (.int .i64 (d : Int))] [] (.v (.int .i64 ((partK d ks : Nat) : Int))) := by
  have hbl := bas_len ks
  have h0 : 0 + partK d (ks.drop 0) = partK d ks := by rw [List.drop_zero, Nat.zero_add]
  generalize partK d ks = P at *
  refine mE Try.func228 ?_; intro N w0 a w hN hR H
  have hX := @hbl
  refine mW ?_; clear H; intro a w H
  refine v_loop (fun k : Nat => ⟨[(5, none, .v (.int .i64 (k : Int))), (4, none, .v (.int .i64 0)), (0, none, .sl (.ba 32) (bas ks) none), (1, none, .v (.int .i64 (d : Int)))], [], [], []⟩) (fun k => k ≤ ks.length ∧ k + partK d (ks.drop k) = P) (fun k => ks.length - k) 0 ⟨Nat.zero_le _, h0⟩ (H.to 0 0 ⟨hN, hR⟩ ⟨rfl, rfl, rfl, rfl, trivial⟩ rfl rfl rfl rfl rfl) ?_
  clear H
  intro k a w hk H
  obtain ⟨hk1, hk2⟩ := hk
  rcases Nat.lt_or_ge k ks.length with hlt | hge
  · have e0 : decide ((k : Int) < (ks.length : Int)) = true := decide_eq_true (by omega)
    have hg := bas_get ks k hlt
    have hq := hk32 _ (List.getElem_mem hlt)
    have hp := partK_drop d ks k hlt
    have hbv := bit_v ks[k] hq (d : Int)
    have hpb : pbit ks[k] (d : Int) = if bitN ks[k] d then 1 else 0 := by unfold pbit; rw [if_pos (by omega), Int.toNat_natCast]
    generalize ks[k] = q at *
    generalize pbit q (d : Int) = pb at *
    clear hX; have hX := And.intro @hbl (And.intro @hg (And.intro @e0 (@hq)))
    refine mW ?_; clear H; intro a w H
    refine mCallG [] [] (hbv) H ?_; clear H; intro a w H; try refine wpList_nil ?_
    refine mW ?_; clear H; intro a w H
    refine mC H (fun hb => ?_) (fun hb => ?_)
    · have hb0 : bitN q d = false := by
        cases hbq : bitN q d
        · rfl
        · rw [hbq] at hpb; simp [hpb] at hb
      clear hb
      rw [hb0, if_neg (by decide)] at hp
      refine mW ?_; clear H; intro a w H
      rw [show (k : Int) + 1 = ((k + 1 : Nat) : Int) by omega] at H
      exact ⟨k + 1, ⟨hlt, by omega⟩, by omega, H.to 0 0 ⟨hN, hR⟩ ⟨rfl, rfl, rfl, rfl, trivial⟩ rfl rfl rfl rfl rfl⟩
    · have hb1 : bitN q d = true := by
        cases hbq : bitN q d
        · rw [hbq] at hpb; simp [hpb] at hb
        · rfl
      clear hb
      rw [hb1, if_pos rfl] at hp
      have e : k = P := by omega
      subst e
      refine mW ?_; clear H; intro a w H
      refine wp_ret ?_; exact mEnd [] [] [.tmp 4] [_] hN hR H
  · have e0 : decide ((k : Int) < (ks.length : Int)) = false := decide_eq_false (by omega)
    have e : k = P := by rw [List.drop_eq_nil_of_le hge] at hk2; exact hk2
    subst e
    clear hX; have hX := And.intro @hbl (@e0)
    refine mW ?_; clear H; intro a w H
    refine mSk (.v (.int .i64 0)) H ?_; clear H; intro a w H
    refine mW ?_; clear H; intro a w H
    refine mC H (fun hb => ?_) (fun hb => ?_)
    · exact absurd hb (by decide)
    · refine mW ?_; clear H; intro a w H
      refine wp_ret ?_; exact mEnd [] [] [.tmp 4] [_] hN hR H
end Go.Proofs.Ytigmpdhnhkdeiaa
/- The end of ways, in a reader of a sketch for keys: multi.end. -/
namespace Go.Proofs.Ytigmpdhnhkdeiaa
open Go Go.RowKit
abbrev mrdT : Ty := ti288.ty
abbrev pfT0 : Ty := ti68.ty
def wyF (n lo k : Nat) (c : Bool) (m : Nd) (vs : Nat → Value) (ns : Nat → Nd) : List AV := (List.range n).map fun t => .st [.v (vs t), (if c = true ∧ lo ≤ t ∧ t < k then m else ns t).av]
theorem wyF_len (n lo k : Nat) (c : Bool) (m : Nd) (vs : Nat → Value) (ns : Nat → Nd) : (wyF n lo k c m vs ns).length = n := by simp [wyF]
theorem wyF_get (n lo k : Nat) (c : Bool) (m : Nd) (vs : Nat → Value) (ns : Nat → Nd) (h : k < n) : (wyF n lo k c m vs ns).getD k .any = .st [.v (vs k), (ns k).av] := by
  simp only [wyF, List.getD_eq_getElem?_getD, List.getElem?_map, List.getElem?_range h, Option.map_some, Option.getD_some]
  rw [if_neg (by omega)]
theorem wyF_step (n lo k : Nat) (m : Nd) (vs : Nat → Value) (ns : Nat → Nd) (h : k < n) (hl : lo ≤ k) : (wyF n lo k true m vs ns).set k (.st [.v (vs k), m.av]) = wyF n lo (k + 1) true m vs ns := by
  apply List.ext_getElem (by simp [wyF])
  intro i h1 h2
  rw [List.getElem_set]
  split
  · rename_i e; subst e
    simp only [wyF, List.getElem_map, List.getElem_range]
    rw [if_pos ⟨trivial, hl, by omega⟩]
  · rename_i e
    simp only [wyF, List.getElem_map, List.getElem_range]
    by_cases hh : lo ≤ i ∧ i < k
    · rw [if_pos ⟨trivial, hh⟩, if_pos ⟨trivial, hh.1, by omega⟩]
    · rw [if_neg (fun q => hh q.2), if_neg (fun q => hh ⟨q.2.1, by omega⟩)]
theorem wyF_no (n lo k j : Nat) (m : Nd) (vs : Nat → Value) (ns : Nat → Nd) : wyF n lo k false m vs ns = wyF n lo j false m vs ns := by
  unfold wyF
  refine List.map_congr_left fun t _ => ?_
  rw [if_neg (fun h => by cases h.1), if_neg (fun h => by cases h.1)]
attribute [local irreducible] wpT
set_option maxRecDepth 20000 in
set_option maxHeartbeats 4000000 in
theorem mend_v (rest : List Br) (e : List UInt8) (he : e.length = 32) (n : Nat) (hn : n ≤ 64) (b : Br) (hw : b.wf) (lo hi : Nat) (hlo : lo ≤ hi) (hhi : hi ≤ n) (vs : Nat → Value) (ns : Nat → Nd) (hns : ∀ t, (ns t).wf) :
    VX Try.prog 227 [(mrdT, .st [.sl brT (brs rest) none, .ba e, .vw 1 0 n]), (.vc 68 pfT0, .vc 0 (wyF n lo lo (decide (b.k = 1)) (Nd.one b.key b.v) vs ns))] [] [] [.ptr 0 [], b.av, .v (.int .i64 (lo : Int)), .v (.int .i64 (hi : Int))]
      [(mrdT, .st [.sl brT (brs rest) none, .ba e, .vw 1 0 n]), (.vc 68 pfT0, .vc 0 (wyF n lo hi (decide (b.k = 1)) (Nd.one b.key b.v) vs ns))] [] [] (.tup []) := by
  obtain ⟨q1, q2, q3⟩ := id hw
  obtain ⟨bk, bkey, bv, bg⟩ := b
  dsimp only at q1 q2 q3 ⊢
  have k1 : decide ((bk.toNat : Int) = 1) = decide (bk = 1) := kz bk 1 (by decide)
  have hz2 : (List.replicate 32 (0 : UInt8)).length = 32 := List.length_replicate
  have hl0 := wyF_len n lo lo (decide (bk = 1)) (Nd.one bkey bv) vs ns
  refine mE Try.func227 ?_; intro N w0 a w hN hR H
  simp only [Br.av] at H
  have hX := And.intro @he (And.intro @q1 (And.intro @q2 (And.intro @q3 (@hl0))))
  refine mW ?_; clear H; intro a w H
  replace H := v_ref H 5 2 (Nat.le_trans hN (Nat.le_of_ble_eq_true rfl)) rfl rfl rfl
  simp only [nilT, strip, List.map_cons, List.map_nil, reduceIte, Nat.reduceEqDiff] at H
  refine v_loop (fun k : Nat => ⟨[(8, none, .v (.int .i64 (k : Int))), (5, none, .ref brT (.st [.v (B8 bk), .ba bkey, .ba bv, .ba bg])), (3, none, .v (.int .i64 (hi : Int))), (0, none, .ptr 0 [])], [(mrdT, .st [.sl brT (brs rest) none, .ba e, .vw 1 0 n]), (.vc 68 pfT0, .vc 0 (wyF n lo k (decide (bk = 1)) (Nd.one bkey bv) vs ns)), (brT, .st [.v (B8 bk), .ba bkey, .ba bv, .ba bg])], [2], []⟩) (fun k => lo ≤ k ∧ k ≤ hi) (fun k => hi - k) lo ⟨Nat.le_refl _, hlo⟩
    (H.to 3 0 ⟨Nat.le_trans hN (Nat.le_of_ble_eq_true rfl), hR⟩ ⟨rfl, rfl, rfl, rfl, trivial⟩ rfl rfl rfl rfl rfl) ?_
  clear H
  intro k a w hk H
  obtain ⟨hk1, hk2⟩ := hk
  have hlk := wyF_len n lo k (decide (bk = 1)) (Nd.one bkey bv) vs ns
  clear hX; have hX := And.intro @he (And.intro @q1 (And.intro @q2 (And.intro @q3 (@hlk))))
  refine mW ?_; clear H; intro a w H
  refine mC H (fun hb => ?_) (fun hb => ?_)
  · have hlt : k < hi := by rw [decide_eq_true_eq] at hb; omega
    clear hb
    have hg := wyF_get n lo k (decide (bk = 1)) (Nd.one bkey bv) vs ns (by omega)
    have hst := wyF_step n lo k (Nd.one bkey bv) vs ns (by omega) hk1
    obtain ⟨n1, n2, n3, n4⟩ := hns k
    refine mW ?_; clear H; intro a w H
    simp only [k1] at H
    refine mC H (fun hb => ?_) (fun hb => ?_)
    · have e1 : bk = 1 := of_decide_eq_true hb
      clear hb
      rw [decide_eq_true e1] at *
      simp only [Nd.av] at hg
      replace hst : (wyF n lo k true (Nd.one bkey bv) vs ns).set k (.st [.v (vs k), .st [.v (.int .u8 1), .ba bkey, .ba bv, .ba (List.replicate 32 0), .ba (List.replicate 32 0)]]) = wyF n lo (k + 1) true (Nd.one bkey bv) vs ns := hst
      clear hX; have hX := And.intro @he (And.intro @q1 (And.intro @q2 (And.intro @q3 (And.intro @hlk (And.intro @hg (And.intro @hz2 (And.intro @n1 (And.intro @n2 (And.intro @n3 (@n4))))))))))
      refine mS ?_; refine mD 0 [12] [] H ?_; clear H; intro gS H
      refine mT ?_; clear H; intro a w H
      refine v_drawNil H ?_; clear H; intro H
      refine mW ?_; clear H; intro a w H
      rw [hst, show (k : Int) + 1 = ((k + 1 : Nat) : Int) by omega] at H
      exact ⟨k + 1, ⟨by omega, hlt⟩, by omega, H.to 3 0 ⟨Nat.le_trans hN (Nat.le_of_ble_eq_true rfl), hR⟩ ⟨rfl, rfl, rfl, rfl, trivial⟩ rfl rfl rfl rfl rfl⟩
    · have e1 : ¬ bk = 1 := of_decide_eq_false hb
      clear hb
      rw [decide_eq_false e1] at *
      clear hX; have hX := And.intro @he (And.intro @q1 (And.intro @q2 (And.intro @q3 (And.intro @hlk (And.intro @hg (And.intro @hz2 (And.intro @n1 (And.intro @n2 (And.intro @n3 (@n4))))))))))
      refine mW ?_; clear H; intro a w H
      rw [wyF_no n lo k (k + 1), show (k : Int) + 1 = ((k + 1 : Nat) : Int) by omega] at H
      exact ⟨k + 1, ⟨by omega, hlt⟩, by omega, H.to 3 0 ⟨Nat.le_trans hN (Nat.le_of_ble_eq_true rfl), hR⟩ ⟨rfl, rfl, rfl, rfl, trivial⟩ rfl rfl rfl rfl rfl⟩
  · have hge : k = hi := by rw [decide_eq_false_iff_not] at hb; omega
    clear hb
    subst hge
    refine mW ?_; clear H; intro a w H
    exact mEnd [0, 1] [] [] [] hN hR H
end Go.Proofs.Ytigmpdhnhkdeiaa
/- slices.Reverse of slices, in memory that may be written. -/
namespace Go.Proofs.Ytigmpdhnhkdeiaa
open Go Go.RowKit
def vas (us : List Value) : List AV := us.map .v
theorem vas_len (us : List Value) : (vas us).length = us.length := by simp [vas]
end Go.Proofs.Ytigmpdhnhkdeiaa
/- A list of slices written out into what grows; do lists share memory that are on their own? -/
namespace Go.Proofs.Ytigmpdhnhkdeiaa
open Go Go.RowKit
section
variable {P : Program} {τ : Tab} {w0 w w1 w2 : World} {N N1 N2 : Gh} {g g1 gS : Gh} {st st' sq sq' : St} {nt : Nat} {a : Act} {lo : Nat} {X Y : List XR}
/-- Bytes, with their room. -/
def XW (x : XR) : Prop := ∃ l sp : List UInt8, x.cells = (l ++ sp).map B8 ∧ x.n = l.length ∧ x.c = l.length + sp.length
end
end Go.Proofs.Ytigmpdhnhkdeiaa
/- Slices on their own, in regions that draw their order. -/
namespace Go.Proofs.Ytigmpdhnhkdeiaa
open Go Go.RowKit
theorem nfX {P : Program} {w0 w : World} {N : Gh} {nt lo : Nat} {st s2 : St} {X : List XR} {a : Act} (H : RelX lo P w0 N nt st X a w) (h : st = s2 := by exact nfs) : RelX lo P w0 N nt s2 X a w := h ▸ H
theorem v_seeXT {P : Program} {w0 w : World} {N gS : Gh} {nt lo : Nat} {sq st : St} {X : List XR} {a : Act} (hZ : Xs lo N w0 X) (H : RelT P w0 N nt gS sq st a w) (d : Nat) {x : AV} (y : AV) (hs : SeeX X x y) (hd : find d st.t = some (none, x)) : RelT P w0 N nt gS sq ⟨nilT d y st.t, st.bx, st.fz, st.rw⟩ a w := by
  obtain ⟨hM, hrw, hFq, hBq, g, HI, hF, hle, hbs⟩ := H
  refine ⟨hM, hrw, hFq, hBq, g, HI, ⟨hF.sz, hF.df, fun p hp hg => ?_, fun p hp hg => by rcases nilT_mem hp with h | h; (subst h; exact absurd trivial hg); exact hF.u p h hg⟩, hle, hbs⟩
  rcases nilT_mem hp with h | h
  · subst h; exact (hF.t _ (find_mem hd) trivial).seeX hZ hs fun b o u hu => HI.fr.le.ro b o u hu
  · exact hF.t p h hg
theorem FrX.refl (lo : Nat) (w : World) (N : Gh) : FrX lo w N N w := .of ⟨Kept.refl _ _, fun i x hx hxo => .inr ⟨x, hx, hxo, rfl⟩, fun i r k hr hrk => .inr ⟨r, hr, hrk⟩, fun _ _ _ _ => rfl, Gh.le.refl _⟩ lo
theorem Xs.nil (lo : Nat) (N : Gh) (w : World) : Xs lo N w [] := ⟨fun x hx => (by cases hx), List.Pairwise.nil⟩
/-- A slice on its own that holds bytes. -/
def XB (x : XR) (l : List UInt8) : Prop := x.n = l.length ∧ x.tid = 5 ∧ x.k = l.length ∧ ∃ m, x.c = l.length + m ∧ x.cells = l.map B8 ++ (List.replicate m (zeroOf Try.prog 5)).flatten
def XL (X : List XR) (ls : List (List UInt8)) : Prop := X.length = ls.length ∧ ∀ i (h1 : i < X.length) (h2 : i < ls.length), XB X[i] ls[i]
theorem XL.snoc {X : List XR} {ls : List (List UInt8)} {x : XR} {l : List UInt8} (h : XL X ls) (hx : XB x l) : XL (X ++ [x]) (ls ++ [l]) := by
  refine ⟨by simp [h.1], fun i h1 h2 => ?_⟩
  rw [List.length_append, List.length_singleton] at h1 h2
  by_cases hi : i < X.length
  · rw [List.getElem_append_left hi, List.getElem_append_left (by rw [← h.1]; exact hi)]; exact h.2 i hi (by rw [← h.1]; exact hi)
  · have e1 : i = X.length := by omega
    have e2 : i = ls.length := by rw [← h.1]; exact e1
    rw [List.getElem_append_right (by omega), List.getElem_append_right (by omega)]
    simp only [List.getElem_singleton]
    exact hx
theorem XL.last {X : List XR} {ls : List (List UInt8)} {x : XR} {l : List UInt8} (h : XL (X ++ [x]) (ls ++ [l])) : XL X ls ∧ XB x l := by
  have hl : X.length = ls.length := by have := h.1; simpa using this
  refine ⟨⟨hl, fun i h1 h2 => ?_⟩, ?_⟩
  · have := h.2 i (by simp; omega) (by simp; omega)
    rwa [List.getElem_append_left h1, List.getElem_append_left h2] at this
  · have := h.2 X.length (by simp) (by simp [hl])
    rw [List.getElem_append_right (Nat.le_refl _), List.getElem_append_right (by omega)] at this
    simpa using this
theorem XL.nil : XL [] [] := ⟨rfl, fun i h => (by cases h)⟩
theorem XB.w {x : XR} {l : List UInt8} (h : XB x l) : XW x := by
  obtain ⟨h1, _, _, m, h3, h4⟩ := h
  refine ⟨l, List.replicate m 0, ?_, h1, by rw [List.length_replicate]; exact h3⟩
  rw [h4, zero_u8, flat_z, List.map_append]
theorem VE.mono {P : Program} {f : FuncId} {args : List AV} {R R2 : List XR → List (Ty × AV) → List (TypeId × Nat) → AV → Prop} (h : VE P f args R) (hR : ∀ X bx rw res, R X bx rw res → R2 X bx rw res) : VE P f args R2 :=
  ⟨h.1, fun w N vs a b c => (h.2 w N vs a b c).mono fun e w' hp => by
    obtain ⟨X, bx', rw', res, g, v, h1, h2⟩ := hp
    exact ⟨X, bx', rw', res, g, v, hR _ _ _ _ h1, h2⟩⟩
theorem RelX.rel {P : Program} {w0 w : World} {N : Gh} {nt : Nat} {st : St} {X : List XR} {a : Act} (H : RelX w0.heap.size P w0 N nt st X a w) : Rel P w0 N nt st a w := by
  obtain ⟨g, HI, hB, hF, _⟩ := H
  exact ⟨g, ⟨HI.mem, hB.fr (Nat.le_refl _), HI.br, HI.fz, HI.wr, HI.wz⟩, hF⟩
section
variable {P : Program} {τ : Tab} {w0 w w1 w2 : World} {N N1 N2 : Gh} {g g1 gS : Gh} {st st' sq sq' : St} {nt : Nat} {a : Act} {lo : Nat} {X Y : List XR}
def RelXT (lo : Nat) (P : Program) (w0 : World) (N : Gh) (nt : Nat) (gS : Gh) (sq st : St) (X : List XR) (a : Act) (w : World) : Prop :=
  Mem gS w ∧ gS.rw = [] ∧ FR gS nt sq a ∧ BR gS sq.bx ∧ ∃ g, Inv P w g g st.bx st.fz st.rw w ∧ FrX lo w0 N g w ∧ FR g nt st a ∧ gS.le g ∧ Bs gS g ∧ Xs lo g w X
theorem RelXT.open_ (H : RelXT lo P w0 N nt gS sq st X a w) : ∃ N1, FrX lo w0 N N1 w ∧ Xs lo N1 w X ∧ RelT P w N1 nt gS sq st a w ∧ N1.bx.length = st.bx.length ∧ N1.rw.length = st.rw.length := by
  obtain ⟨hM, hrw, hFq, hBq, g, HI, hB, hF, hle, hbs, hX⟩ := H
  exact ⟨g, hB, hX, ⟨hM, hrw, hFq, hBq, g, HI, hF, hle, hbs⟩, HI.br.len, by rw [← HI.wr, List.length_map]⟩
theorem RelXT.close (hB : FrX lo w0 N N1 w1) (hX : Xs lo N1 w1 X) (H : RelT P w1 N1 nt gS sq st a w) : RelXT lo P w0 N nt gS sq st X a w := by
  obtain ⟨hM, hrw, hFq, hBq, g, HI, hF, hle, hbs⟩ := H
  exact ⟨hM, hrw, hFq, hBq, g, HI.self, hB.trans (.of HI.fr lo), hF, hle, hbs, hX.step HI⟩
theorem cut_keep {i k : Nat} (hrw : gS.rw = []) (hle : gS.le g) (hbs : Bs gS g) (hn : gS.bx.length ≤ i) : gS.le (g.cut i k) ∧ Bs gS (g.cut i k) := by
  have get : ∀ {j : Nat} {x y : Bx}, gS.bx[j]? = some x → g.bx[j]? = some y → (g.cut i k).bx[j]? = some y := fun {j x y} h1 h2 => by
    show (g.bx.take i)[j]? = _
    rw [List.getElem?_take, if_pos (Nat.lt_of_lt_of_le (List.getElem?_eq_some_iff.1 h1).1 hn)]; exact h2
  refine ⟨⟨hle.ro, fun j x hx => ?_, fun j r hr => by rw [hrw] at hr; simp at hr⟩, fun j x hx => ?_⟩
  · obtain ⟨y, h1, h2⟩ := hle.bx j x hx
    exact ⟨y, get hx h1, h2⟩
  · obtain ⟨y, h1, h2⟩ := hbs j x hx
    exact ⟨y, get hx h1, h2⟩
/-- Bytes handed out with memory of their own. -/
theorem VE.ofC {f : FuncId} {args : List AV} {full l' : List UInt8} {n m : Nat} {fz : List Nat} (h : VX P f [] [] [] args [(.ba m, .ba l')] fz [] (.bc full n (some 0))) :
    VE P f args (fun X bx rw res => bx = [] ∧ rw = [] ∧ ∃ x : XR, X = [x] ∧ res = .v x.v ∧ x.n = n ∧ x.c = full.length ∧ x.k = full.length ∧ x.cells = full.map B8) := by
  refine ⟨h.1, fun w N vs hI hl hv => (h.2 w N vs hI hl hv).mono fun e w' hp => ?_⟩
  obtain ⟨g, v, rfl, HI, hr⟩ := hp
  have hNb : N.bx.length = 0 := hI.br.len
  have hNr : N.rw.length = 0 := by have := hI.wr; rw [List.map_eq_nil_iff] at this; rw [this]; rfl
  have hF : FR g 1 ⟨[(0, none, .bc full n (some 0))], [(.ba m, .ba l')], fz, []⟩ ⟨#[v], []⟩ :=
    ⟨rfl, rfl, fun p hp _ => by obtain rfl := List.mem_singleton.1 hp; exact hr, fun p hp hg => by obtain rfl := List.mem_singleton.1 hp; exact absurd trivial hg⟩
  obtain ⟨x, q, q1, q2, q3, q4⟩ := v_pubC0 (st := ⟨[(0, none, .bc full n (some 0))], [(.ba m, .ba l')], fz, []⟩) (X := []) HI.self (FrX.of HI.fr w.heap.size) hF (Xs.nil _ _ _) (Nat.le_refl _) [] 0 0 rfl (Nat.le_of_eq hNb) rfl rfl rfl rfl
  refine ⟨[x], [], [], .v x.v, _, v, ⟨rfl, rfl, x, rfl, rfl, q⟩, rfl, ⟨q1.mem, q2.fr (Nat.le_refl _), q1.br, fun i y hy => ?_, q1.wr, q1.wz⟩, ?_, by simpa using q4⟩
  · have := q1.br.len
    have hi := (List.getElem?_eq_some_iff.1 hy).1
    rw [this] at hi; simp at hi
  · exact q3.t _ List.mem_cons_self trivial
/-- Slots, boxes and rows are forgotten. -/
theorem RelX.to (H : RelX w0.heap.size P w0 N nt st X a w) (nb nr : Nat) (hM : N.bx.length ≤ nb ∧ N.rw.length ≤ nr) {t2 : List (Nat × Gd × AV)} {bx2 : List (Ty × AV)} {rw2 : List (TypeId × Nat)} {fz2 : List Nat} (hs : SubT t2 st.t) (hb : st.bx.take nb = bx2) (hr : st.rw.take nr = rw2) (hf : st.fz = fz2) (h1 : t2.all (fun p => low nb nr 4 p.2.2) = true) (h2 : bx2.all (fun x => low nb nr 4 x.2) = true) :
    RelX w0.heap.size P w0 N nt ⟨t2, bx2, fz2, rw2⟩ X a w := by
  subst hb hr hf
  obtain ⟨g, HI, hB, hF, hX⟩ := H
  have HI0 : Inv P w0 N g st.bx st.fz st.rw w := ⟨HI.mem, hB.fr (Nat.le_refl _), HI.br, HI.fz, HI.wr, HI.wz⟩
  have I1 := HI0.cut hM.1 hM.2 h2
  refine ⟨g.cut nb nr, I1.self, .of I1.fr _, ⟨hF.sz, hF.df, fun p hp hg => (hF.t p (hs.mem hp) hg).low_ (d := 3) (List.all_eq_true.1 h1 p hp), fun p hp hg => hF.u p (hs.mem hp) hg⟩, ⟨fun x hx => ?_, hX.un⟩⟩
  have h := hX.ok x hx
  refine ⟨h.le, h.nil, fun b hb => ⟨fun hh => (h.own b hb).1 ?_, (h.own b hb).2⟩⟩
  rcases hh with ⟨y, hy, h⟩ | ⟨s, hs, h⟩
  · exact .inl ⟨y, List.mem_of_mem_take hy, h⟩
  · exact .inr ⟨s, List.mem_of_mem_take hs, h⟩
end
end Go.Proofs.Ytigmpdhnhkdeiaa
