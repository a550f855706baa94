/- The slab of a store's nodes: Get, Set, Take, New. -/
import Derived.Test.YtigmpdhnhkdeiaaNode
import Derived.Test.YtigmpdhnhkdeiaaLess
import Derived.Lib.BitFns
import Derived.BigQuiet
import Derived.BigRegion
import Derived.Laws.BitsAllLaws
import Derived.Lib.Bytealg
import Derived.Laws.Externs
import Derived.Test.YtigmpdhnhkdeiaaA1
import Derived.Deep.OwnRows
import Derived.Deep.Draws
import Derived.Deep.LoopGhost
import Derived.Shelf.SlSortCmp.WholeK
import Derived.DeepKeys3
import Derived.Shelf.SlSortCmp.QuietGrown
import Derived.Shelf.SlSortCmp.NoneTotal
import Derived.Test.YtigmpdhnhkdeiaaA2
import Derived.Lib.SliceRun
set_option linter.unusedSimpArgs false
set_option linter.unusedVariables false
namespace Go.Proofs.Ytigmpdhnhkdeiaa
open Go Go.RowKit
set_option maxRecDepth 20000 in
theorem slbGet_v (s : Slb) (hs : s.wf) (h : Int) :
    VX Try.prog 211 s.bx [] [] [.ptr 0 [], .v (.int .i64 h)] s.bx [] [] (.tup [(s.get_ h).av, errv (if s.ok_ h then 0 else 7)]) := by
  have hn := slbNone_v s.γ s.δ s.sl.length s.m s.room s.used (s.sl.map slA) (s.fs.map inA) hs.room.1
  have hml : (s.sl.map slA).length = s.sl.length := List.length_map ..
  have hz2 : (List.replicate 32 (0 : UInt8)).length = 32 := List.length_replicate
  unfold Slb.get_ Slb.ok_
  cases hat : s.at_ h with
  | some p =>
    obtain ⟨x, c⟩ := p
    obtain ⟨i, rfl, hi, hx⟩ := Slb.at_some hat
    obtain ⟨c1, _, x1, x2, x3⟩ := Slb.at_pos hs hat
    have hat := slbAt_ok s.γ s.δ s.m s.room s.used s.sl (s.fs.map inA) hs.room.1 i x c hx c1 hs.len
    have hg := sl_get s.sl i _ hx
    simp only [slA, SN.av] at hg
    simp only [Slb.bx, SN.av, Option.isSome_some, if_true]
    generalize s.sl.map slA = es at *
    generalize s.fs.map inA = fs at *
    refine mE Try.func211 ?_; intro N w0 a w hN hR H
    refine mW ?_; clear H; intro a w H
    refine mCall [0, 1, 2] [] (hn) H ?_; clear H; intro a w H; try refine wpList_nil ?_
    refine mW ?_; clear H; intro a w H
    refine mC H (fun hb => ?_) (fun hb => ?_)
    · exact absurd hb (by decide)
    · clear hb
      refine mW ?_; clear H; intro a w H
      refine mCall [0, 1, 2] [] (hat) H ?_; clear H; intro a w H; try refine wpList_nil ?_
      refine mW ?_; clear H; intro a w H
      refine mC H (fun hb => ?_) (fun hb => ?_)
      · exact absurd hb (by decide)
      · clear hb
        refine mS ?_
        have hX := And.intro @hml (And.intro @hg (And.intro @x1 (And.intro @x2 (And.intro @x3 (@hz2)))))
        (try refine wp_region_lit ?_); refine mN 4 hN H ?_; clear H; intro a w H
        refine mW ?_; clear H; intro a w H
        refine wp_ret ?_; exact mEnd [0, 1, 2] [] [.cell 4 238, .tmp 5] [_, _] hN hR H
  | none =>
    have hat := slbAt_no s.γ s.δ s.m s.room s.used s.sl (s.fs.map inA) hs.room.1 h hs.len (Slb.at_none hat)
    simp only [Slb.bx, SN.av, SN.zero, Option.isSome_none, Bool.false_eq_true, if_false]
    generalize s.sl.map slA = es at *
    generalize s.fs.map inA = fs at *
    refine mE Try.func211 ?_; intro N w0 a w hN hR H
    have hX := And.intro @hml (@hz2)
    refine mW ?_; clear H; intro a w H
    refine mCall [0, 1, 2] [] (hn) H ?_; clear H; intro a w H; try refine wpList_nil ?_
    refine mW ?_; clear H; intro a w H
    refine mC H (fun hb => ?_) (fun hb => ?_)
    · exact absurd hb (by decide)
    · clear hb
      refine mW ?_; clear H; intro a w H
      refine mCall [0, 1, 2] [] (hat) H ?_; clear H; intro a w H; try refine wpList_nil ?_
      refine mW ?_; clear H; intro a w H
      refine mC H (fun hb => ?_) (fun hb => ?_)
      · refine mW ?_; clear H; intro a w H
        refine wp_ret ?_
        exact v_end [0, 1, 2] [] tab_ok ⟨hN, hR⟩ (rs := [.cell 4 238, .tmp 5]) (ress := [_, _]) rfl H (by rfl) (by rfl) cbX cwX (by exact ⟨⟨⟨rfl, trivial⟩, rfl, rfl, rfl, rfl, rfl, rfl, rfl, rfl, rfl, trivial⟩, sub_refl _ _, trivial⟩) rfl
      · exact absurd hb (by decide)
theorem Slb.set_some {s : Slb} {h : Int} {x : SN} {c : Nat} {i : Nat} (hat : s.at_ h = some (x, c)) (hi : h = (i : Int) + 1) (n : SN) : s.set_ h n = { s with sl := s.sl.set i (some (n, c)) } := by
  unfold Slb.set_; rw [hat]; subst hi
  dsimp only
  rw [show ((i : Int) + 1 - 1).toNat = i by omega]
set_option maxRecDepth 20000 in
theorem slbSet_v (s : Slb) (hs : s.wf) (h : Int) (x : SN) (c : Nat) (hat0 : s.at_ h = some (x, c)) (n : SN) (hn0 : n.wf) :
    VX Try.prog 251 s.bx [] [] [.ptr 0 [], .v (.int .i64 h), n.av] (s.set_ h n).bx [] [] (errv 0) := by
  have hn := slbNone_v s.γ s.δ s.sl.length s.m s.room s.used (s.sl.map slA) (s.fs.map inA) hs.room.1
  have hml : (s.sl.map slA).length = s.sl.length := List.length_map ..
  obtain ⟨i, hi0, hi, hx⟩ := Slb.at_some hat0
  rw [Slb.set_some hat0 hi0 n]
  subst hi0
  obtain ⟨c1, _, x1, x2, x3⟩ := Slb.at_pos hs hat0
  obtain ⟨n1, n2, n3⟩ := hn0
  have hat := slbAt_ok s.γ s.δ s.m s.room s.used s.sl (s.fs.map inA) hs.room.1 i x c hx c1 hs.len
  have hg := sl_get s.sl i _ hx
  have hst : (s.sl.set i (some (n, c))).map slA = (s.sl.map slA).set i (.st [n.av, .v (.int .i64 (c : Int))]) := by rw [List.map_set]; rfl
  simp only [slA, SN.av] at hg
  simp only [Slb.bx, hst, List.length_set]
  simp only [SN.av]
  generalize s.sl.map slA = es at *
  generalize s.fs.map inA = fs at *
  refine mE Try.func251 ?_; intro N w0 a w hN hR H
  refine mW ?_; clear H; intro a w H
  refine mCall [0, 1, 2] [] (hn) H ?_; clear H; intro a w H; try refine wpList_nil ?_
  refine mW ?_; clear H; intro a w H
  refine mC H (fun hb => ?_) (fun hb => ?_)
  · exact absurd hb (by decide)
  · clear hb
    refine mW ?_; clear H; intro a w H
    refine mCall [0, 1, 2] [] (hat) H ?_; clear H; intro a w H; try refine wpList_nil ?_
    refine mW ?_; clear H; intro a w H
    refine mC H (fun hb => ?_) (fun hb => ?_)
    · exact absurd hb (by decide)
    · clear hb
      have hX := And.intro @hml (And.intro @hg (And.intro @x1 (And.intro @x2 (And.intro @x3 (And.intro @n1 (And.intro @n2 (@n3)))))))
      refine mW ?_; clear H; intro a w H
      refine wp_ret ?_; exact mEnd [0, 1, 2] [] [.tmp 6] [_] hN hR H
set_option maxRecDepth 20000 in
set_option maxHeartbeats 4000000 in
/-- A new slot, where none is free. -/
theorem slbPush_v (s : Slb) (hs : s.wf) (hm : s.m = 0) (hu : s.used < s.room) (n : SN) (hn0 : n.wf) (hl : s.sl.length < 65536) :
    VX Try.prog 206 s.bx [] [] [.ptr 0 [], n.av] (s.push n).bx [] [] (.tup [.v (.int .i64 ((s.sl.length : Int) + 1)), errv 0]) := by
  have hn := slbNone_v s.γ s.δ s.sl.length s.m s.room s.used (s.sl.map slA) (s.fs.map inA) hs.room.1
  have hml : (s.sl.map slA).length = s.sl.length := List.length_map ..
  have hr := hs.room.2
  obtain ⟨n1, n2, n3⟩ := hn0
  have hst : (s.sl ++ [some (n, 1)]).map slA = s.sl.map slA ++ [.st [n.av, .v (.int .i64 1)]] := by rw [List.map_append]; rfl
  have htk : (s.sl.map slA).take s.sl.length = s.sl.map slA := List.take_of_length_le (by omega)
  have d1 : decide ((s.used : Int) = (s.room : Int)) = false := decide_eq_false (by omega)
  unfold Slb.push
  simp only [Slb.bx, hst, List.length_append, List.length_singleton]
  rw [hm] at hn ⊢
  simp only [SN.av]
  generalize s.sl.map slA = es at *
  generalize s.fs.map inA = fs at *
  refine mE Try.func206 ?_; intro N w0 a w hN hR H
  refine mW ?_; clear H; intro a w H
  replace H := v_ref H 3 3 (Nat.le_trans hN (Nat.le_of_ble_eq_true rfl)) rfl rfl rfl
  simp only [nilT, strip, List.map_cons, List.map_nil, reduceIte, Nat.reduceEqDiff] at H
  refine mCall [0, 1, 2] [] (hn) H ?_; clear H; intro a w H; try refine wpList_nil ?_
  have hX := And.intro @hml (And.intro @n1 (And.intro @n2 (And.intro @n3 (And.intro @d1 (@htk)))))
  refine mW ?_; clear H; intro a w H
  refine mC H (fun hb => ?_) (fun hb => ?_)
  · exact absurd hb (by decide)
  · clear hb
    refine mS ?_
    replace H := mK [0, 3, 4, 5] 4 0 hN hR H
    refine mS ?_; refine mD 0 [] [] H ?_; clear H; intro gS H
    refine mT ?_; clear H; intro a w H
    refine v_drawNil H ?_; clear H; intro H
    refine mC H (fun hb => ?_) (fun hb => ?_)
    · exact absurd hb (by decide)
    · clear hb
      refine mS ?_
      replace H := mK [0, 3, 4, 5] 4 0 hN hR H
      refine mW ?_; clear H; intro a w H
      refine mC H (fun hb => ?_) (fun hb => ?_)
      · exact absurd hb (by decide)
      · clear hb
        refine mS ?_
        replace H := mK [0, 3, 4, 5, 6] 4 0 hN hR H
        repeat (first | refine wp_seq ?_ | refine wp_block ?_)
        refine v_drawZ 0 [0, 1, 2, 3, 5, 6, 4, 7, 8, 9, 10, 11] [4, 7, 8, 11] [0, 1, 2, 3, 5, 6] [(4, 7)] (by kernel_rfl) (by kernel_rfl) (by kernel_rfl) (by kernel_rfl) (by kernel_rfl) H (by rfl) ?_; clear H; intro gS H; try replace H := ntf H
        repeat' ((first | refine wpZ_q1 rfl rfl ?_ | refine wpZ_l1 rfl rfl rfl ?_ | refine wpZ_l2 rfl rfl rfl rfl rfl ?_ ?_ | refine wpZ_l3 rfl rfl rfl rfl rfl rfl rfl ?_ ?_ ?_ | refine wpZ_l4 rfl rfl rfl rfl rfl rfl rfl rfl rfl ?_ ?_ ?_ ?_) <;> ((first | (refine v_someT 1 tab_ok hN H rfl ctX ?_; clear H; intro a w H; replace H := ntf H; simp only [List.drop_succ_cons, List.drop_zero, List.drop_nil])); refine wpT_nil ?_; try dsimp only))
        all_goals (refine wpZ_nil ?_; replace H := RelT.toRel H)
        all_goals
          refine mW ?_; clear H; intro a w H
          rw [show ((s.sl.length + 1 : Nat) : Int) = (s.sl.length : Int) + 1 by omega, show (s.used : Int) + 1 = ((s.used + 1 : Nat) : Int) by omega] at H
          refine wp_ret ?_; exact mEnd [0, 1, 2] [] [.tmp 4, .tmp 5] [_, _] hN hR H
/-- A slab without slots. -/
def Slb.new (room : Nat) : Slb := ⟨0, 0, [], [], 0, room, 0⟩
theorem slbNew_v (room : Nat) (h1 : 0 < room) (h2 : room ≤ 65536) :
    VX Try.prog 138 [] [] [] [.v (.int .i64 (room : Int))] (Slb.new room).bx [] [] (.tup [.ptr 0 [], errv 0]) := by
  have d1 : decide ((room : Int) < 1) = false := decide_eq_false (by omega)
  have d2 : decide ((65536 : Int) < (room : Int)) = false := decide_eq_false (by omega)
  unfold Slb.new
  simp only [Slb.bx, List.map_nil, List.length_nil]
  refine mE Try.func138 ?_; intro N w0 a w hN hR H
  have hX := And.intro @d1 (@d2)
  refine mW ?_; clear H; intro a w H
  refine mC H (fun hb => ?_) (fun hb => ?_)
  · exact absurd hb (by decide)
  · clear hb
    refine mW ?_; clear H; intro a w H
    replace H := v_nilVB tab_ok H 0 [0] 372 (j := ti372) rfl (by decide) rfl rfl rfl
    simp only [List.set_cons_succ, List.set_cons_zero, List.length_cons, List.length_nil, Nat.reduceAdd, List.cons_append, List.nil_append, AV.put, List.getElem?_cons_succ, List.getElem?_cons_zero] at H
    replace H := v_nilVB tab_ok H 0 [1] 3 (j := ti3) rfl (by decide) rfl rfl rfl
    simp only [List.set_cons_succ, List.set_cons_zero, List.length_cons, List.length_nil, Nat.reduceAdd, List.cons_append, List.nil_append, AV.put, List.getElem?_cons_succ, List.getElem?_cons_zero] at H
    refine wp_ret ?_; exact mEnd [0, 1, 2] [] [.tmp 2, .tmp 3] [_, _] hN hR H
end Go.Proofs.Ytigmpdhnhkdeiaa
/- Digests of a byte and parts: the program's. -/
namespace Go.Proofs.Ytigmpdhnhkdeiaa
open Go Go.RowKit
theorem of_v (t : UInt8) (ls : List (List UInt8)) (hb : ls.flatten.length ≤ 34359737000) (hl : ls.length ≤ 34359737000) : VC Try.prog 136 [.v (B8 t), .sl .sc (bss ls) none] [] (.ba (sum (t :: ls.flatten))) := by
  have hbl := bss_len ls
  have ht := t.toNat_lt
  refine mE Try.func136 ?_; intro N w0 a w hN hR H
  have hX := And.intro @ren_s8v (@ren_shv)
  have hY := And.intro @s8v.eq_1 (And.intro @shv.eq_1 (And.intro @W32.eq_1 (@h0.eq_1)))
  refine mW ?_; clear H; intro a w H
  refine mCall [] [] (new_v) H ?_; clear H; intro a w H; try refine wpList_nil ?_
  refine mW ?_; clear H; intro a w H
  obtain ⟨s1, b1, n1, h1, hw1⟩ := write_g [] [t] h0 (List.replicate 64 0) 0 good_nil (by simp) 0 (by decide)
  refine mCall [1] [] (hw1) H ?_; clear H; intro a w H; try refine wpList_nil ?_
  refine mW ?_; clear H; intro a w H
  refine v_loop (fun i : S8 × List UInt8 × Nat × Nat => ⟨[(4, none, .ptr 0 []), (5, none, .ptr 1 []), (15, none, .v (.int .i64 (i.2.2.2 : Int))), (14, none, .v (.int .i64 (ls.length : Int))), (13, none, .sl .sc (bss ls) none)], [(.ba 32, .ba (List.replicate 32 0)), (ti361.ty, shv i.1 i.2.1 i.2.2.1 (1 + (ls.take i.2.2.2).flatten.length))], [], []⟩)
    (fun i => Good (t :: (ls.take i.2.2.2).flatten) i.1 i.2.1 i.2.2.1 ∧ i.2.2.2 ≤ ls.length) (fun i => ls.length - i.2.2.2) (s1, b1, n1, 0) ⟨by simpa using h1, Nat.zero_le _⟩
    (H.to 2 0 ⟨Nat.le_trans hN (by decide), hR⟩ ⟨rfl, rfl, rfl, by rw [hbl]; rfl, rfl, trivial⟩ rfl rfl rfl rfl rfl) ?_
  clear H
  rintro ⟨s2, b2, n2, k⟩ a w ⟨h2, hk⟩ H
  dsimp only at h2 hk H
  refine mW ?_; clear H; intro a w H
  refine mC H (fun hb => ?_) (fun hb => ?_)
  · have hlt : k < ls.length := by simpa using hb
    have hf := flat_take_le ls (k + 1)
    rw [flat_take ls k hlt, List.length_append] at hf
    refine wp_skip ?_
    refine wp_seq ?_
    refine wp_block ?_
    refine wp_seq ?_
    (try refine wp_region_lit ?_); refine mN 2 hN H ?_; clear H; intro a w H
    rw [bss_get ls k hlt] at H
    refine mW ?_; clear H; intro a w H
    obtain ⟨s3, b3, n3, h3, hw3⟩ := write_g _ ls[k] s2 b2 n2 h2 (by omega) (1 + (ls.take k).flatten.length) (by omega)
    refine mCall [1] [] (hw3) H ?_; clear H; intro a w H; try refine wpList_nil ?_
    refine mW ?_; clear H; intro a w H
    refine ⟨(s3, b3, n3, k + 1), ⟨by rw [flat_take ls k hlt]; simpa using h3, hlt⟩, by dsimp only; omega, H.to 2 0 ⟨Nat.le_trans hN (by decide), hR⟩ ⟨rfl, rfl, rfl, rfl, rfl, trivial⟩ (by rw [flat_take ls k hlt, List.length_append]; simp only [List.take_succ_cons, List.take_zero]; rw [Nat.add_assoc]) rfl rfl rfl rfl⟩
  · have hge : k = ls.length := by simp at hb; omega
    subst hge
    rw [List.take_length] at h2 H
    have hsl := sum_length (t :: ls.flatten)
    have h1l : (t :: ls.flatten).length = 1 + ls.flatten.length := by simp; omega
    have hsum := sumS_v (t :: ls.flatten) s2 b2 n2 h2 (by rw [h1l]; omega)
    rw [h1l] at hsum
    refine mW ?_; clear H; intro a w H
    refine mCall [1] [] (hsum) H ?_; clear H; intro a w H; try refine wpList_nil ?_
    refine mW ?_; clear H; intro a w H
    refine wp_ret ?_; exact mEnd [] [] [.cell 4 50] [_] hN hR H
theorem empty_v : VC Try.prog 178 [] [] (.ba (sum [0])) := by
  have hsl := sum_length [0]
  refine mE Try.func178 ?_; intro N w0 a w hN hR H
  have hX := And.intro @ren_s8v (@ren_shv)
  have hY := And.intro @s8v.eq_1 (And.intro @shv.eq_1 (And.intro @W32.eq_1 (@h0.eq_1)))
  refine mW ?_; clear H; intro a w H
  refine mCall [] [] (of_v 0 [] (by simp) (by simp)) H ?_; clear H; intro a w H; try refine wpList_nil ?_
  refine mW ?_; clear H; intro a w H
  refine wp_ret ?_; exact mEnd [] [] [.cell 0 50] [_] hN hR H
end Go.Proofs.Ytigmpdhnhkdeiaa
/- Nodes: what is read. -/
namespace Go.Proofs.Ytigmpdhnhkdeiaa
open Go Go.RowKit
def Nd.one (a b : List UInt8) : Nd := ⟨1, a, b, z32, z32⟩
def Nd.two (a b : List UInt8) : Nd := ⟨2, z32, z32, a, b⟩
def decOk (l : List UInt8) : Prop := l = [0] ∨ (l.length = 65 ∧ (l.getD 0 0 = 1 ∨ l.getD 0 0 = 2))
instance (l : List UInt8) : Decidable (decOk l) := inferInstanceAs (Decidable (_ ∨ _))
def dec (l : List UInt8) : Nd := if l.length = 65 ∧ l.getD 0 0 = 1 then .one ((l.drop 1).take 32) (l.drop 33) else if l.length = 65 ∧ l.getD 0 0 = 2 then .two ((l.drop 1).take 32) (l.drop 33) else .zero
theorem z32_len : z32.length = 32 := by simp [z32]
theorem zero_wf : Nd.zero.wf := ⟨z32_len, z32_len, z32_len, z32_len⟩
theorem zero_ok : Nd.zero.ok := by simp [Nd.ok, Nd.bare, Nd.zero]
end Go.Proofs.Ytigmpdhnhkdeiaa
/- What the statements share: bytes that are lent, and kept. -/
namespace Go.Proofs.Ytigmpdhnhkdeiaa
open Go Go.RowKit
/-- The marks in the spare room. -/
def marks (n : Nat) : Nat → List UInt8
  | 0 => []
  | k + 1 => marks n k ++ [UInt8.ofNat (200 + (n + k) % 50)]
end Go.Proofs.Ytigmpdhnhkdeiaa
/- The document's digests and nodes. -/
namespace Go.Proofs.Ytigmpdhnhkdeiaa
open Go Go.RowKit
theorem textR_v (t : UInt8) (ls : List (List UInt8)) (hb : ls.flatten.length ≤ 34359738367) (hl : ls.length ≤ 34359738367) :
    VC Try.prog 195 [.v (B8 t), .sl .sc (bss ls) none] [(5, (t :: ls.flatten).length)] (.bs (t :: ls.flatten) (some 0)) := by
  have hbl := bss_len ls
  have ht : t.toNat < 256 := t.toNat_lt
  refine mE Try.func195 ?_; intro N w0 a w hN hR H
  refine mW ?_; clear H; intro a w H
  refine v_loop (fun k : Nat => ⟨[(6, none, .v (.int .i64 (k : Int))), (5, none, .bs (t :: (ls.take k).flatten) (some 0)), (1, none, .sl .sc (bss ls) none)], [], [], [(5, (t :: (ls.take k).flatten).length)]⟩) (fun k => k ≤ ls.length) (fun k => ls.length - k) 0 (Nat.zero_le _) (H.to 0 1 ⟨hN, Nat.le_trans hR (by decide)⟩ ⟨rfl, rfl, rfl, trivial⟩ rfl rfl rfl rfl rfl) ?_
  clear H
  intro k a w hk H
  refine mW ?_; clear H; intro a w H
  refine mC H (fun hb => ?_) (fun hb => ?_)
  · have hlt : k < ls.length := by rw [hbl] at hb; simpa using hb
    have hf := flat_take_le ls (k + 1)
    rw [flat_take ls k hlt, List.length_append] at hf
    refine wp_skip ?_
    repeat (first | refine wp_seq ?_ | refine wp_block ?_)
    (try refine wp_region_lit ?_); refine mN 5 hN H ?_; clear H; intro a w H
    rw [bss_get ls k hlt] at H
    refine mW ?_; clear H; intro a w H
    exact ⟨k + 1, hlt, by omega, H.to 0 1 ⟨hN, Nat.le_trans hR (by decide)⟩ ⟨rfl, by rw [flat_take ls k hlt]; rfl, rfl, trivial⟩ rfl (by rw [flat_take ls k hlt]; simp only [List.take_succ_cons, List.take_zero, List.length_cons, List.length_append, List.cons.injEq, Prod.mk.injEq, true_and, and_true]; omega) rfl rfl rfl⟩
  · have hge : k = ls.length := by rw [hbl] at hb; simp at hb; omega
    subst hge
    rw [List.take_length] at H
    refine mW ?_; clear H; intro a w H
    refine wp_ret ?_; exact mEnd [] [0] [.tmp 4] [_] hN hR H
set_option maxRecDepth 20000 in
theorem leafR_v (k v : List UInt8) (hk : k.length = 32) (hv : v.length = 32) :
    VC Try.prog 197 [.ba k, .ba v] [(5, 65)] (.bs (1 :: (k ++ v)) (some 0)) := by
  refine mE Try.func197 ?_; intro N w0 a w hN hR H
  refine mW ?_; clear H; intro a w H
  have hX := And.intro (List.take_of_length_le (Nat.le_of_eq hk)) (List.take_of_length_le (Nat.le_of_eq hv))
  refine mS ?_; refine mD 2 [2, 3] [] H ?_; clear H; intro gS H; refine mT ?_; clear H; intro a w H
  refine mCallT [] [] (textR_v 1 [k, v] (by simp; omega) (by simp)) H ?_; clear H; intro a w H
  refine mT ?_; clear H; intro a w H
  refine v_drawNil H ?_; clear H; intro H
  refine mW ?_; clear H; intro a w H
  clear hX; have hX := And.intro @hk (@hv)
  refine wp_ret ?_; exact mEnd [] [1] [.tmp 4] [_] hN hR H
set_option maxRecDepth 20000 in
theorem innerR_v (k v : List UInt8) (hk : k.length = 32) (hv : v.length = 32) :
    VC Try.prog 129 [.ba k, .ba v] [(5, 65)] (.bs (2 :: (k ++ v)) (some 0)) := by
  refine mE Try.func129 ?_; intro N w0 a w hN hR H
  refine mW ?_; clear H; intro a w H
  have hX := And.intro (List.take_of_length_le (Nat.le_of_eq hk)) (List.take_of_length_le (Nat.le_of_eq hv))
  refine mS ?_; refine mD 2 [2, 3] [] H ?_; clear H; intro gS H; refine mT ?_; clear H; intro a w H
  refine mCallT [] [] (textR_v 2 [k, v] (by simp; omega) (by simp)) H ?_; clear H; intro a w H
  refine mT ?_; clear H; intro a w H
  refine v_drawNil H ?_; clear H; intro H
  refine mW ?_; clear H; intro a w H
  clear hX; have hX := And.intro @hk (@hv)
  refine wp_ret ?_; exact mEnd [] [1] [.tmp 4] [_] hN hR H
end Go.Proofs.Ytigmpdhnhkdeiaa
/- The document's look at a node. -/
namespace Go.Proofs.Ytigmpdhnhkdeiaa
open Go Go.RowKit
end Go.Proofs.Ytigmpdhnhkdeiaa
/- The document's nodes, written and read. -/
namespace Go.Proofs.Ytigmpdhnhkdeiaa
open Go Go.RowKit
end Go.Proofs.Ytigmpdhnhkdeiaa
/- Digests of the empty place, of leaves, of inner nodes. -/
namespace Go.Proofs.Ytigmpdhnhkdeiaa
open Go Go.RowKit
def leafH (k v : List UInt8) : List UInt8 := sum (1 :: (k ++ v))
def innerH (l r : List UInt8) : List UInt8 := sum (2 :: (l ++ r))
theorem leafH_len (k v : List UInt8) : (leafH k v).length = 32 := sum_length _
theorem innerH_len (k v : List UInt8) : (innerH k v).length = 32 := sum_length _
set_option maxRecDepth 20000 in
theorem leaf_v (k v : List UInt8) (hk : k.length = 32) (hv : v.length = 32) : VC Try.prog 207 [.ba k, .ba v] [] (.ba (leafH k v)) := by
  have h := of_v 1 [k, v] (by simp; omega) (by simp)
  have e : [k, v].flatten = k ++ v := by simp
  rw [e] at h
  have hsl := sum_length (1 :: (k ++ v))
  unfold leafH
  refine mE Try.func207 ?_; intro N w0 a w hN hR H
  refine mW ?_; clear H; intro a w H
  have hX := And.intro (List.take_of_length_le (Nat.le_of_eq hk)) (List.take_of_length_le (Nat.le_of_eq hv))
  refine mS ?_; refine mD 0 [2, 3, 4] [] H ?_; clear H; intro gS H; refine mT ?_; clear H; intro a w H
  refine mCallT [] [] (h) H ?_; clear H; intro a w H
  refine mT ?_; clear H; intro a w H
  refine v_drawNil H ?_; clear H; intro H
  clear hX; have hX := And.intro @hk (@hv)
  refine wp_ret ?_; exact mEnd [] [] [.cell 4 50] [_] hN hR H
set_option maxRecDepth 20000 in
theorem inner_v (k v : List UInt8) (hk : k.length = 32) (hv : v.length = 32) : VC Try.prog 134 [.ba k, .ba v] [] (.ba (innerH k v)) := by
  have h := of_v 2 [k, v] (by simp; omega) (by simp)
  have e : [k, v].flatten = k ++ v := by simp
  rw [e] at h
  have hsl := sum_length (2 :: (k ++ v))
  unfold innerH
  refine mE Try.func134 ?_; intro N w0 a w hN hR H
  refine mW ?_; clear H; intro a w H
  have hX := And.intro (List.take_of_length_le (Nat.le_of_eq hk)) (List.take_of_length_le (Nat.le_of_eq hv))
  refine mS ?_; refine mD 0 [2, 3, 4] [] H ?_; clear H; intro gS H; refine mT ?_; clear H; intro a w H
  refine mCallT [] [] (h) H ?_; clear H; intro a w H
  refine mT ?_; clear H; intro a w H
  refine v_drawNil H ?_; clear H; intro H
  clear hX; have hX := And.intro @hk (@hv)
  refine wp_ret ?_; exact mEnd [] [] [.cell 4 50] [_] hN hR H
end Go.Proofs.Ytigmpdhnhkdeiaa
/- How many bits a byte has: math/bits. -/
namespace Go.Proofs.Ytigmpdhnhkdeiaa
open Go Go.RowKit
set_option maxHeartbeats 1000000 in
set_option maxRecDepth 100000 in
theorem len8_any (x : Int) (w : World) (h0 : 0 ≤ x) (h1 : x ≤ 255) : Calls Try.prog 280 #[.int .u8 x] w fun e w' => e = .returned (.int .i64 (Lib.bitLen x.toNat)) ∧ w' = w := by
  rw [← Lib.len8_int x h0 h1]
  go_enter Try.func280, Try.ntmps280
  go_wp2
  go_ret
  refine ⟨?_, rfl⟩
  generalize Lib.len8 x = y
  have e : wrap64 y = (y + 9223372036854775808) % 18446744073709551616 - 9223372036854775808 := by unfold wrap64; rfl
  show Ending.returned (.int .i64 (wrap64 y)) = _
  rw [e]
theorem len8_v (c : UInt8) : VC Try.prog 280 [.v (B8 c)] [] (.v (.int .i64 (Lib.bitLen c.toNat))) := by
  refine VC.ofA ⟨_, Try.func280, by kernel_rfl, by kernel_rfl⟩ fun w N vs hM hl hv => ?_
  obtain ⟨u, rfl, h1⟩ := one_ hl hv
  have e1 := h1.v_inv
  subst e1
  have hc := c.toNat_lt
  refine (len8_any c.toNat w (by omega) (by omega)).mono fun e w' hp => ?_
  obtain ⟨rfl, rfl⟩ := hp
  exact ⟨_, rfl, Below.refl _ _, by rw [Int.toNat_natCast]; exact RV.v_of rfl⟩
end Go.Proofs.Ytigmpdhnhkdeiaa
/- Bits in bytes, the highest first. -/
namespace Go.Proofs.Ytigmpdhnhkdeiaa
open Go Go.RowKit
def b8 (f : Nat → Bool) : UInt8 := (if f 0 then 128 else 0) ||| (if f 1 then 64 else 0) ||| (if f 2 then 32 else 0) ||| (if f 3 then 16 else 0) ||| (if f 4 then 8 else 0) ||| (if f 5 then 4 else 0) ||| (if f 6 then 2 else 0) ||| (if f 7 then 1 else 0)
def bitsB (n : Nat) (f : Nat → Bool) : List UInt8 := (List.range ((n + 7) / 8)).map fun j => b8 fun k => f (8 * j + k)
theorem bitsB_len (n : Nat) (f : Nat → Bool) : (bitsB n f).length = (n + 7) / 8 := by simp [bitsB]
theorem b8_congr {f g : Nat → Bool} (h : ∀ i, i < 8 → f i = g i) : b8 f = b8 g := by
  unfold b8; rw [h 0 (by decide), h 1 (by decide), h 2 (by decide), h 3 (by decide), h 4 (by decide), h 5 (by decide), h 6 (by decide), h 7 (by decide)]
def b8x (x0 x1 x2 x3 x4 x5 x6 x7 : Bool) : UInt8 := (if x0 then 128 else 0) ||| (if x1 then 64 else 0) ||| (if x2 then 32 else 0) ||| (if x3 then 16 else 0) ||| (if x4 then 8 else 0) ||| (if x5 then 4 else 0) ||| (if x6 then 2 else 0) ||| (if x7 then 1 else 0)
theorem b8_x (f : Nat → Bool) : b8 f = b8x (f 0) (f 1) (f 2) (f 3) (f 4) (f 5) (f 6) (f 7) := rfl
/-- A bit of a byte. -/
def bitAt (c : UInt8) (m : Nat) : Bool := (c &&& UInt8.ofNat (128 / 2 ^ m)) != 0
set_option maxRecDepth 100000 in
theorem b8x_get : ∀ x0 x1 x2 x3 x4 x5 x6 x7 : Bool, bitAt (b8x x0 x1 x2 x3 x4 x5 x6 x7) 0 = x0 ∧ bitAt (b8x x0 x1 x2 x3 x4 x5 x6 x7) 1 = x1 ∧ bitAt (b8x x0 x1 x2 x3 x4 x5 x6 x7) 2 = x2 ∧ bitAt (b8x x0 x1 x2 x3 x4 x5 x6 x7) 3 = x3
    ∧ bitAt (b8x x0 x1 x2 x3 x4 x5 x6 x7) 4 = x4 ∧ bitAt (b8x x0 x1 x2 x3 x4 x5 x6 x7) 5 = x5 ∧ bitAt (b8x x0 x1 x2 x3 x4 x5 x6 x7) 6 = x6 ∧ bitAt (b8x x0 x1 x2 x3 x4 x5 x6 x7) 7 = x7 := by decide +kernel
theorem b8_get (f : Nat → Bool) (m : Nat) (hm : m < 8) : bitAt (b8 f) m = f m := by
  obtain ⟨h0, h1, h2, h3, h4, h5, h6, h7⟩ := b8x_get (f 0) (f 1) (f 2) (f 3) (f 4) (f 5) (f 6) (f 7)
  rw [b8_x]
  match m, hm with
  | 0, _ => exact h0
  | 1, _ => exact h1
  | 2, _ => exact h2
  | 3, _ => exact h3
  | 4, _ => exact h4
  | 5, _ => exact h5
  | 6, _ => exact h6
  | 7, _ => exact h7
theorem bitsB_get (n : Nat) (f : Nat → Bool) (j : Nat) (hj : j < (n + 7) / 8) : (bitsB n f).getD j 0 = b8 fun k => f (8 * j + k) := by
  simp [bitsB, List.getD, List.getElem?_range, hj]
theorem bitsB_bit (n : Nat) (f : Nat → Bool) (t : Nat) (ht : t < n) : bitAt ((bitsB n f).getD (t / 8) 0) (t % 8) = f t := by
  rw [bitsB_get n f _ (by omega), b8_get _ _ (by omega)]
  congr 1; omega
theorem pow128 (m : Nat) : 128 / 2 ^ m < 256 := Nat.lt_of_le_of_lt (Nat.div_le_self _ _) (by decide)
theorem and_bit (c : UInt8) (m : Nat) : (!decide (bits .and .u8 (c.toNat : Int) (128 / 2 ^ m) = 0)) = bitAt c m := by
  have e : (128 / 2 ^ m : Int) = ((128 / 2 ^ m : Nat) : Int) := by rw [Int.natCast_ediv, Int.natCast_pow]; rfl
  have h : bits .and .u8 (c.toNat : Int) (128 / 2 ^ m) = (((c &&& UInt8.ofNat (128 / 2 ^ m)).toNat : Nat) : Int) := by
    rw [e, u8_and_nat _ _ (UInt8.toNat_lt _) (pow128 _), UInt8.toNat_and, UInt8.toNat_ofNat', Nat.mod_eq_of_lt (pow128 _)]
  rw [h]
  unfold bitAt
  by_cases h0 : c &&& UInt8.ofNat (128 / 2 ^ m) = 0
  · simp [h0]
  · have h1 : (c &&& UInt8.ofNat (128 / 2 ^ m)).toNat ≠ 0 := fun e => h0 (UInt8.toNat_inj.1 (by simpa using e))
    have h2 : (((c &&& UInt8.ofNat (128 / 2 ^ m)).toNat : Nat) : Int) ≠ 0 := by omega
    rw [decide_eq_false h2]; simpa using h0
end Go.Proofs.Ytigmpdhnhkdeiaa
/- Keys as ways down: bits, how many are shared, what rises. In plain Lean. -/
namespace Go.Proofs.Ytigmpdhnhkdeiaa
open Go Go.RowKit
def bitN (p : List UInt8) (d : Nat) : Bool := bitAt (p.getD (d / 8) 0) (d % 8)
def pbit (p : List UInt8) (d : Int) : Int := if 0 ≤ d ∧ d < 256 then (if bitN p d.toNat then 1 else 0) else -1
def comF (p q : List UInt8) : Nat → Nat → Nat
  | 0, d => d
  | f + 1, d => if bitN p d = bitN q d then comF p q f (d + 1) else d
def com (p q : List UInt8) : Nat := comF p q 256 0
def agree (d : Nat) (p q : List UInt8) : Prop := ∀ t, t < d → bitN p t = bitN q t
theorem comF_spec (p q : List UInt8) : ∀ f d, d ≤ comF p q f d ∧ comF p q f d ≤ d + f ∧ (∀ t, d ≤ t → t < comF p q f d → bitN p t = bitN q t) ∧ (comF p q f d < d + f → bitN p (comF p q f d) ≠ bitN q (comF p q f d))
  | 0, d => ⟨Nat.le_refl _, Nat.le_refl _, fun t h1 h2 => by simp only [comF] at h2; omega, fun h => by simp only [comF] at h; omega⟩
  | f + 1, d => by
    have ih := comF_spec p q f (d + 1)
    simp only [comF]
    split
    · rename_i he
      obtain ⟨h1, h2, h3, h4⟩ := ih
      refine ⟨by omega, by omega, fun t ht hl => ?_, fun h => h4 (by omega)⟩
      by_cases htd : t = d
      · subst htd; exact he
      · exact h3 t (by omega) hl
    · rename_i he
      exact ⟨Nat.le_refl _, by omega, fun t h1 h2 => by omega, fun _ => he⟩
theorem com_le (p q : List UInt8) : com p q ≤ 256 := by have := (comF_spec p q 256 0).2.1; simpa [com] using this
theorem com_agree (p q : List UInt8) : agree (com p q) p q := fun t ht => (comF_spec p q 256 0).2.2.1 t (Nat.zero_le _) ht
theorem com_ne (p q : List UInt8) (h : com p q < 256) : bitN p (com p q) ≠ bitN q (com p q) := (comF_spec p q 256 0).2.2.2 (by simpa [com] using h)
theorem com_of {p q : List UInt8} {c : Nat} (hc : c ≤ 256) (h : agree c p q) (hn : c < 256 → bitN p c ≠ bitN q c) : com p q = c := by
  have h1 := com_le p q; have h2 := com_agree p q; have h3 := com_ne p q
  rcases Nat.lt_trichotomy (com p q) c with hl | he | hg
  · exact absurd (h _ hl) (h3 (by omega))
  · exact he
  · exact absurd (h2 _ hg) (hn (by omega))
theorem com_ge {p q : List UInt8} {d : Nat} (hd : d ≤ 256) : d ≤ com p q ↔ agree d p q := by
  constructor
  · intro h t ht; exact com_agree p q t (by omega)
  · intro h
    rcases Nat.lt_or_ge (com p q) d with hl | hg
    · exact absurd (h _ hl) (com_ne p q (by omega))
    · exact hg
theorem com_self (p : List UInt8) : com p p = 256 := com_of (Nat.le_refl _) (fun _ _ => rfl) (fun h => absurd h (by decide))
theorem agree.symm {d : Nat} {p q : List UInt8} (h : agree d p q) : agree d q p := fun t ht => (h t ht).symm
theorem agree.trans {d : Nat} {p q r : List UInt8} (h : agree d p q) (k : agree d q r) : agree d p r := fun t ht => (h t ht).trans (k t ht)
set_option maxRecDepth 100000 in
theorem bitAt_test8 : ∀ n : Fin 256, ∀ m : Fin 8, bitAt (UInt8.ofNat n.val) m.val = n.val.testBit (7 - m.val) := by decide +kernel
theorem bitAt_test (c : UInt8) (m : Nat) (hm : m < 8) : bitAt c m = c.toNat.testBit (7 - m) := by
  have := bitAt_test8 ⟨c.toNat, c.toNat_lt⟩ ⟨m, hm⟩
  simpa using this
set_option maxRecDepth 100000 in
theorem lead8 : ∀ n : Fin 256, n.val ≠ 0 → Lib.bitLen n.val ≤ 8 ∧ 8 - Lib.bitLen n.val < 8 ∧ (∀ t : Fin 8, t.val < 8 - Lib.bitLen n.val → bitAt (UInt8.ofNat n.val) t.val = false) ∧ bitAt (UInt8.ofNat n.val) (8 - Lib.bitLen n.val) = true := by decide +kernel
/-- The first bit in which two bytes part. -/
theorem lead_xor (x y : UInt8) (h : x ≠ y) : 8 - Lib.bitLen (x ^^^ y).toNat < 8 ∧ Lib.bitLen (x ^^^ y).toNat ≤ 8 ∧ (∀ t, t < 8 - Lib.bitLen (x ^^^ y).toNat → bitAt x t = bitAt y t) ∧ bitAt x (8 - Lib.bitLen (x ^^^ y).toNat) ≠ bitAt y (8 - Lib.bitLen (x ^^^ y).toNat) := by
  have hx : ∀ m, m < 8 → bitAt (x ^^^ y) m = (bitAt x m ^^ bitAt y m) := fun m hm => by
    rw [bitAt_test _ _ hm, bitAt_test _ _ hm, bitAt_test _ _ hm, UInt8.toNat_xor, Nat.testBit_xor]
  have hne : (x ^^^ y).toNat ≠ 0 := fun e => h (by
    have : x ^^^ y = 0 := UInt8.toNat_inj.1 (by simpa using e)
    exact UInt8.xor_eq_zero_iff.1 this)
  obtain ⟨h1, h2, h3, h4⟩ := lead8 ⟨(x ^^^ y).toNat, (x ^^^ y).toNat_lt⟩ hne
  simp only [UInt8.ofNat_toNat] at h3 h4 h1 h2
  refine ⟨h2, h1, fun t ht => ?_, fun e => ?_⟩
  · have := h3 ⟨t, by omega⟩ ht
    rw [hx t (by omega)] at this
    simpa using this
  · rw [hx _ h2, e] at h4
    simp at h4
/-- The lesser key, by bits. -/
def ltB (p q : List UInt8) : Prop := ∃ c, c < 256 ∧ agree c p q ∧ bitN p c = false ∧ bitN q c = true
theorem ltB.trans {p q r : List UInt8} (h : ltB p q) (k : ltB q r) : ltB p r := by
  obtain ⟨c, hc, h1, h2, h3⟩ := h
  obtain ⟨d, hd, k1, k2, k3⟩ := k
  rcases Nat.lt_trichotomy c d with hl | rfl | hg
  · exact ⟨c, hc, fun t ht => (h1 t ht).trans (k1 t (by omega)), h2, (k1 c hl) ▸ h3⟩
  · rw [h3] at k2; cases k2
  · exact ⟨d, hd, fun t ht => (h1 t (by omega)).trans (k1 t ht), (h1 d hg).trans k2, k3⟩
theorem bitN_cons_lt (x : UInt8) (p : List UInt8) (t : Nat) (h : t < 8) : bitN (x :: p) t = bitAt x t := by
  unfold bitN; rw [Nat.div_eq_of_lt h, Nat.mod_eq_of_lt h]; rfl
theorem bitN_cons_ge (x : UInt8) (p : List UInt8) (t : Nat) : bitN (x :: p) (t + 8) = bitN p t := by
  unfold bitN; rw [Nat.add_div_right _ (by decide), Nat.add_mod_right]; rfl
theorem agree_all : ∀ p q : List UInt8, p.length = q.length → agree (8 * p.length) p q → p = q
  | [], [], _, _ => rfl
  | [], _ :: _, h, _ => by cases h
  | _ :: _, [], h, _ => by cases h
  | x :: p, y :: q, h, ha => by
    have hl : p.length = q.length := by simpa using h
    have e := agree_all p q hl fun t ht => by
      have := ha (t + 8) (by rw [List.length_cons]; omega)
      rwa [bitN_cons_ge, bitN_cons_ge] at this
    by_cases hx : x = y
    · rw [e, hx]
    · exfalso
      obtain ⟨l1, l2, l3, l4⟩ := lead_xor x y hx
      have := ha (8 - Lib.bitLen (x ^^^ y).toNat) (by rw [List.length_cons]; omega)
      rw [bitN_cons_lt _ _ _ l1, bitN_cons_lt _ _ _ l1] at this
      exact l4 this
theorem agree_eq {p q : List UInt8} (hp : p.length = 32) (hq : q.length = 32) (h : agree 256 p q) : p = q := agree_all p q (by omega) (by rw [hp]; exact h)
end Go.Proofs.Ytigmpdhnhkdeiaa
/- octet.Compare: byte by byte. -/
namespace Go.Proofs.Ytigmpdhnhkdeiaa
open Go Go.RowKit
end Go.Proofs.Ytigmpdhnhkdeiaa
/- The program's reader of bytes. -/
namespace Go.Proofs.Ytigmpdhnhkdeiaa
open Go Go.RowKit
end Go.Proofs.Ytigmpdhnhkdeiaa
/- octet.Compare, numbers as two bytes. -/
namespace Go.Proofs.Ytigmpdhnhkdeiaa
open Go Go.RowKit
/-- A number, the highest byte first. -/
def num : Nat → List UInt8 → Nat
  | x, [] => x
  | x, b :: l => num (256 * x + b.toNat) l
end Go.Proofs.Ytigmpdhnhkdeiaa
/- Keys as ways down: the program's and the document's functions. -/
namespace Go.Proofs.Ytigmpdhnhkdeiaa
open Go Go.RowKit
theorem e7w (d : Int) (h0 : 0 ≤ d) : (if (d % 8).toNat ≤ 8 then (d % 8).toNat else 8) = d.toNat % 8 := by split <;> omega
theorem e8w (d : Int) (h0 : 0 ≤ d) : (d / 8).toNat = d.toNat / 8 := by omega
theorem mask_v (d : Int) (h0 : 0 ≤ d) (h1 : d < 256) : VC Try.prog 151 [.v (.int .i64 d)] [] (.v (.int .u8 (128 / 2 ^ (d.toNat % 8)))) := by
  have e7 := e7w d h0
  refine mE Try.func151 ?_; intro N w0 a w hN hR H
  have hX := @e7
  have hY := @e7
  refine mW ?_; clear H; intro a w H
  refine wp_ret ?_; exact mEnd [] [] [.tmp 2] [_] hN hR H
set_option maxRecDepth 20000 in
theorem bit_v (p : List UInt8) (hp : p.length = 32) (d : Int) : VC Try.prog 81 [.ba p, .v (.int .i64 d)] [] (.v (.int .i64 (pbit p d))) := by
  refine mE Try.func81 ?_; intro N w0 a w hN hR H
  refine mW ?_; clear H; intro a w H
  by_cases h : 0 ≤ d ∧ d < 256
  · have hm := mask_v d h.1 h.2
    have e8 := e8w d h.1
    rw [pbit, if_pos h]
    have h1 := h.1; have h2 := h.2
    refine mC H (fun hb => ?_) (fun hb => ?_)
    · exfalso; simp at hb; omega
    · refine mS ?_; refine mD 1 [5] [0, 1, 2, 3] H ?_; clear H; intro gS H; refine mT ?_; clear H; intro a w H
      refine mCallT [] [] (hm) H ?_; clear H; intro a w H
      have hX := @e8
      have hY := @e8
      refine mT ?_; clear H; intro a w H
      refine v_drawNil H ?_; clear H; intro H
      rw [and_bit] at H
      have eb : bitAt (p.getD (d.toNat / 8) 0) (d.toNat % 8) = bitN p d.toNat := rfl
      rw [eb] at H
      refine mC H (fun hb => ?_) (fun hb => ?_)
      · rw [hb]
        refine mW ?_; clear H; intro a w H
        refine wp_ret ?_; exact mEnd [] [] [.tmp 4] [_] hN hR H
      · rw [hb]
        refine mW ?_; clear H; intro a w H
        refine wp_ret ?_; exact mEnd [] [] [.tmp 4] [_] hN hR H
  · rw [pbit, if_neg h]
    refine mC H (fun hb => ?_) (fun hb => ?_)
    · refine mW ?_; clear H; intro a w H
      refine wp_ret ?_; exact mEnd [] [] [.tmp 4] [_] hN hR H
    · exfalso; simp at hb; omega
theorem lz8_v (c : UInt8) : VC Try.prog 246 [.v (B8 c)] [] (.v (.int .i64 ((8 : Int) - (Lib.bitLen c.toNat : Int)))) := by
  have h1 := len8_v c
  have h2 := Lib.bitLen_le8 ⟨c.toNat, c.toNat_lt⟩
  simp only at h2
  refine mE Try.func246 ?_; intro N w0 a w hN hR H
  refine mW ?_; clear H; intro a w H
  refine mCall [] [] (h1) H ?_; clear H; intro a w H; try refine wpList_nil ?_
  refine mW ?_; clear H; intro a w H
  refine wp_ret ?_; exact mEnd [] [] [.tmp 2] [_] hN hR H
theorem xor8 (x y : UInt8) : bits .xor .u8 (x.toNat : Int) (y.toNat : Int) = (((x ^^^ y).toNat : Nat) : Int) := by
  rw [u8_xor_nat _ _ x.toNat_lt y.toNat_lt, UInt8.toNat_xor]
theorem bitN_at (p : List UInt8) (k t : Nat) (ht : t < 8) : bitN p (8 * k + t) = bitAt (p.getD k 0) t := by
  unfold bitN
  rw [show (8 * k + t) / 8 = k by omega, show (8 * k + t) % 8 = t by omega]
theorem com_byte (p q : List UInt8) (k : Nat) (h : agree (8 * k) p q) (he : p.getD k 0 = q.getD k 0) : agree (8 * (k + 1)) p q := fun t ht => by
  by_cases h1 : t < 8 * k
  · exact h t h1
  · rw [show t = 8 * k + (t - 8 * k) by omega, bitN_at _ _ _ (by omega), bitN_at _ _ _ (by omega), he]
theorem com_part (p q : List UInt8) (k : Nat) (hk : k < 32) (h : agree (8 * k) p q) (hn : p.getD k 0 ≠ q.getD k 0) : com p q = 8 * k + (8 - Lib.bitLen (p.getD k 0 ^^^ q.getD k 0).toNat) := by
  obtain ⟨l1, l2, l3, l4⟩ := lead_xor _ _ hn
  refine com_of (by omega) (fun t ht => ?_) fun _ => ?_
  · by_cases h1 : t < 8 * k
    · exact h t h1
    · rw [show t = 8 * k + (t - 8 * k) by omega, bitN_at _ _ _ (by omega), bitN_at _ _ _ (by omega)]
      exact l3 _ (by omega)
  · rw [bitN_at _ _ _ l1, bitN_at _ _ _ l1]; exact l4
set_option maxRecDepth 20000 in
theorem common_v (p q : List UInt8) (hp : p.length = 32) (hq : q.length = 32) : VC Try.prog 203 [.ba p, .ba q] [] (.v (.int .i64 (com p q))) := by
  refine mE Try.func203 ?_; intro N w0 a w hN hR H
  refine mW ?_; clear H; intro a w H
  refine mC H (fun hb => ?_) (fun hb => ?_)
  · have he : p = q := by simpa using hb
    subst he
    rw [com_self]
    refine mW ?_; clear H; intro a w H
    refine wp_ret ?_; exact mEnd [] [] [.tmp 4] [_] hN hR H
  · have hne : p ≠ q := by simpa using hb
    refine mW ?_; clear H; intro a w H
    refine v_loop (fun k : Nat => ⟨[(10, none, .v (.int .i64 (k : Int))), (4, none, .v (.int .i64 0)), (3, none, .ptr 1 []), (2, none, .ptr 0 [])], [(.ba 32, .ba p), (.ba 32, .ba q)], [], []⟩) (fun k => k ≤ 32 ∧ agree (8 * k) p q) (fun k => 32 - k) 0 ⟨Nat.zero_le _, fun t ht => by omega⟩ (H.to 2 0 ⟨Nat.le_trans hN (by decide), hR⟩ ⟨rfl, rfl, rfl, rfl, trivial⟩ rfl rfl rfl rfl rfl) ?_
    clear H
    rintro k a w ⟨hk, hag⟩ H
    refine mW ?_; clear H; intro a w H
    refine mC H (fun hb => ?_) (fun hb => ?_)
    · have hlt : k < 32 := by simp at hb; omega
      refine mW ?_; clear H; intro a w H
      refine mS ?_; refine mD 2 [] [] H ?_; clear H; intro gS H; refine mT ?_; clear H; intro a w H
      refine v_drawNil H ?_; clear H; intro H
      rw [xor8] at H
      have hlz := lz8_v (p.getD k 0 ^^^ q.getD k 0)
      have hc8 := (p.getD k 0 ^^^ q.getD k 0).toNat_lt
      refine mW ?_; clear H; intro a w H
      refine mC H (fun hb => ?_) (fun hb => ?_)
      · have hd : p.getD k 0 ≠ q.getD k 0 := fun e => by rw [e] at hb; simp at hb
        rw [com_part p q k hlt hag hd]
        have hl2 := (lead_xor _ _ hd).2.1
        refine mW ?_; clear H; intro a w H
        refine mCall [] [] (hlz) H ?_; clear H; intro a w H; try refine wpList_nil ?_
        refine mW ?_; clear H; intro a w H
        have e1 : (8 * (k : Int) + (8 - (Lib.bitLen (p.getD k 0 ^^^ q.getD k 0).toNat : Int))) = ((8 * k + (8 - Lib.bitLen (p.getD k 0 ^^^ q.getD k 0).toNat) : Nat) : Int) := by omega
        rw [e1] at H
        refine wp_ret ?_; exact mEnd [] [] [.tmp 4] [_] hN hR H
      · have hd : p.getD k 0 = q.getD k 0 := by
          refine UInt8.xor_eq_zero_iff.1 (UInt8.toNat_inj.1 ?_)
          simpa using hb
        refine mW ?_; clear H; intro a w H
        exact ⟨k + 1, ⟨hlt, com_byte p q k hag hd⟩, by omega, H.to 2 0 ⟨Nat.le_trans hN (by decide), hR⟩ ⟨rfl, rfl, rfl, rfl, trivial⟩ rfl rfl rfl rfl rfl⟩
    · have hge : k = 32 := by simp at hb; omega
      subst hge
      exact absurd (agree_eq hp hq hag) hne
end Go.Proofs.Ytigmpdhnhkdeiaa
/- Keys from a depth on: path.First, path.Last, path.Flip. -/
namespace Go.Proofs.Ytigmpdhnhkdeiaa
open Go Go.RowKit
/-- The first d bits of p; all others as said. -/
def fillL (p : List UInt8) (d : Nat) (b : Bool) : List UInt8 := bitsB 256 fun t => if t < d then bitN p t else b
theorem fillL_len (p : List UInt8) (d : Nat) (b : Bool) : (fillL p d b).length = 32 := bitsB_len _ _
theorem fillL_bit (p : List UInt8) (d : Nat) (b : Bool) (t : Nat) (ht : t < 256) : bitN (fillL p d b) t = if t < d then bitN p t else b := by
  unfold bitN fillL
  exact bitsB_bit 256 _ t ht
set_option maxRecDepth 100000 in
theorem b8_eta_ : ∀ x : Fin 256, b8 (bitAt (UInt8.ofNat x.val)) = UInt8.ofNat x.val := by decide +kernel
theorem b8_eta (x : UInt8) : b8 (bitAt x) = x := by
  have := b8_eta_ ⟨x.toNat, x.toNat_lt⟩
  simpa using this
theorem b8_const (b : Bool) : b8 (fun _ => b) = if b then 255 else 0 := by cases b <;> decide
set_option maxRecDepth 100000 in
theorem mixF_ : ∀ (k : Fin 8) (b : Bool) (x : Fin 256), UInt8.ofNat (bits .or .u8 (bits .andNot .u8 (x.val : Int) ((255 : Int) / 2 ^ k.val)) (bits .and .u8 (if b then 255 else 0) ((255 : Int) / 2 ^ k.val))).toNat = b8 fun j => if j < k.val then bitAt (UInt8.ofNat x.val) j else b := by decide +kernel
theorem mixF (k : Nat) (hk : k < 8) (b : Bool) (x : UInt8) : UInt8.ofNat (bits .or .u8 (bits .andNot .u8 (x.toNat : Int) ((255 : Int) / 2 ^ k)) (bits .and .u8 (if b then 255 else 0) ((255 : Int) / 2 ^ k))).toNat = b8 fun j => if j < k then bitAt x j else b := by
  have := mixF_ ⟨k, hk⟩ b ⟨x.toNat, x.toNat_lt⟩
  simpa using this
set_option maxRecDepth 100000 in
theorem mixR_ : ∀ (k : Fin 8) (b : Bool) (x : Fin 256), 0 ≤ bits .or .u8 (bits .andNot .u8 (x.val : Int) ((255 : Int) / 2 ^ k.val)) (bits .and .u8 (if b then 255 else 0) ((255 : Int) / 2 ^ k.val)) ∧ bits .or .u8 (bits .andNot .u8 (x.val : Int) ((255 : Int) / 2 ^ k.val)) (bits .and .u8 (if b then 255 else 0) ((255 : Int) / 2 ^ k.val)) ≤ 255 := by decide +kernel
theorem mixR (k : Nat) (hk : k < 8) (b : Bool) (x : UInt8) : 0 ≤ bits .or .u8 (bits .andNot .u8 (x.toNat : Int) ((255 : Int) / 2 ^ k)) (bits .and .u8 (if b then 255 else 0) ((255 : Int) / 2 ^ k)) ∧ bits .or .u8 (bits .andNot .u8 (x.toNat : Int) ((255 : Int) / 2 ^ k)) (bits .and .u8 (if b then 255 else 0) ((255 : Int) / 2 ^ k)) ≤ 255 := mixR_ ⟨k, hk⟩ b ⟨x.toNat, x.toNat_lt⟩
/-- A byte of it. -/
theorem fillL_get (p : List UInt8) (d : Nat) (b : Bool) (i : Nat) (hi : i < 32) : (fillL p d b).getD i 0 = if d ≤ 8 * i then (if b then 255 else 0) else if d < 8 * i + 8 then (b8 fun j => if j < d - 8 * i then bitAt (p.getD i 0) j else b) else p.getD i 0 := by
  unfold fillL
  rw [bitsB_get _ _ _ (by omega)]
  have hb : ∀ k, k < 8 → bitN p (8 * i + k) = bitAt (p.getD i 0) k := fun k hk => by unfold bitN; rw [show (8 * i + k) / 8 = i by omega, show (8 * i + k) % 8 = k by omega]
  by_cases h1 : d ≤ 8 * i
  · rw [if_pos h1, ← b8_const]
    exact b8_congr fun k hk => by rw [if_neg (by omega)]
  · rw [if_neg h1]
    by_cases h2 : d < 8 * i + 8
    · rw [if_pos h2]
      exact b8_congr fun k hk => by
        rw [hb k hk]
        by_cases h3 : 8 * i + k < d
        · rw [if_pos h3, if_pos (by omega)]
        · rw [if_neg h3, if_neg (by omega)]
    · rw [if_neg h2]
      conv => rhs; rw [← b8_eta (p.getD i 0)]
      exact b8_congr fun k hk => by rw [if_pos (by omega), hb k hk]
/-- How far it has come. -/
def fillK (p : List UInt8) (d : Nat) (b : Bool) (i : Nat) : List UInt8 := (fillL p d b).take i ++ p.drop i
theorem fillK_len (p : List UInt8) (hp : p.length = 32) (d : Nat) (b : Bool) (i : Nat) (hi : i ≤ 32) : (fillK p d b i).length = 32 := by
  unfold fillK; rw [List.length_append, List.length_take, List.length_drop, fillL_len]; omega
theorem fillK_get (p : List UInt8) (hp : p.length = 32) (d : Nat) (b : Bool) (i : Nat) (hi : i < 32) : (fillK p d b i).getD i 0 = p.getD i 0 := by
  unfold fillK
  rw [List.getD_eq_getElem?_getD, List.getElem?_append_right (by rw [List.length_take, fillL_len]; omega), List.length_take, fillL_len, show i - min i 32 = 0 by omega, List.getElem?_drop, List.getD_eq_getElem?_getD, Nat.add_zero]
theorem fillK_set (p : List UInt8) (hp : p.length = 32) (d : Nat) (b : Bool) (i : Nat) (hi : i < 32) (x : UInt8) (hx : x = (fillL p d b).getD i 0) : (fillK p d b i).set i x = fillK p d b (i + 1) := by
  unfold fillK
  have h1 : ((fillL p d b).take i).length = i := by rw [List.length_take, fillL_len]; omega
  rw [List.set_append_right _ _ (by omega), h1, Nat.sub_self, List.drop_eq_getElem_cons (show i < p.length by omega), List.set_cons_zero, List.take_succ_eq_append_getElem (by rw [fillL_len]; omega), List.append_assoc]
  rw [hx, List.getD_eq_getElem?_getD, List.getElem?_eq_getElem (by rw [fillL_len]; omega)]
  rfl
theorem fillK_stay (p : List UInt8) (hp : p.length = 32) (d : Nat) (b : Bool) (i : Nat) (hi : i < 32) (h : (fillL p d b).getD i 0 = p.getD i 0) : fillK p d b i = fillK p d b (i + 1) := by
  rw [← fillK_set p hp d b i hi _ rfl, h, ← fillK_get p hp d b i hi]
  have hl := fillK_len p hp d b i (by omega)
  rw [List.getD_eq_getElem?_getD, List.getElem?_eq_getElem (by omega), Option.getD_some, List.set_getElem_self]
theorem fillK_all (p : List UInt8) (hp : p.length = 32) (d : Nat) (b : Bool) : fillK p d b 32 = fillL p d b := by
  unfold fillK; rw [List.take_of_length_le (by rw [fillL_len]; omega), List.drop_eq_nil_of_le (by omega), List.append_nil]
set_option maxRecDepth 20000 in
set_option maxHeartbeats 2000000 in
theorem filled_v (p : List UInt8) (hp : p.length = 32) (d : Nat) (hd : d ≤ 256) (b : Bool) : VC Try.prog 250 [.ba p, .v (.int .i64 (d : Int)), .v (.int .u8 (if b then 255 else 0))] [] (.tup [.ba (fillL p d b), .v (.int .i64 0)]) := by
  refine mE Try.func250 ?_; intro N w0 a w hN hR H
  refine mW ?_; clear H; intro a w H
  refine mC H (fun hb => ?_) (fun hb => ?_)
  · exfalso
    rw [decide_eq_false (show ¬ (d : Int) < 0 by omega), decide_eq_false (show ¬ (256 : Int) < (d : Int) by omega)] at hb
    cases hb
  · clear hb
    refine mW ?_; clear H; intro a w H
    refine v_loop (fun i : Nat => ⟨[(18, none, .v (.int .i64 (i : Int))), (7, none, .v (.int .i64 0)), (6, none, .ptr 1 []), (3, none, .ptr 0 []), (1, none, .v (.int .i64 (d : Int))), (2, none, .v (.int .u8 (if b then 255 else 0)))], [(.ba 32, .ba (fillK p d b i)), (.ba 32, .ba (List.replicate 32 0))], [], []⟩) (fun i => i ≤ 32) (fun i => 32 - i) 0 (Nat.zero_le _) (H.to 2 0 ⟨Nat.le_trans hN (by decide), hR⟩ ⟨rfl, rfl, rfl, rfl, rfl, rfl, trivial⟩ rfl rfl rfl rfl rfl) ?_
    clear H
    intro i a w hi H
    have hkl := fillK_len p hp d b i hi
    refine mW ?_; clear H; intro a w H
    refine mC H (fun hb => ?_) (fun hb => ?_)
    · have hlt : i < 32 := by rw [decide_eq_true_eq] at hb; omega
      clear hb
      have hg := fillL_get p d b i hlt
      have hkg := fillK_get p hp d b i hlt
      refine mW ?_; clear H; intro a w H
      by_cases h1 : d ≤ 8 * i
      · rw [if_pos h1] at hg
        have hset := fillK_set p hp d b i hlt _ hg.symm
        have hwb : UInt8.ofNat (if b = true then (255 : Int) else 0).toNat = if b then 255 else 0 := by cases b <;> rfl
        refine mC H (fun hb => ?_) (fun hb => ?_)
        · clear hb
          refine mW ?_; clear H; intro a w H
          rw [hwb, hset] at H
          exact ⟨i + 1, by omega, by omega, H.to 2 0 ⟨Nat.le_trans hN (by decide), hR⟩ ⟨rfl, rfl, rfl, rfl, rfl, rfl, trivial⟩ rfl rfl rfl rfl rfl⟩
        · exfalso; rw [decide_eq_false_iff_not] at hb; omega
      · rw [if_neg h1] at hg
        refine mC H (fun hb => ?_) (fun hb => ?_)
        · exfalso; rw [decide_eq_true_eq] at hb; omega
        · clear hb
          refine mW ?_; clear H; intro a w H
          by_cases h2 : d < 8 * i + 8
          · rw [if_pos h2] at hg
            have hset := fillK_set p hp d b i hlt _ hg.symm
            have hk8 : d - 8 * i < 8 := by omega
            have e1 : ((d : Int) - 8 * (i : Int)).toNat = d - 8 * i := by omega
            have e2 : (if d - 8 * i ≤ 8 then d - 8 * i else 8) = d - 8 * i := if_pos (by omega)
            have hm := mixF (d - 8 * i) hk8 b (p.getD i 0)
            have hV := mixR (d - 8 * i) hk8 b (p.getD i 0)
            refine mC H (fun hb => ?_) (fun hb => ?_)
            · clear hb
              have hX := And.intro @e1 (And.intro @e2 (@hkg))
              refine mW ?_; clear H; intro a w H
              rw [hm, hset] at H
              exact ⟨i + 1, by omega, by omega, H.to 2 0 ⟨Nat.le_trans hN (by decide), hR⟩ ⟨rfl, rfl, rfl, rfl, rfl, rfl, trivial⟩ rfl rfl rfl rfl rfl⟩
            · exfalso; rw [decide_eq_false_iff_not] at hb; omega
          · rw [if_neg h2] at hg
            have hst := fillK_stay p hp d b i hlt hg
            refine mC H (fun hb => ?_) (fun hb => ?_)
            · exfalso; rw [decide_eq_true_eq] at hb; omega
            · clear hb
              refine mW ?_; clear H; intro a w H
              rw [hst] at H
              exact ⟨i + 1, by omega, by omega, H.to 2 0 ⟨Nat.le_trans hN (by decide), hR⟩ ⟨rfl, rfl, rfl, rfl, rfl, rfl, trivial⟩ rfl rfl rfl rfl rfl⟩
    · have hge : i = 32 := by simp at hb; omega
      subst hge
      rw [fillK_all p hp d b] at H
      have hfl := fillL_len p d b
      refine mW ?_; clear H; intro a w H
      refine wp_ret ?_; exact mEnd [] [] [.cell 6 52, .tmp 7] [_, _] hN hR H
theorem first_v (p : List UInt8) (hp : p.length = 32) (d : Nat) (hd : d ≤ 256) : VC Try.prog 209 [.ba p, .v (.int .i64 (d : Int))] [] (.tup [.ba (fillL p d false), .v (.int .i64 0)]) := by
  have h := filled_v p hp d hd false
  have hfl := fillL_len p d false
  refine mE Try.func209 ?_; intro N w0 a w hN hR H
  have hX := @hfl
  refine mW ?_; clear H; intro a w H
  refine mCall [] [] (h) H ?_; clear H; intro a w H; try refine wpList_nil ?_
  refine mW ?_; clear H; intro a w H
  refine wp_ret ?_; exact mEnd [] [] [.cell 4 52, .tmp 5] [_, _] hN hR H
theorem fill_agree {top : List UInt8} {d : Nat} (b : Bool) (hd : d ≤ 256) : agree d (fillL top d b) top := fun t ht => by rw [fillL_bit _ _ _ _ (by omega), if_pos ht]
end Go.Proofs.Ytigmpdhnhkdeiaa
/- path.Flip; span.right. -/
namespace Go.Proofs.Ytigmpdhnhkdeiaa
open Go Go.RowKit
end Go.Proofs.Ytigmpdhnhkdeiaa
/- A store: New, none, get, and what is told of a node. -/
namespace Go.Proofs.Ytigmpdhnhkdeiaa
open Go Go.RowKit
abbrev stoT : Ty := ti240.ty
abbrev stoB (γ δ n m room used : Nat) (es fs : List AV) : List (Ty × AV) := [(stoT, .st [.ptr 1 []]), (slbT, .st [.vw 2 γ n, .vw 3 δ m, .v (.int .i64 (room : Int)), .v (.int .i64 (used : Int))]), (.vc 372 sltT, .vc γ es), (.vc 3 .sc, .vc δ fs)]
abbrev Slb.sx (s : Slb) : List (Ty × AV) := stoB s.γ s.δ s.sl.length s.m s.room s.used (s.sl.map slA) (s.fs.map inA)
set_option maxRecDepth 20000 in
theorem stoNew_v (room : Nat) (h1 : 0 < room) (h2 : room ≤ 65536) : VX Try.prog 69 [] [] [] [.v (.int .i64 (room : Int))] (Slb.new room).sx [] [] (.tup [.ptr 0 [], errv 0]) := by
  have hn := slbNew_v room h1 h2
  generalize Slb.new room = s at *
  simp only [Slb.bx] at hn
  simp only [Slb.sx]
  refine mE Try.func69 ?_; intro N w0 a w hN hR H
  refine mW ?_; clear H; intro a w H
  refine mCall [] [] (hn) H ?_; clear H; intro a w H; try refine wpList_nil ?_
  refine mW ?_; clear H; intro a w H
  refine mC H (fun hb => ?_) (fun hb => ?_)
  · exact absurd hb (by decide)
  · clear hb
    refine mW ?_; clear H; intro a w H
    refine wp_ret ?_; exact mEnd [3, 0, 1, 2] [] [.tmp 2, .tmp 3] [_, _] hN hR H
theorem stoNone_v (γ δ n m room used : Nat) (es fs : List AV) :
    VX Try.prog 152 (stoB γ δ n m room used es fs) [] [] [.ptr 0 []] (stoB γ δ n m room used es fs) [] [] (.v (.bool false)) := by
  refine mE Try.func152 ?_; intro N w0 a w hN hR H
  refine mW ?_; clear H; intro a w H
  refine wp_ret ?_; exact mEnd [0, 1, 2, 3] [] [.tmp 2] [_] hN hR H
set_option maxRecDepth 20000 in
theorem stoGet_v (s : Slb) (hs : s.wf) (h : Int) : VX Try.prog 150 s.sx [] [] [.ptr 0 [], .v (.int .i64 h)] s.sx [] [] (.tup [(s.get_ h).av, .v (.bool (s.ok_ h))]) := by
  have hn := stoNone_v s.γ s.δ s.sl.length s.m s.room s.used (s.sl.map slA) (s.fs.map inA)
  have hg := slbGet_v s hs h
  have hx : (s.get_ h).wf := by
    unfold Slb.get_
    cases hat : s.at_ h with
    | some p => exact (Slb.at_pos hs hat).2.2
    | none => exact SN.zero_wf
  have he : decide ((if s.ok_ h then (0 : Int) else 7) = 0) = s.ok_ h := by cases s.ok_ h <;> rfl
  generalize s.get_ h = n at *
  generalize s.ok_ h = ok at *
  obtain ⟨x1, x2, x3⟩ := hx
  simp only [Slb.bx, SN.av] at hg
  simp only [Slb.sx, SN.av]
  generalize s.sl.map slA = es at *
  generalize s.fs.map inA = fs at *
  refine mE Try.func150 ?_; intro N w0 a w hN hR H
  have hX := And.intro @x1 (And.intro @x2 (And.intro @x3 (@he)))
  refine mW ?_; clear H; intro a w H
  refine mCall [0, 1, 2, 3] [] (hn) H ?_; clear H; intro a w H; try refine wpList_nil ?_
  refine mW ?_; clear H; intro a w H
  refine mC H (fun hb => ?_) (fun hb => ?_)
  · exact absurd hb (by decide)
  · clear hb
    refine mW ?_; clear H; intro a w H
    refine mCall [1, 2, 3] [] (hg) H ?_; clear H; intro a w H; try refine wpList_nil ?_
    refine mW ?_; clear H; intro a w H
    refine wp_ret ?_; exact mEnd [0, 1, 2, 3] [] [.cell 4 238, .tmp 5] [_, _] hN hR H
end Go.Proofs.Ytigmpdhnhkdeiaa
/- What a store tells of a node. -/
namespace Go.Proofs.Ytigmpdhnhkdeiaa
open Go Go.RowKit
theorem Slb.get_wf {s : Slb} (hs : s.wf) (h : Int) : (s.get_ h).wf := by
  unfold Slb.get_
  cases hat : s.at_ h with
  | some p => exact (Slb.at_pos hs hat).2.2
  | none => exact SN.zero_wf
/-- The digest of a handle. -/
def Slb.dig (s : Slb) (h : Int) : List UInt8 := if h = 0 then sum [0] else (s.get_ h).dg
theorem Slb.dig_len {s : Slb} (hs : s.wf) (h : Int) : (s.dig h).length = 32 := by
  unfold Slb.dig; split; exact sum_length _; exact (Slb.get_wf hs h).dg
set_option maxRecDepth 20000 in
theorem stoKind_v (s : Slb) (hs : s.wf) (h : Int) : VX Try.prog 78 s.sx [] [] [.ptr 0 [], .v (.int .i64 h)] s.sx [] [] (.v (B8 (s.get_ h).k)) := by
  have hg := stoGet_v s hs h
  obtain ⟨x1, x2, x3⟩ := Slb.get_wf hs h
  generalize s.get_ h = n at *
  simp only [Slb.sx, SN.av] at hg
  simp only [Slb.sx]
  refine mE Try.func78 ?_; intro N w0 a w hN hR H
  have hX := And.intro @x1 (And.intro @x2 (@x3))
  refine mW ?_; clear H; intro a w H
  refine mCall [0, 1, 2, 3] [] (hg) H ?_; clear H; intro a w H; try refine wpList_nil ?_
  refine mW ?_; clear H; intro a w H
  refine wp_ret ?_; exact mEnd [0, 1, 2, 3] [] [.tmp 4] [_] hN hR H
set_option maxRecDepth 20000 in
theorem stoDepth_v (s : Slb) (hs : s.wf) (h : Int) : VX Try.prog 79 s.sx [] [] [.ptr 0 [], .v (.int .i64 h)] s.sx [] [] (.v (.int .i64 (if s.ok_ h then (s.get_ h).d else -1))) := by
  have hg := stoGet_v s hs h
  obtain ⟨x1, x2, x3⟩ := Slb.get_wf hs h
  generalize s.get_ h = n at *
  simp only [Slb.sx, SN.av] at hg
  simp only [Slb.sx]
  generalize s.ok_ h = ok at *
  refine mE Try.func79 ?_; intro N w0 a w hN hR H
  have hX := And.intro @x1 (And.intro @x2 (@x3))
  refine mW ?_; clear H; intro a w H
  refine mCall [0, 1, 2, 3] [] (hg) H ?_; clear H; intro a w H; try refine wpList_nil ?_
  refine mW ?_; clear H; intro a w H
  refine mC H (fun hb => ?_) (fun hb => ?_)
  · have ho : ok = false := by simpa using hb
    subst ho
    rw [if_neg (by decide)]
    refine mW ?_; clear H; intro a w H
    refine wp_ret ?_; exact mEnd [0, 1, 2, 3] [] [.tmp 4] [_] hN hR H
  · have ho : ok = true := by simpa using hb
    subst ho
    rw [if_pos rfl]
    refine mW ?_; clear H; intro a w H
    refine wp_ret ?_; exact mEnd [0, 1, 2, 3] [] [.tmp 4] [_] hN hR H
set_option maxRecDepth 20000 in
theorem stoKey_v (s : Slb) (hs : s.wf) (h : Int) : VX Try.prog 142 s.sx [] [] [.ptr 0 [], .v (.int .i64 h)] s.sx [] [] (.ba (s.get_ h).key) := by
  have hg := stoGet_v s hs h
  obtain ⟨x1, x2, x3⟩ := Slb.get_wf hs h
  generalize s.get_ h = n at *
  simp only [Slb.sx, SN.av] at hg
  simp only [Slb.sx]
  refine mE Try.func142 ?_; intro N w0 a w hN hR H
  have hX := And.intro @x1 (And.intro @x2 (@x3))
  refine mW ?_; clear H; intro a w H
  refine mCall [0, 1, 2, 3] [] (hg) H ?_; clear H; intro a w H; try refine wpList_nil ?_
  refine mW ?_; clear H; intro a w H
  refine wp_ret ?_; exact mEnd [0, 1, 2, 3] [] [.cell 4 52] [_] hN hR H
set_option maxRecDepth 20000 in
theorem stoValue_v (s : Slb) (hs : s.wf) (h : Int) (hl : (s.get_ h).val.length ≤ 100000) : VX Try.prog 143 s.sx [] [] [.ptr 0 [], .v (.int .i64 h)] s.sx [] [(5, (s.get_ h).val.length)] (.bs (s.get_ h).val (some 0)) := by
  have hg := stoGet_v s hs h
  obtain ⟨x1, x2, x3⟩ := Slb.get_wf hs h
  generalize s.get_ h = n at *
  simp only [Slb.sx, SN.av] at hg
  simp only [Slb.sx]
  refine mE Try.func143 ?_; intro N w0 a w hN hR H
  have hX := And.intro @x1 (And.intro @x2 (@x3))
  refine mW ?_; clear H; intro a w H
  refine mCall [0, 1, 2, 3] [] (hg) H ?_; clear H; intro a w H; try refine wpList_nil ?_
  refine mW ?_; clear H; intro a w H
  refine wp_ret ?_; exact mEnd [0, 1, 2, 3] [0] [.tmp 4] [_] hN hR H
set_option maxRecDepth 20000 in
theorem stoSides_v (s : Slb) (hs : s.wf) (h : Int) : VX Try.prog 80 s.sx [] [] [.ptr 0 [], .v (.int .i64 h)] s.sx [] [] (.tup [.v (.int .i64 (s.get_ h).l), .v (.int .i64 (s.get_ h).r)]) := by
  have hg := stoGet_v s hs h
  obtain ⟨x1, x2, x3⟩ := Slb.get_wf hs h
  generalize s.get_ h = n at *
  simp only [Slb.sx, SN.av] at hg
  simp only [Slb.sx]
  refine mE Try.func80 ?_; intro N w0 a w hN hR H
  have hX := And.intro @x1 (And.intro @x2 (@x3))
  refine mW ?_; clear H; intro a w H
  refine mCall [0, 1, 2, 3] [] (hg) H ?_; clear H; intro a w H; try refine wpList_nil ?_
  refine mW ?_; clear H; intro a w H
  refine mS ?_; refine mD 0 [] [] H ?_; clear H; intro gS H
  refine mT ?_; clear H; intro a w H
  refine v_drawNil H ?_; clear H; intro H
  refine mW ?_; clear H; intro a w H
  refine wp_ret ?_; exact mEnd [0, 1, 2, 3] [] [.tmp 4, .tmp 5] [_, _] hN hR H
set_option maxRecDepth 20000 in
theorem stoDigest_v (s : Slb) (hs : s.wf) (h : Int) : VX Try.prog 145 s.sx [] [] [.ptr 0 [], .v (.int .i64 h)] s.sx [] [] (.ba (s.dig h)) := by
  have hn := stoNone_v s.γ s.δ s.sl.length s.m s.room s.used (s.sl.map slA) (s.fs.map inA)
  have hg := stoGet_v s hs h
  have hem := empty_v
  have hs0 : (sum [0]).length = 32 := sum_length _
  obtain ⟨x1, x2, x3⟩ := Slb.get_wf hs h
  unfold Slb.dig
  generalize s.get_ h = n at *
  simp only [Slb.sx, SN.av] at hg
  simp only [Slb.sx]
  generalize s.sl.map slA = es at *
  generalize s.fs.map inA = fs at *
  refine mE Try.func145 ?_; intro N w0 a w hN hR H
  have hX := And.intro @x1 (And.intro @x2 (And.intro @x3 (@hs0)))
  refine mW ?_; clear H; intro a w H
  refine mCall [0, 1, 2, 3] [] (hn) H ?_; clear H; intro a w H; try refine wpList_nil ?_
  refine mW ?_; clear H; intro a w H
  refine mC H (fun hb => ?_) (fun hb => ?_)
  · exact absurd hb (by decide)
  · clear hb
    refine mW ?_; clear H; intro a w H
    refine mC H (fun hb => ?_) (fun hb => ?_)
    · rw [decide_eq_true_eq] at hb
      rw [if_pos hb]
      refine mW ?_; clear H; intro a w H
      refine mCall [] [] (hem) H ?_; clear H; intro a w H; try refine wpList_nil ?_
      refine mW ?_; clear H; intro a w H
      refine wp_ret ?_; exact mEnd [0, 1, 2, 3] [] [.cell 4 50] [_] hN hR H
    · rw [decide_eq_false_iff_not] at hb
      rw [if_neg hb]
      refine mW ?_; clear H; intro a w H
      refine mCall [0, 1, 2, 3] [] (hg) H ?_; clear H; intro a w H; try refine wpList_nil ?_
      refine mW ?_; clear H; intro a w H
      refine wp_ret ?_; exact mEnd [0, 1, 2, 3] [] [.cell 4 50] [_] hN hR H
theorem kz2 (k c : UInt8) (hc : (c.toNat : Int) = (c.toNat : Int)) : decide ((k.toNat : Int) = (c.toNat : Int)) = decide (k = c) := by
  rw [decide_eq_decide]
  exact ⟨fun h => UInt8.toNat_inj.1 (by omega), fun h => by rw [h]⟩
/-- A node as it is told. -/
def Slb.nd (s : Slb) (h : Int) : Nd :=
  if (s.get_ h).k = 1 then ⟨1, (s.get_ h).key, (s.get_ h).hs, z32, z32⟩ else if (s.get_ h).k = 2 then ⟨2, z32, z32, s.dig (s.get_ h).l, s.dig (s.get_ h).r⟩ else Nd.zero
set_option maxRecDepth 20000 in
theorem stoNode_v (s : Slb) (hs : s.wf) (h : Int) : VX Try.prog 146 s.sx [] [] [.ptr 0 [], .v (.int .i64 h)] s.sx [] [] (s.nd h).av := by
  have hg := stoGet_v s hs h
  obtain ⟨x1, x2, x3⟩ := Slb.get_wf hs h
  have d1 := stoDigest_v s hs (s.get_ h).l
  have d2 := stoDigest_v s hs (s.get_ h).r
  have l1 := Slb.dig_len hs (s.get_ h).l
  have l2 := Slb.dig_len hs (s.get_ h).r
  unfold Slb.nd
  generalize s.get_ h = n at *
  generalize s.dig n.l = da at *
  generalize s.dig n.r = db at *
  simp only [Slb.sx, SN.av] at hg
  simp only [Slb.sx] at d1 d2 ⊢
  have k1 : decide ((n.k.toNat : Int) = 1) = decide (n.k = 1) := kz2 n.k 1 rfl
  have k2 : decide ((n.k.toNat : Int) = 2) = decide (n.k = 2) := kz2 n.k 2 rfl
  have hz2 : (List.replicate 32 (0 : UInt8)).length = 32 := List.length_replicate
  generalize s.sl.map slA = es at *
  generalize s.fs.map inA = fs at *
  refine mE Try.func146 ?_; intro N w0 a w hN hR H
  have hX := And.intro @x1 (And.intro @x2 (And.intro @x3 (And.intro @l1 (And.intro @l2 (@hz2)))))
  refine mW ?_; clear H; intro a w H
  refine mCall [0, 1, 2, 3] [] (hg) H ?_; clear H; intro a w H; try refine wpList_nil ?_
  refine mW ?_; clear H; intro a w H
  simp only [k1] at H
  refine mC H (fun hb => ?_) (fun hb => ?_)
  · rw [decide_eq_true_eq] at hb
    rw [if_pos hb]
    simp only [Nd.av, z32]
    refine mW ?_; clear H; intro a w H
    refine wp_ret ?_; exact mEnd [0, 1, 2, 3] [] [.cell 4 66] [_] hN hR H
  · rw [decide_eq_false_iff_not] at hb
    rw [if_neg hb]
    clear hb
    refine mW ?_; clear H; intro a w H
    simp only [k2] at H
    refine mC H (fun hb => ?_) (fun hb => ?_)
    · rw [decide_eq_true_eq] at hb
      rw [if_pos hb]
      simp only [Nd.av, z32]
      refine mW ?_; clear H; intro a w H
      replace H := v_ref H 5 5 (Nat.le_trans hN (Nat.le_of_ble_eq_true rfl)) rfl rfl rfl
      simp only [nilT, strip, List.map_cons, List.map_nil, reduceIte, Nat.reduceEqDiff] at H
      refine mS ?_; refine mD 0 [3, 7, 9] [4, 5, 6] H ?_; clear H; intro gS H
      refine mT ?_; clear H; intro a w H
      refine mCallT [0, 1, 2, 3] [] (d1) H ?_; clear H; intro a w H
      refine mT ?_; clear H; intro a w H
      refine mCallT [0, 1, 2, 3] [] (d2) H ?_; clear H; intro a w H
      refine mT ?_; clear H; intro a w H
      refine v_drawNil H ?_; clear H; intro H
      refine mW ?_; clear H; intro a w H
      refine wp_ret ?_; exact mEnd [0, 1, 2, 3] [] [.cell 4 66] [_] hN hR H
    · rw [decide_eq_false_iff_not] at hb
      rw [if_neg hb]
      simp only [Nd.av, Nd.zero, z32]
      refine mW ?_; clear H; intro a w H
      refine wp_ret ?_; exact mEnd [0, 1, 2, 3] [] [.cell 4 66] [_] hN hR H
end Go.Proofs.Ytigmpdhnhkdeiaa
/- Keys as ways down: the document's functions. -/
namespace Go.Proofs.Ytigmpdhnhkdeiaa
open Go Go.RowKit
theorem half_bit (c : UInt8) (m : Nat) (hm : m < 8) : c.toNat / 2 ^ (7 - m) % 2 = if bitAt c m then 1 else 0 := by
  rw [bitAt_test c m hm, Nat.testBit_eq_decide_div_mod_eq]
  have := Nat.mod_two_eq_zero_or_one (c.toNat / 2 ^ (7 - m))
  rcases this with h | h <;> rw [h] <;> rfl
set_option maxRecDepth 20000 in
theorem bitR_v (p : List UInt8) (hp : p.length = 32) (d : Int) : VC Try.prog 127 [.ba p, .v (.int .i64 d)] [] (.v (.int .i64 (pbit p d))) := by
  refine mE Try.func127 ?_; intro N w0 a w hN hR H
  refine mW ?_; clear H; intro a w H
  by_cases h : 0 ≤ d ∧ d < 256
  · have e8 := e8w d h.1
    skip
    refine mC H (fun hb => ?_) (fun hb => ?_)
    · exfalso; simp at hb; omega
    · obtain ⟨c, hc⟩ : ∃ c, c = p.getD (d.toNat / 8) 0 := ⟨_, rfl⟩
      have hc8 := c.toNat_lt
      have hX := And.intro @e8 (Eq.symm (hc))
      have hY := @e8
      refine mW ?_; clear H; intro a w H
      refine v_loop (fun k : Nat => ⟨[(6, none, .v (.int .i64 (k : Int))), (5, none, .v (.int .i64 ((c.toNat / 2 ^ k : Nat) : Int))), (1, none, .v (.int .i64 d))], [(.ba 32, .ba p)], [], []⟩) (fun k => k ≤ 7 - d.toNat % 8) (fun k => 8 - k) 0 (Nat.zero_le _) (H.to 1 0 ⟨Nat.le_trans hN (by decide), hR⟩ ⟨rfl, by rw [Nat.pow_zero, Nat.div_one]; rfl, rfl, trivial⟩ rfl rfl rfl rfl rfl) ?_
      clear H
      intro k a w hk H
      have hlt2 : c.toNat / 2 ^ k < 256 := Nat.lt_of_le_of_lt (Nat.div_le_self _ _) hc8
      obtain ⟨v, hv⟩ : ∃ v, v = c.toNat / 2 ^ k := ⟨_, rfl⟩
      rw [← hv] at H hlt2
      have hv' : PLift (v = c.toNat / 2 ^ k) := ⟨hv⟩
      clear hv
      clear hX
      clear hY
      refine mW ?_; clear H; intro a w H
      refine mC H (fun hb => ?_) (fun hb => ?_)
      · have hlt : k < 7 - d.toNat % 8 := by simp at hb; omega
        refine mW ?_; clear H; intro a w H
        have e2 : (v : Int) / 2 = ((c.toNat / 2 ^ (k + 1) : Nat) : Int) := by
          have hv : v = c.toNat / 2 ^ k := hv'.down
          rw [Nat.pow_succ, ← Nat.div_div_eq_div_mul, ← hv]; omega
        rw [e2] at H
        exact ⟨k + 1, hlt, by omega, H.to 1 0 ⟨Nat.le_trans hN (by decide), hR⟩ ⟨rfl, rfl, rfl, trivial⟩ rfl rfl rfl rfl rfl⟩
      · have hge : k = 7 - d.toNat % 8 := by simp at hb; omega
        subst hge
        have hb2 := half_bit c (d.toNat % 8) (by omega)
        have hv : v = c.toNat / 2 ^ (7 - d.toNat % 8) := hv'.down
        rw [← hv] at hb2
        clear hv
        have e3 : pbit p d = ((v % 2 : Nat) : Int) := by
          rw [pbit, if_pos h, hb2, hc]; unfold bitN; split <;> rfl
        rw [e3]
        refine mW ?_; clear H; intro a w H
        refine wp_ret ?_; exact mEnd [] [] [.tmp 4] [_] hN hR H
  · rw [pbit, if_neg h]
    refine mC H (fun hb => ?_) (fun hb => ?_)
    · refine mW ?_; clear H; intro a w H
      refine wp_ret ?_; exact mEnd [] [] [.tmp 4] [_] hN hR H
    · exfalso; simp at hb; omega
end Go.Proofs.Ytigmpdhnhkdeiaa
/- Digests of the empty place, of leaves, of inner nodes: the document's. -/
namespace Go.Proofs.Ytigmpdhnhkdeiaa
open Go Go.RowKit
theorem ofHR_v (t : UInt8) (ls : List (List UInt8)) (hb : ls.flatten.length ≤ 34359737000) (hl : ls.length ≤ 34359737000) : VC Try.prog 181 [.v (B8 t), .sl .sc (bss ls) none] [] (.ba (sum (t :: ls.flatten))) := by
  have h1 := textR_v t ls (by omega) (by omega)
  have h2 := sumR_v (t :: ls.flatten) (by simp only [List.length_cons]; omega)
  have hsl := sum_length (t :: ls.flatten)
  refine mE Try.func181 ?_; intro N w0 a w hN hR H
  refine mW ?_; clear H; intro a w H
  refine mCall [] [] (h1) H ?_; clear H; intro a w H; try refine wpList_nil ?_
  refine mW ?_; clear H; intro a w H
  refine mCall [] [] (h2) H ?_; clear H; intro a w H; try refine wpList_nil ?_
  refine mW ?_; clear H; intro a w H
  refine wp_ret ?_; exact mEnd [] [] [.cell 4 49] [_] hN hR H
theorem emptyR_v : VC Try.prog 173 [] [] (.ba (sum [0])) := by
  have hsl := sum_length [0]
  refine mE Try.func173 ?_; intro N w0 a w hN hR H
  refine mW ?_; clear H; intro a w H
  refine mCall [] [] (ofHR_v 0 [] (by simp) (by simp)) H ?_; clear H; intro a w H; try refine wpList_nil ?_
  refine mW ?_; clear H; intro a w H
  refine wp_ret ?_; exact mEnd [] [] [.cell 0 49] [_] hN hR H
theorem leafHR_v (k v : List UInt8) (hk : k.length = 32) (hv : v.length = 32) : VC Try.prog 175 [.ba k, .ba v] [] (.ba (leafH k v)) := by
  have h1 := leafR_v k v hk hv
  have h2 := sumR_v (1 :: (k ++ v)) (by simp; omega)
  have hsl := sum_length (1 :: (k ++ v))
  have hl : (1 :: (k ++ v)).length = 65 := by simp; omega
  unfold leafH
  refine mE Try.func175 ?_; intro N w0 a w hN hR H
  refine mW ?_; clear H; intro a w H
  refine mCall [] [] (h1) H ?_; clear H; intro a w H; try refine wpList_nil ?_
  refine mW ?_; clear H; intro a w H
  refine mCall [] [] (h2) H ?_; clear H; intro a w H; try refine wpList_nil ?_
  refine mW ?_; clear H; intro a w H
  refine wp_ret ?_; exact mEnd [] [] [.cell 4 49] [_] hN hR H
theorem innerHR_v (k v : List UInt8) (hk : k.length = 32) (hv : v.length = 32) : VC Try.prog 128 [.ba k, .ba v] [] (.ba (innerH k v)) := by
  have h1 := innerR_v k v hk hv
  have h2 := sumR_v (2 :: (k ++ v)) (by simp; omega)
  have hsl := sum_length (2 :: (k ++ v))
  unfold innerH
  refine mE Try.func128 ?_; intro N w0 a w hN hR H
  refine mW ?_; clear H; intro a w H
  refine mCall [] [] (h1) H ?_; clear H; intro a w H; try refine wpList_nil ?_
  refine mW ?_; clear H; intro a w H
  refine mCall [] [] (h2) H ?_; clear H; intro a w H; try refine wpList_nil ?_
  refine mW ?_; clear H; intro a w H
  refine wp_ret ?_; exact mEnd [] [] [.cell 4 49] [_] hN hR H
end Go.Proofs.Ytigmpdhnhkdeiaa
/- Values seen as others: a nil slice inside a box as a row that is none yet; an empty window as no bytes. -/
namespace Go.Proofs.Ytigmpdhnhkdeiaa
open Go Go.RowKit
section
variable {P : Program} {τ : Tab} {w0 w w' : World} {N : Gh} {g g1 g2 : Gh} {st st' : St} {nt : Nat} {a : Act}
theorem RC.sc_slice {T : Ty} {A : Option Addr} {n c : Nat} {cs : List Value} (h : RC g T (.v (.slice A n c)) cs) : T = .sc ∧ cs = [.slice A n c] := by
  cases h with
  | v h => exact ⟨rfl, rfl⟩
theorem RC.nilK {y : AV} (hy : RC g .sc y [.slice none 0 0]) : ∀ (k : Nat) {T : Ty} {fs : List AV} {cs : List Value}, RC g T (.st fs) cs → fs[k]? = some (.v (.slice none 0 0)) → RC g T (.st (fs.set k y)) cs
  | _, _, [], _, h, hk => by simp at hk
  | 0, _, x :: fs, _, h, hk => by
    simp only [List.getElem?_cons_zero, Option.some.injEq] at hk
    subst hk
    cases h with
    | cn h hs =>
      obtain ⟨rfl, rfl⟩ := h.sc_slice
      exact .cn hy hs
  | k + 1, _, x :: fs, _, h, hk => by
    cases h with
    | cn h hs => exact .cn h (RC.nilK hy k hs (by simpa using hk))
/-- The same, of other elements. -/
theorem v_nilX (hτ : τ.ok P) (H : Rel P w0 N nt st a w) (i k e : Nat) {j : TI} (T' : Ty) {T : Ty} {fs : List AV} (hj : Tab.get e τ = some j) (hs : 0 < j.ty.size) (hb : st.bx[i]? = some (T, .st fs)) (hd : fs[k]? = some (.v (.slice none 0 0))) :
    Rel P w0 N nt ⟨st.t, st.bx.set i (T, .st (fs.set k (.sl T' [] (some st.rw.length)))), st.fz, st.rw ++ [(e, 0)]⟩ a w := by
  obtain ⟨g, HI, hF⟩ := H
  have hok := Tab.get_ok hτ hj
  obtain ⟨g1, l1, I1, h1⟩ := HI.rowNil (nilRow hok hs w) rfl rfl ⟨hok.cells.symm, rfl⟩
  obtain ⟨x, hx, rfl, hr⟩ := I1.br.at_ i T _ hb
  obtain ⟨hxo, hxm, hr⟩ := hr.rc_of (fun _ _ e => by cases e) (fun _ _ e => by cases e) (fun _ _ e => by cases e)
  have hy := (RC.sl (g := g1) (T := T') (es := []) (tok := some st.rw.length) (A := none) (c := 0) (by simp) (by simp [maxLen]) (fun _ => []) (.inl rfl) (fun k hk => absurd hk (by simp)) fun i hi => by injection hi with hi; subst hi; exact ⟨_, h1, by simp, fun _ => ⟨rfl, rfl⟩⟩)
  exact ⟨g1, I1.re hx (.pl (RC.nilK hy k hr hd) hxo hxm), ⟨(hF.mono l1.1).sz, hF.df, (hF.mono l1.1).t, hF.u⟩⟩
end
end Go.Proofs.Ytigmpdhnhkdeiaa
/- Proofs as bytes: what may be, how it is told. -/
namespace Go.Proofs.Ytigmpdhnhkdeiaa
open Go Go.RowKit
structure Pf where
  s : List (List UInt8)
  e : Nd
  deriving DecidableEq
def bas (ls : List (List UInt8)) : List AV := ls.map .ba
theorem bas_len (ls : List (List UInt8)) : (bas ls).length = ls.length := by simp [bas]
theorem bas_get (ls : List (List UInt8)) (k : Nat) (hk : k < ls.length) : (bas ls).getD k .any = .ba ls[k] := by simp [bas, List.getD, hk]
structure Pf.wf (p : Pf) : Prop where
  s : ∀ h ∈ p.s, h.length = 32
  e : p.e.wf
def Pf.av (p : Pf) : AV := .st [.sl (.ba 32) (bas p.s) none, p.e.av]
def Pf.chk (p : Pf) : Int := if 256 < p.s.length then 4 else if p.e.ok ∧ p.e.k ≠ 2 then 0 else 2
/-- The digest of nothing. -/
def E0 : List UInt8 := sum [0]
def hidesB (s : List (List UInt8)) (t : Nat) : Bool := match s[t]? with | some h => h != E0 | none => false
def Pf.bits (p : Pf) : List UInt8 := bitsB p.s.length (hidesB p.s)
def hashes (s : List (List UInt8)) : List UInt8 := (s.filter (· != E0)).flatten
def Pf.text (p : Pf) : List UInt8 := [UInt8.ofNat (p.s.length / 256), UInt8.ofNat p.s.length] ++ (p.bits ++ (hashes p.s ++ p.e.text))
theorem hashes_len : ∀ (s : List (List UInt8)), (∀ h ∈ s, h.length = 32) → (hashes s).length ≤ 32 * s.length
  | [], _ => by simp [hashes]
  | h :: s, hs => by
    have ih := hashes_len s fun x hx => hs x (List.mem_cons_of_mem _ hx)
    have h1 := hs h List.mem_cons_self
    unfold hashes at ih ⊢
    rw [List.filter_cons]
    split
    · simp only [List.flatten_cons, List.length_append, List.length_cons]; omega
    · simp only [List.length_cons]; omega
end Go.Proofs.Ytigmpdhnhkdeiaa
/- Proofs as bytes: how they are read. -/
namespace Go.Proofs.Ytigmpdhnhkdeiaa
open Go Go.RowKit
/-- The sides that marks and bytes say, what is left, and whether bytes were lacking. -/
def runS : List Bool → List UInt8 → List (List UInt8) × List UInt8 × Bool
  | [], r => ([], r, false)
  | m :: ms, r => if m = true ∧ r.length < 32 then ([E0], r, true) else ((if m then r.take 32 else E0) :: (runS ms (if m then r.drop 32 else r)).1, (runS ms (if m then r.drop 32 else r)).2)
def marksOf (bits : List UInt8) (n : Nat) : List Bool := (List.range n).map fun i => bitAt (bits.getD (i / 8) 0) (i % 8)
def rdQ (l : List UInt8) : Pf × Bool :=
  if l.length < 2 then (⟨[], .zero⟩, false) else
  if 256 < num 0 (l.take 2) then (⟨[], .zero⟩, false) else
  if (l.drop 2).length < (num 0 (l.take 2) + 7) / 8 then (⟨[], .zero⟩, false) else
  let x := runS (marksOf ((l.drop 2).take ((num 0 (l.take 2) + 7) / 8)) (num 0 (l.take 2))) ((l.drop 2).drop ((num 0 (l.take 2) + 7) / 8))
  if x.2.2 then (⟨x.1, .zero⟩, false) else (⟨x.1, dec x.2.1⟩, decide (decOk x.2.1))
/-- Where the reading stands. -/
structure At (ms : List Bool) (l : List UInt8) (i : Nat × List (List UInt8) × List UInt8 × Bool) : Prop where
  k : i.1 ≤ ms.length
  len : i.2.1.length = i.1
  lr : i.2.2.1.length ≤ l.length
  ok : i.2.2.2 = false → runS ms l = (i.2.1 ++ (runS (ms.drop i.1) i.2.2.1).1, (runS (ms.drop i.1) i.2.2.1).2)
  no : i.2.2.2 = true → runS ms l = (i.2.1, i.2.2.1, true)
end Go.Proofs.Ytigmpdhnhkdeiaa
/- Proofs as bytes: read, and told again. -/
namespace Go.Proofs.Ytigmpdhnhkdeiaa
open Go Go.RowKit
def Pf.zero : Pf := ⟨[], .zero⟩
def pOk (l : List UInt8) : Prop := (rdQ l).2 = true ∧ (rdQ l).1.chk = 0 ∧ (rdQ l).1.text = l
instance (l : List UInt8) : Decidable (pOk l) := inferInstanceAs (Decidable (_ ∧ _))
end Go.Proofs.Ytigmpdhnhkdeiaa
/- The digest at the top of a way: node.Up, and the document's. -/
namespace Go.Proofs.Ytigmpdhnhkdeiaa
open Go Go.RowKit
end Go.Proofs.Ytigmpdhnhkdeiaa
/- Proofs as bytes: the document's. -/
namespace Go.Proofs.Ytigmpdhnhkdeiaa
open Go Go.RowKit
end Go.Proofs.Ytigmpdhnhkdeiaa
/- A region at a function's end in which the named results are loaded and stored again: nothing changes. -/
namespace Go.Proofs.Ytigmpdhnhkdeiaa
open Go Go.RowKit
section
variable {P : Program} {τ : Tab} {w0 w : World} {N : Gh} {st : St} {nt : Nat} {a : Act}
end
end Go.Proofs.Ytigmpdhnhkdeiaa
/- What bytes say to whoever knows the root: verify, and the document's. -/
namespace Go.Proofs.Ytigmpdhnhkdeiaa
open Go Go.RowKit
def valH (v : List UInt8) : List UInt8 := sum (3 :: v)
theorem valH_len (v : List UInt8) : (valH v).length = 32 := sum_length _
theorem value_v (v : List UInt8) (hv : v.length ≤ 34359730000) : VC Try.prog 57 [.bs v none] [] (.ba (valH v)) := by
  have h := of_v 3 [v] (by simp; omega) (by simp)
  have e : [v].flatten = v := by simp
  rw [e] at h
  have hsl := sum_length (3 :: v)
  unfold valH
  refine mE Try.func57 ?_; intro N w0 a w hN hR H
  refine mW ?_; clear H; intro a w H
  refine mCall [] [] (h) H ?_; clear H; intro a w H; try refine wpList_nil ?_
  refine mW ?_; clear H; intro a w H
  refine wp_ret ?_; exact mEnd [] [] [.cell 2 50] [_] hN hR H
theorem valueR_v (v : List UInt8) (hv : v.length ≤ 34359730000) : VC Try.prog 117 [.bs v none] [] (.ba (valH v)) := by
  have h := ofHR_v 3 [v] (by simp; omega) (by simp)
  have e : [v].flatten = v := by simp
  rw [e] at h
  have hsl := sum_length (3 :: v)
  unfold valH
  refine mE Try.func117 ?_; intro N w0 a w hN hR H
  refine mW ?_; clear H; intro a w H
  refine mCall [] [] (h) H ?_; clear H; intro a w H; try refine wpList_nil ?_
  refine mW ?_; clear H; intro a w H
  refine wp_ret ?_; exact mEnd [] [] [.cell 2 49] [_] hN hR H
end Go.Proofs.Ytigmpdhnhkdeiaa
/- A store: Root, callers, Leaf. -/
namespace Go.Proofs.Ytigmpdhnhkdeiaa
open Go Go.RowKit
def Slb.rootE (s : Slb) (h : Int) : Int := if h = 0 then 0 else if s.ok_ h = false then 7 else if (s.get_ h).k = 2 ∧ (s.get_ h).d ≠ 0 then 2 else 0
set_option maxRecDepth 20000 in
theorem stoRoot_v (s : Slb) (hs : s.wf) (h : Int) : VX Try.prog 82 s.sx [] [] [.ptr 0 [], .v (.int .i64 h)] s.sx [] [] (errv (s.rootE h)) := by
  have hn := stoNone_v s.γ s.δ s.sl.length s.m s.room s.used (s.sl.map slA) (s.fs.map inA)
  have hg := stoGet_v s hs h
  obtain ⟨x1, x2, x3⟩ := Slb.get_wf hs h
  unfold Slb.rootE
  generalize s.get_ h = n at *
  generalize s.ok_ h = ok at *
  have k2 : decide ((n.k.toNat : Int) = 2) = decide (n.k = 2) := kz2 n.k 2 rfl
  simp only [Slb.sx, SN.av] at hg
  simp only [Slb.sx]
  generalize s.sl.map slA = es at *
  generalize s.fs.map inA = fs at *
  refine mE Try.func82 ?_; intro N w0 a w hN hR H
  have hX := And.intro @x1 (And.intro @x2 (@x3))
  refine mW ?_; clear H; intro a w H
  refine mCall [0, 1, 2, 3] [] (hn) H ?_; clear H; intro a w H; try refine wpList_nil ?_
  refine mW ?_; clear H; intro a w H
  refine mC H (fun hb => ?_) (fun hb => ?_)
  · exact absurd hb (by decide)
  · clear hb
    refine mW ?_; clear H; intro a w H
    refine mC H (fun hb => ?_) (fun hb => ?_)
    · rw [decide_eq_true_eq] at hb
      rw [if_pos hb]
      refine mW ?_; clear H; intro a w H
      refine wp_ret ?_; exact mEnd [0, 1, 2, 3] [] [.tmp 4] [_] hN hR H
    · rw [decide_eq_false_iff_not] at hb
      rw [if_neg hb]
      clear hb
      refine mW ?_; clear H; intro a w H
      refine mCall [0, 1, 2, 3] [] (hg) H ?_; clear H; intro a w H; try refine wpList_nil ?_
      refine mW ?_; clear H; intro a w H
      refine mC H (fun hb => ?_) (fun hb => ?_)
      · have ho : ok = false := by simpa using hb
        rw [if_pos ho]
        refine mW ?_; clear H; intro a w H
        refine wp_ret ?_; exact mEnd [0, 1, 2, 3] [] [.tmp 4] [_] hN hR H
      · have ho : ok = true := by simpa using hb
        rw [if_neg (by rw [ho]; decide)]
        clear hb
        refine mW ?_; clear H; intro a w H
        simp only [k2] at H
        refine mC H (fun hb => ?_) (fun hb => ?_)
        · have e : n.k = 2 ∧ n.d ≠ 0 := by
            by_cases hk : n.k = 2
            · rw [decide_eq_true hk] at hb; exact ⟨hk, by simpa using hb⟩
            · rw [decide_eq_false hk] at hb; cases hb
          rw [if_pos e]
          refine mW ?_; clear H; intro a w H
          refine wp_ret ?_; exact mEnd [0, 1, 2, 3] [] [.tmp 4] [_] hN hR H
        · have e : ¬ (n.k = 2 ∧ n.d ≠ 0) := by
            rintro ⟨e1, e2⟩
            rw [decide_eq_true e1] at hb
            simp at hb; exact e2 hb
          rw [if_neg e]
          refine mW ?_; clear H; intro a w H
          refine wp_ret ?_; exact mEnd [0, 1, 2, 3] [] [.tmp 4] [_] hN hR H
/-- Callers hold a node more or less often. -/
def Slb.call_ (s : Slb) (h b : Int) : Slb := if s.ok_ h then s.set_ h { s.get_ h with hd := (s.get_ h).hd + b } else s
set_option maxRecDepth 20000 in
theorem stoCallers_v (s : Slb) (hs : s.wf) (h b : Int) (hb0 : -1000000000000 ≤ (s.get_ h).hd + b ∧ (s.get_ h).hd + b ≤ 1000000000000) :
    VX Try.prog 210 s.sx [] [] [.ptr 0 [], .v (.int .i64 h), .v (.int .i64 b)] (s.call_ h b).sx [] [] (.tup []) := by
  have hg := stoGet_v s hs h
  obtain ⟨x1, x2, x3⟩ := id (Slb.get_wf hs h)
  unfold Slb.call_
  cases hok : s.ok_ h with
  | false =>
    rw [hok] at hg
    rw [if_neg (by decide)]
    generalize s.get_ h = n at *
    simp only [Slb.sx, SN.av] at hg
    simp only [Slb.sx]
    refine mE Try.func210 ?_; intro N w0 a w hN hR H
    have hX := And.intro @x1 (And.intro @x2 (@x3))
    refine mW ?_; clear H; intro a w H
    refine mCall [0, 1, 2, 3] [] (hg) H ?_; clear H; intro a w H; try refine wpList_nil ?_
    refine mW ?_; clear H; intro a w H
    refine mC H (fun hb => ?_) (fun hb => ?_)
    · exact absurd hb (by decide)
    · refine mW ?_; clear H; intro a w H
      exact mEnd [0, 1, 2, 3] [] [] [] hN hR H
  | true =>
    rw [hok] at hg
    rw [if_pos rfl]
    obtain ⟨⟨x, c⟩, hat⟩ : ∃ p, s.at_ h = some p := Option.isSome_iff_exists.1 hok
    have hst := slbSet_v s hs h x c hat { s.get_ h with hd := (s.get_ h).hd + b } ⟨x1, x2, x3⟩
    generalize s.set_ h { s.get_ h with hd := (s.get_ h).hd + b } = s2 at *
    generalize s.get_ h = n at *
    simp only [Slb.sx, SN.av] at hg
    simp only [Slb.bx, SN.av] at hst
    simp only [Slb.sx]
    refine mE Try.func210 ?_; intro N w0 a w hN hR H
    have hX := And.intro @x1 (And.intro @x2 (@x3))
    refine mW ?_; clear H; intro a w H
    refine mCall [0, 1, 2, 3] [] (hg) H ?_; clear H; intro a w H; try refine wpList_nil ?_
    refine mW ?_; clear H; intro a w H
    refine mC H (fun hb => ?_) (fun hb => ?_)
    · clear hb
      refine mW ?_; clear H; intro a w H
      refine mS ?_; refine mD 0 [6] [] H ?_; clear H; intro gS H
      refine mT ?_; clear H; intro a w H
      refine mCallT [1, 2, 3] [] (hst) H ?_; clear H; intro a w H
      refine mT ?_; clear H; intro a w H
      refine v_drawNil H ?_; clear H; intro H
      refine mW ?_; clear H; intro a w H
      exact mEnd [0, 1, 2, 3] [] [] [] hN hR H
    · exact absurd hb (by decide)
/-- A leaf. -/
def leafN (k v : List UInt8) (hd : Int) : SN := ⟨leafH k (valH v), 1, -1, k, v, valH v, 0, 0, 1, hd⟩
set_option maxRecDepth 20000 in
set_option maxHeartbeats 4000000 in
theorem stoLeaf_v (s : Slb) (hs : s.wf) (hm : s.m = 0) (hu : s.used < s.room) (hl : s.sl.length < 65536) (k v : List UInt8) (hk : k.length = 32) (hv : v.length ≤ 1024) :
    VX Try.prog 139 s.sx [] [] [.ptr 0 [], .ba k, .bs v none] (s.push (leafN k v 1)).sx [] [] (.tup [.v (.int .i64 ((s.sl.length : Int) + 1)), errv 0]) := by
  have hn := stoNone_v s.γ s.δ s.sl.length s.m s.room s.used (s.sl.map slA) (s.fs.map inA)
  have hlf := leaf_v k (valH v) hk (valH_len v)
  have hval := value_v v (by omega)
  have hvl := valH_len v
  have hll := leafH_len k (valH v)
  have hp := slbPush_v s hs hm hu (leafN k v 1) ⟨hll, hk, hvl⟩ hl
  have d1 : decide ((1024 : Int) < (v.length : Int)) = false := decide_eq_false (by omega)
  generalize s.push (leafN k v 1) = s2 at *
  simp only [Slb.bx, SN.av, leafN] at hp
  simp only [Slb.sx]
  generalize s.sl.map slA = es at *
  generalize s.fs.map inA = fs at *
  generalize leafH k (valH v) = lh at *
  generalize valH v = vh at *
  refine mE Try.func139 ?_; intro N w0 a w hN hR H
  have hX := And.intro @hk (And.intro @hvl (And.intro @hll (@d1)))
  refine mW ?_; clear H; intro a w H
  refine mCall [0, 1, 2, 3] [] (hn) H ?_; clear H; intro a w H; try refine wpList_nil ?_
  refine mW ?_; clear H; intro a w H
  refine mC H (fun hb => ?_) (fun hb => ?_)
  · exact absurd hb (by decide)
  · clear hb
    refine mW ?_; clear H; intro a w H
    refine mC H (fun hb => ?_) (fun hb => ?_)
    · exact absurd hb (by decide)
    · clear hb
      refine mW ?_; clear H; intro a w H
      refine mCall [] [] (hval) H ?_; clear H; intro a w H; try refine wpList_nil ?_
      refine mW ?_; clear H; intro a w H
      replace H := v_ref H 4 4 (Nat.le_trans hN (Nat.le_of_ble_eq_true rfl)) rfl rfl rfl
      simp only [nilT, strip, List.map_cons, List.map_nil, reduceIte, Nat.reduceEqDiff] at H
      replace H := v_ref H 8 5 (Nat.le_trans hN (Nat.le_of_ble_eq_true rfl)) rfl rfl rfl
      simp only [nilT, strip, List.map_cons, List.map_nil, reduceIte, Nat.reduceEqDiff] at H
      repeat (first | refine wp_seq ?_ | refine wp_block ?_)
      refine v_drawZ 0 [0, 1, 2, 4, 5, 8, 9, 10, 3, 6, 7, 11, 12, 13, 14, 15, 16] [3, 6, 12] [0, 1, 2, 4, 5, 7, 8, 9, 10, 11] [(3, 6)] (by kernel_rfl) (by kernel_rfl) (by kernel_rfl) (by kernel_rfl) (by kernel_rfl) H (by rfl) ?_; clear H; intro gS H; try replace H := ntf H
      repeat' ((first | refine wpZ_q1 rfl rfl ?_ | refine wpZ_l1 rfl rfl rfl ?_ | refine wpZ_l2 rfl rfl rfl rfl rfl ?_ ?_ | refine wpZ_l3 rfl rfl rfl rfl rfl rfl rfl ?_ ?_ ?_ | refine wpZ_l4 rfl rfl rfl rfl rfl rfl rfl rfl rfl ?_ ?_ ?_ ?_) <;> ((first | (refine wpT_at 6 ?_; refine mCallT [] [] (hlf) H ?_; clear H; intro a w H) | (refine wpT_at 12 ?_; refine mCallT [1, 2, 3] [] (hp) H ?_; clear H; intro a w H) | (refine v_someT 1 tab_ok hN H rfl ctX ?_; clear H; intro a w H; replace H := ntf H; simp only [List.drop_succ_cons, List.drop_zero, List.drop_nil])); refine wpT_nil ?_; try dsimp only))
      all_goals (refine wpZ_nil ?_; replace H := RelT.toRel H)
      all_goals
        refine mW ?_; clear H; intro a w H
        refine wp_ret ?_; exact mEnd [0, 1, 2, 3] [] [.tmp 6, .tmp 7] [_, _] hN hR H
end Go.Proofs.Ytigmpdhnhkdeiaa
/- A store: does a node fit a side, do both. -/
namespace Go.Proofs.Ytigmpdhnhkdeiaa
open Go Go.RowKit
def fitB (n : SN) (d : Int) (b : Int) : Bool := !(decide (n.k = 2) && decide (n.d ≠ d + 1)) && decide (pbit n.key d = b)
set_option maxRecDepth 20000 in
theorem stoFit_v (n : SN) (hn : n.wf) (d : Int) (hd : 0 ≤ d ∧ d ≤ 255) (b : Int) : VC Try.prog 249 [n.av, .v (.int .i64 d), .v (.int .i64 b)] [] (.v (.bool (fitB n d b))) := by
  obtain ⟨x1, x2, x3⟩ := hn
  have hbit := bit_v n.key x2 d
  have k2 : decide ((n.k.toNat : Int) = 2) = decide (n.k = 2) := kz2 n.k 2 rfl
  unfold fitB
  simp only [SN.av]
  refine mE Try.func249 ?_; intro N w0 a w hN hR H
  refine mS ?_
  have hX := And.intro @x1 (And.intro @x2 (@x3))
  (try refine wp_region_lit ?_); refine mN 2 hN H ?_; clear H; intro a w H
  refine wpList_nil ?_
  refine mS ?_
  (try refine wp_region_lit ?_); refine mN 4 hN H ?_; clear H; intro a w H
  simp only [k2] at H
  refine mW ?_; clear H; intro a w H
  refine mC H (fun hb => ?_) (fun hb => ?_)
  · have e : (decide (n.k = 2) && decide (n.d ≠ d + 1)) = true := by
      by_cases hk : n.k = 2
      · rw [decide_eq_true hk] at hb ⊢; simpa using hb
      · rw [decide_eq_false hk] at hb; cases hb
    rw [e]
    refine mW ?_; clear H; intro a w H
    refine wp_ret ?_; exact mEnd [] [] [.tmp 6] [_] hN hR H
  · have e : (decide (n.k = 2) && decide (n.d ≠ d + 1)) = false := by
      by_cases hk : n.k = 2
      · rw [decide_eq_true hk] at hb ⊢; simpa using hb
      · rw [decide_eq_false hk]; rfl
    rw [e]
    refine mW ?_; clear H; intro a w H
    refine mCall [] [] (hbit) H ?_; clear H; intro a w H; try refine wpList_nil ?_
    refine mW ?_; clear H; intro a w H
    refine wp_ret ?_; exact mEnd [] [] [.tmp 6] [_] hN hR H
def fitsB (d : Int) (lh rh : Int) (l r : SN) : Bool :=
  if lh = 0 ∧ rh = 0 then false else if lh = 0 then decide (r.k = 2) && fitB r d 1 else if rh = 0 then decide (l.k = 2) && fitB l d 0 else fitB l d 0 && (fitB r d 1 && decide (d ≤ (com l.key r.key : Int)))
set_option maxRecDepth 20000 in
set_option maxHeartbeats 4000000 in
theorem stoFits_v (l r : SN) (hl : l.wf) (hr : r.wf) (d : Int) (hd : 0 ≤ d ∧ d ≤ 255) (lh rh : Int) : VC Try.prog 208 [.v (.int .i64 d), .v (.int .i64 lh), .v (.int .i64 rh), l.av, r.av] [] (.v (.bool (fitsB d lh rh l r))) := by
  have f1 := stoFit_v l hl d hd 0
  have f2 := stoFit_v r hr d hd 1
  have hc := common_v l.key r.key hl.key hr.key
  obtain ⟨x1, x2, x3⟩ := hl
  obtain ⟨y1, y2, y3⟩ := hr
  have k2 : decide ((l.k.toNat : Int) = 2) = decide (l.k = 2) := kz2 l.k 2 rfl
  have k3 : decide ((r.k.toNat : Int) = 2) = decide (r.k = 2) := kz2 r.k 2 rfl
  unfold fitsB
  generalize fitB l d 0 = b1 at *
  generalize fitB r d 1 = b2 at *
  simp only [SN.av] at *
  by_cases h1 : lh = 0
  · subst h1
    by_cases h2 : rh = 0
    · subst h2
      rw [if_pos ⟨rfl, rfl⟩]
      refine mE Try.func208 ?_; intro N w0 a w hN hR H
      have hX := And.intro @x1 (And.intro @x2 (And.intro @x3 (And.intro @y1 (And.intro @y2 (@y3)))))
      refine mW ?_; clear H; intro a w H
      refine mC H (fun hb => ?_) (fun hb => ?_)
      · refine mW ?_; clear H; intro a w H
        refine wp_ret ?_; exact mEnd [] [] [.tmp 10] [_] hN hR H
      · exact absurd hb (by decide)
    · have d2 : decide (rh = 0) = false := decide_eq_false h2
      rw [if_neg (fun h => h2 h.2), if_pos rfl]
      refine mE Try.func208 ?_; intro N w0 a w hN hR H
      have hX := And.intro @x1 (And.intro @x2 (And.intro @x3 (And.intro @y1 (And.intro @y2 (And.intro @y3 (@d2))))))
      refine mW ?_; clear H; intro a w H
      refine mC H (fun hb => ?_) (fun hb => ?_)
      · exact absurd hb (by decide)
      · clear hb
        refine mW ?_; clear H; intro a w H
        refine mC H (fun hb => ?_) (fun hb => ?_)
        · clear hb
          refine mS ?_
          (try refine wp_region_lit ?_); refine mN 4 hN H ?_; clear H; intro a w H
          simp only [k3] at H
          refine mW ?_; clear H; intro a w H
          refine mCallG [] [] (f2) H ?_; clear H; intro a w H; try refine wpList_nil ?_
          refine mW ?_; clear H; intro a w H
          rw [show (decide (r.k = 2) && b2) = (bif decide (r.k = 2) then b2 else false) by cases decide (r.k = 2) <;> rfl]
          refine wp_ret ?_; exact mEnd [] [] [.tmp 10] [_] hN hR H
        · exact absurd hb (by decide)
  · have d1 : decide (lh = 0) = false := decide_eq_false h1
    by_cases h2 : rh = 0
    · subst h2
      rw [if_neg (fun h => h1 h.1), if_neg h1, if_pos rfl]
      refine mE Try.func208 ?_; intro N w0 a w hN hR H
      have hX := And.intro @x1 (And.intro @x2 (And.intro @x3 (And.intro @y1 (And.intro @y2 (And.intro @y3 (@d1))))))
      refine mW ?_; clear H; intro a w H
      refine mC H (fun hb => ?_) (fun hb => ?_)
      · exact absurd hb (by decide)
      · clear hb
        refine mW ?_; clear H; intro a w H
        refine mC H (fun hb => ?_) (fun hb => ?_)
        · exact absurd hb (by decide)
        · clear hb
          refine mW ?_; clear H; intro a w H
          refine mC H (fun hb => ?_) (fun hb => ?_)
          · clear hb
            refine mS ?_
            (try refine wp_region_lit ?_); refine mN 4 hN H ?_; clear H; intro a w H
            simp only [k2] at H
            refine mW ?_; clear H; intro a w H
            refine mCallG [] [] (f1) H ?_; clear H; intro a w H; try refine wpList_nil ?_
            refine mW ?_; clear H; intro a w H
            rw [show (decide (l.k = 2) && b1) = (bif decide (l.k = 2) then b1 else false) by cases decide (l.k = 2) <;> rfl]
            refine wp_ret ?_; exact mEnd [] [] [.tmp 10] [_] hN hR H
          · exact absurd hb (by decide)
    · have d2 : decide (rh = 0) = false := decide_eq_false h2
      rw [if_neg (fun h => h1 h.1), if_neg h1, if_neg h2]
      refine mE Try.func208 ?_; intro N w0 a w hN hR H
      have hX := And.intro @x1 (And.intro @x2 (And.intro @x3 (And.intro @y1 (And.intro @y2 (And.intro @y3 (And.intro @d1 (@d2)))))))
      refine mW ?_; clear H; intro a w H
      refine mC H (fun hb => ?_) (fun hb => ?_)
      · exact absurd hb (by decide)
      · clear hb
        refine mW ?_; clear H; intro a w H
        refine mC H (fun hb => ?_) (fun hb => ?_)
        · exact absurd hb (by decide)
        · clear hb
          refine mW ?_; clear H; intro a w H
          refine mC H (fun hb => ?_) (fun hb => ?_)
          · exact absurd hb (by decide)
          · clear hb
            refine mW ?_; clear H; intro a w H
            refine mCall [] [] (f1) H ?_; clear H; intro a w H; try refine wpList_nil ?_
            refine mW ?_; clear H; intro a w H
            refine mCallG [] [] (f2) H ?_; clear H; intro a w H; try refine wpList_nil ?_
            refine mW ?_; clear H; intro a w H
            refine mCallG [] [] (hc) H ?_; clear H; intro a w H; try refine wpList_nil ?_
            refine mW ?_; clear H; intro a w H
            rw [show (b1 && (b2 && decide (d ≤ (com l.key r.key : Int)))) = (bif (bif b1 then b2 else false) then decide (d ≤ (com l.key r.key : Int)) else false) by cases b1 <;> cases b2 <;> rfl]
            refine wp_ret ?_; exact mEnd [] [] [.tmp 10] [_] hN hR H
end Go.Proofs.Ytigmpdhnhkdeiaa
/- The statements' kit: do lists share memory? -/
namespace Go.Proofs.Ytigmpdhnhkdeiaa
open Go Go.RowKit
attribute [local irreducible] wpT
/-- A slice, in its three parts. -/
abbrev SV := Option Addr × Nat × Nat
abbrev SV.v (x : SV) : Value := .slice x.1 x.2.1 x.2.2
/-- A row, and what the list that names it says of it. -/
abbrev ARow := SV × List UInt8 × List UInt8 × TypeId
abbrev ARow.str (x : ARow) : Value := .string (strOf (x.2.1 ++ x.2.2.1))
/-- Rows that do not share memory. -/
structure Apart (w : World) (base : Nat) (L : List ARow) : Prop where
  own : ∀ i (hi : i < L.length), Own (byteT L[i].2.2.2) w base L[i].1.v L[i].2.1 L[i].2.2.1
  ne : ∀ i j (hi : i < L.length) (hj : j < L.length), i ≠ j → L[i].1.v.ownBlock = none ∨ L[i].1.v.ownBlock ≠ L[j].1.v.ownBlock
theorem Apart.below {w w' : World} {base : Nat} {L : List ARow} (h : Apart w base L) (hb : Below w.heap.size w w') : Apart w' base L :=
  ⟨fun i hi => (h.own i hi).belowSize hb, h.ne⟩
end Go.Proofs.Ytigmpdhnhkdeiaa
/- ApartBytes of slices that own their memory, written out where they are asked about; guards that are known to hold. -/
namespace Go.Proofs.Ytigmpdhnhkdeiaa
open Go Go.RowKit
section
variable {P : Program} {τ : Tab} {w0 w : World} {N : Gh} {g gS : Gh} {st st' sq sq' : St} {nt : Nat} {a : Act}
theorem zero_u8 : zeroOf Try.prog 5 = [.int .u8 0] := by kernel_rfl
theorem flat_z (m : Nat) : (List.replicate m [Value.int .u8 0]).flatten = (List.replicate m (0 : UInt8)).map B8 := by
  induction m with
  | zero => rfl
  | succ m ih => rw [List.replicate_succ, List.flatten_cons, ih, List.replicate_succ]; rfl
end
end Go.Proofs.Ytigmpdhnhkdeiaa
/- Rows that no frame owns: lists of bytes, each with memory of its own; contracts that hand them out. -/
namespace Go.Proofs.Ytigmpdhnhkdeiaa
open Go Go.RowKit
/-- A slice on its own: its block, its length and room, the block's cells; the first k of them stay as they are. -/
structure XR where
  A : Option Nat
  n : Nat
  c : Nat
  tid : TypeId
  cells : List Value
  k : Nat
def XR.v (x : XR) : Value := .slice (x.A.map fun b => ⟨b, 0, none⟩) x.n x.c
theorem XR.own (x : XR) : x.v.ownBlock = x.A := by unfold XR.v; cases x.A <;> rfl
structure XOk (lo : Nat) (g : Gh) (w : World) (x : XR) : Prop where
  le : x.n ≤ x.c ∧ x.c ≤ maxLen
  nil : x.A = none → x.c = 0
  own : ∀ b, x.A = some b → ¬ g.has b ∧ lo ≤ b ∧ Blk w b x.tid x.cells.toArray ∧ ∀ o u, o < x.k → x.cells[o]? = some u → g.ro b o = some u
theorem XOk.lt {lo : Nat} {g : Gh} {w : World} {x : XR} (h : XOk lo g w x) {b : Nat} (hb : x.A = some b) : b < w.heap.size := (h.own b hb).2.2.1.lt
def XApart (X : List XR) : Prop := X.Pairwise fun x y => x.A = none ∨ x.A ≠ y.A
structure Xs (lo : Nat) (g : Gh) (w : World) (X : List XR) : Prop where
  ok : ∀ x ∈ X, XOk lo g w x
  un : XApart X
/-- As Fr, but for blocks from lo on. -/
structure FrX (lo : Nat) (w0 : World) (N g : Gh) (w : World) : Prop where
  os : w.os = w0.os
  tape : w.tape = w0.tape
  output : w.output = w0.output
  size : w0.heap.size ≤ w.heap.size
  block : ∀ k, k < w0.heap.size → k < lo → ¬ N.has k → w.heap[k]? = w0.heap[k]?
  bx : ∀ (i : Nat) (x : Bx), g.bx[i]? = some x → x.off = false → w0.heap.size ≤ x.blk ∨ ∃ y, N.bx[i]? = some y ∧ y.off = false ∧ y.blk = x.blk
  rw : ∀ (i : Nat) (r : Rw) (k : Nat), g.rw[i]? = some r → r.v.ownBlock = some k → w0.heap.size ≤ k ∨ ∃ s, N.rw[i]? = some s ∧ s.v.ownBlock = some k
  ro : ∀ b, b < w0.heap.size → b < lo → ¬ N.has b → ∀ o, g.ro b o = N.ro b o
  le : N.le g
section
variable {P : Program} {τ : Tab} {w0 w w1 w2 : World} {N N1 N2 : Gh} {g g1 gS : Gh} {st st' sq sq' : St} {nt : Nat} {a : Act} {lo : Nat} {X Y : List XR}
theorem FrX.of (h : Fr w0 N g w) (lo : Nat) : FrX lo w0 N g w := ⟨h.kept.os, h.kept.tape, h.kept.output, h.kept.size, fun k hk _ hn => h.kept.block k hk hn, h.bx, h.rw, fun b hb _ hn => h.ro b hb hn, h.le⟩
theorem FrX.fr (h : FrX lo w0 N g w) (hlo : w0.heap.size ≤ lo) : Fr w0 N g w := ⟨⟨h.os, h.tape, h.output, h.size, fun k hk hn => h.block k hk (by omega) hn⟩, h.bx, h.rw, fun b hb hn => h.ro b hb (by omega) hn, h.le⟩
theorem FrX.back (h : FrX lo w0 N g w) {b : Nat} (hb : b < w0.heap.size) (hh : g.has b) : N.has b := by
  rcases hh with ⟨y, hy, hyo, he⟩ | ⟨s, hr, he⟩
  · obtain ⟨i, hi⟩ := List.getElem?_of_mem hy
    rcases h.bx i y hi hyo with h3 | ⟨z, h3, h4, h5⟩
    · omega
    · exact .inl ⟨z, List.mem_of_getElem? h3, h4, h5.trans he⟩
  · obtain ⟨i, hi⟩ := List.getElem?_of_mem hr
    rcases h.rw i s b hi he with h3 | ⟨z, h3, h4⟩
    · omega
    · exact .inr ⟨z, List.mem_of_getElem? h3, h4⟩
theorem FrX.trans (h : FrX lo w0 N N1 w1) (k : FrX lo w1 N1 g w) : FrX lo w0 N g w := by
  have hs := h.size
  refine ⟨k.os.trans h.os, k.tape.trans h.tape, k.output.trans h.output, Nat.le_trans h.size k.size, fun b hb hl hn => (k.block b (by omega) hl (fun hh => hn (h.back hb hh))).trans (h.block b hb hl hn), fun i x hx hxo => ?_, fun i r b hr hrb => ?_, fun b hb hl hn o => (k.ro b (by omega) hl (fun hh => hn (h.back hb hh)) o).trans (h.ro b hb hl hn o), h.le.trans k.le⟩
  · rcases k.bx i x hx hxo with h1 | ⟨y, h1, h2, h3⟩
    · exact .inl (by omega)
    · rw [← h3]; exact h.bx i y h1 h2
  · rcases k.rw i r b hr hrb with h1 | ⟨s, h1, h2⟩
    · exact .inl (by omega)
    · exact h.rw i s b h1 h2
theorem Inv.self {bx : List (Ty × AV)} {fz : List Nat} {rw : List (TypeId × Nat)} (HI : Inv P w0 N g bx fz rw w) : Inv P w g g bx fz rw w :=
  ⟨HI.mem, ⟨Kept.refl _ _, fun i x hx hxo => .inr ⟨x, hx, hxo, rfl⟩, fun i r k hr hrk => .inr ⟨r, hr, hrk⟩, fun _ _ _ _ => rfl, Gh.le.refl _⟩, HI.br, HI.fz, HI.wr, HI.wz⟩
theorem XOk.step {x : XR} (h : XOk lo N1 w1 x) {bx : List (Ty × AV)} {fz : List Nat} {rw : List (TypeId × Nat)} (HI : Inv P w1 N1 g bx fz rw w) : XOk lo g w x := by
  have hB := FrX.of HI.fr w1.heap.size
  refine ⟨h.le, h.nil, fun b hb => ?_⟩
  obtain ⟨h1, h2, h3, h4⟩ := h.own b hb
  exact ⟨fun hh => h1 (hB.back h3.lt hh), h2, h3.kept HI.fr.kept h1, fun o u ho hu => HI.fr.le.ro _ _ _ (h4 o u ho hu)⟩
theorem Xs.step (h : Xs lo N1 w1 X) {bx : List (Ty × AV)} {fz : List Nat} {rw : List (TypeId × Nat)} (HI : Inv P w1 N1 g bx fz rw w) : Xs lo g w X := ⟨fun x hx => (h.ok x hx).step HI, h.un⟩
/-- A frame, and rows on their own. -/
def RelX (lo : Nat) (P : Program) (w0 : World) (N : Gh) (nt : Nat) (st : St) (X : List XR) (a : Act) (w : World) : Prop :=
  ∃ g, Inv P w g g st.bx st.fz st.rw w ∧ FrX lo w0 N g w ∧ FR g nt st a ∧ Xs lo g w X
theorem Rel.toX (H : Rel P w0 N nt st a w) (lo : Nat) : RelX lo P w0 N nt st [] a w := by
  obtain ⟨g, HI, hF⟩ := H
  exact ⟨g, HI.self, .of HI.fr lo, hF, ⟨fun x hx => (by cases hx), List.Pairwise.nil⟩⟩
theorem RelX.open_ (H : RelX lo P w0 N nt st X a w) : ∃ N1, FrX lo w0 N N1 w ∧ Xs lo N1 w X ∧ Rel P w N1 nt st a w ∧ N1.bx.length = st.bx.length ∧ N1.rw.length = st.rw.length := by
  obtain ⟨g, HI, hB, hF, hX⟩ := H
  exact ⟨g, hB, hX, ⟨g, HI, hF⟩, HI.br.len, by rw [← HI.wr, List.length_map]⟩
theorem RelX.close (hB : FrX lo w0 N N1 w1) (hX : Xs lo N1 w1 X) (H : Rel P w1 N1 nt st a w) : RelX lo P w0 N nt st X a w := by
  obtain ⟨g, HI, hF⟩ := H
  exact ⟨g, HI.self, hB.trans (.of HI.fr lo), hF, hX.step HI⟩
theorem RelX.eq (H : RelX lo P w0 N nt st X a w) (h : X = Y) : RelX lo P w0 N nt st Y a w := h ▸ H
/-- Rows on their own are seen as bytes. -/
inductive SeeX (X : List XR) : AV → AV → Prop
  | refl (x : AV) : SeeX X x x
  | pub (x : XR) (l : List UInt8) (h : x ∈ X) (hk : l.length ≤ x.k) (hn : x.n = l.length) (hc : x.cells.take l.length = l.map B8) : SeeX X (.v x.v) (.bs l none)
  | pubc (x : XR) (full : List UInt8) (h : x ∈ X) (hk : full.length ≤ x.k) (hc : x.c = full.length) (hs : x.cells = full.map B8) : SeeX X (.v x.v) (.bc full x.n none)
  | bs (l : List UInt8) (tok : Option Nat) : SeeX X (.bs l tok) (.bs l none)
  | bc (full l : List UInt8) (n : Nat) (tok : Option Nat) (h : full.take n = l) : SeeX X (.bc full n tok) (.bs l none)
  | nil : SeeX X (.v (.slice none 0 0)) (.bs [] none)
  | st {fs fs' : List AV} (hl : fs.length = fs'.length) (h : ∀ i (h1 : i < fs.length) (h2 : i < fs'.length), SeeX X fs[i] fs'[i]) : SeeX X (.st fs) (.st fs')
  | sl {T : Ty} {es es' : List AV} {tok : Option Nat} (hl : es.length = es'.length) (h : ∀ i (h1 : i < es.length) (h2 : i < es'.length), SeeX X es[i] es'[i]) : SeeX X (.sl T es tok) (.sl T es' none)
theorem SeeX.not {x y : AV} (h : SeeX X x y) : (x = .any → y = .any) ∧ (∀ az, x = .tup az → y = .tup az) := by
  cases h <;> exact ⟨fun e => (by first | exact e | cases e), fun az e => (by first | exact e | cases e)⟩
/-- A contract that hands out rows on their own. -/
def PostX (P : Program) (w0 : World) (N : Gh) (R : List XR → List (Ty × AV) → List (TypeId × Nat) → AV → Prop) (e : Ending) (w' : World) : Prop :=
  ∃ X bx' rw' res g v, R X bx' rw' res ∧ e = .returned v ∧ Inv P w0 N g bx' [] rw' w' ∧ RV g res v ∧ Xs w0.heap.size g w' X
def VE (P : Program) (f : FuncId) (args : List AV) (R : List XR → List (Ty × AV) → List (TypeId × Nat) → AV → Prop) : Prop :=
  Fok P f ∧ ∀ (w : World) (N : Gh) (vs : List Value), Inv P w N N [] [] [] w → vs.length = args.length → (∀ (i : Nat) x v, args[i]? = some x → vs[i]? = some v → RV N x v) → Calls P f vs.toArray w (PostX P w N R)

end
end Go.Proofs.Ytigmpdhnhkdeiaa
/- slices.Reverse of slices, in memory that may be written. -/
namespace Go.Proofs.Ytigmpdhnhkdeiaa
open Go Go.RowKit
end Go.Proofs.Ytigmpdhnhkdeiaa
/- A list of slices written out into what grows; do lists share memory that are on their own? -/
namespace Go.Proofs.Ytigmpdhnhkdeiaa
open Go Go.RowKit
section
variable {P : Program} {τ : Tab} {w0 w w1 w2 : World} {N N1 N2 : Gh} {g g1 gS : Gh} {st st' sq sq' : St} {nt : Nat} {a : Act} {lo : Nat} {X Y : List XR}
/-- Bytes, with their room. -/
def XW (x : XR) : Prop := ∃ l sp : List UInt8, x.cells = (l ++ sp).map B8 ∧ x.n = l.length ∧ x.c = l.length + sp.length
end
end Go.Proofs.Ytigmpdhnhkdeiaa
/- A growing array that a field points to is turned to stay as it is. -/
namespace Go.Proofs.Ytigmpdhnhkdeiaa
open Go Go.RowKit
section
variable {P : Program} {w0 w : World} {N : Gh} {g : Gh} {st : St} {nt : Nat} {a : Act}
end
end Go.Proofs.Ytigmpdhnhkdeiaa
/- Slices on their own, in regions that draw their order. -/
namespace Go.Proofs.Ytigmpdhnhkdeiaa
open Go Go.RowKit
theorem FrX.refl (lo : Nat) (w : World) (N : Gh) : FrX lo w N N w := .of ⟨Kept.refl _ _, fun i x hx hxo => .inr ⟨x, hx, hxo, rfl⟩, fun i r k hr hrk => .inr ⟨r, hr, hrk⟩, fun _ _ _ _ => rfl, Gh.le.refl _⟩ lo
theorem Xs.nil (lo : Nat) (N : Gh) (w : World) : Xs lo N w [] := ⟨fun x hx => (by cases hx), List.Pairwise.nil⟩
/-- A slice on its own that holds bytes. -/
def XB (x : XR) (l : List UInt8) : Prop := x.n = l.length ∧ x.tid = 5 ∧ x.k = l.length ∧ ∃ m, x.c = l.length + m ∧ x.cells = l.map B8 ++ (List.replicate m (zeroOf Try.prog 5)).flatten
def XL (X : List XR) (ls : List (List UInt8)) : Prop := X.length = ls.length ∧ ∀ i (h1 : i < X.length) (h2 : i < ls.length), XB X[i] ls[i]
theorem XL.nil : XL [] [] := ⟨rfl, fun i h => (by cases h)⟩
theorem XB.w {x : XR} {l : List UInt8} (h : XB x l) : XW x := by
  obtain ⟨h1, _, _, m, h3, h4⟩ := h
  refine ⟨l, List.replicate m 0, ?_, h1, by rw [List.length_replicate]; exact h3⟩
  rw [h4, zero_u8, flat_z, List.map_append]
theorem VE.mono {P : Program} {f : FuncId} {args : List AV} {R R2 : List XR → List (Ty × AV) → List (TypeId × Nat) → AV → Prop} (h : VE P f args R) (hR : ∀ X bx rw res, R X bx rw res → R2 X bx rw res) : VE P f args R2 :=
  ⟨h.1, fun w N vs a b c => (h.2 w N vs a b c).mono fun e w' hp => by
    obtain ⟨X, bx', rw', res, g, v, h1, h2⟩ := hp
    exact ⟨X, bx', rw', res, g, v, hR _ _ _ _ h1, h2⟩⟩
theorem RelX.rel {P : Program} {w0 w : World} {N : Gh} {nt : Nat} {st : St} {X : List XR} {a : Act} (H : RelX w0.heap.size P w0 N nt st X a w) : Rel P w0 N nt st a w := by
  obtain ⟨g, HI, hB, hF, _⟩ := H
  exact ⟨g, ⟨HI.mem, hB.fr (Nat.le_refl _), HI.br, HI.fz, HI.wr, HI.wz⟩, hF⟩
section
variable {P : Program} {τ : Tab} {w0 w w1 w2 : World} {N N1 N2 : Gh} {g g1 gS : Gh} {st st' sq sq' : St} {nt : Nat} {a : Act} {lo : Nat} {X Y : List XR}
def RelXT (lo : Nat) (P : Program) (w0 : World) (N : Gh) (nt : Nat) (gS : Gh) (sq st : St) (X : List XR) (a : Act) (w : World) : Prop :=
  Mem gS w ∧ gS.rw = [] ∧ FR gS nt sq a ∧ BR gS sq.bx ∧ ∃ g, Inv P w g g st.bx st.fz st.rw w ∧ FrX lo w0 N g w ∧ FR g nt st a ∧ gS.le g ∧ Bs gS g ∧ Xs lo g w X
theorem RelXT.open_ (H : RelXT lo P w0 N nt gS sq st X a w) : ∃ N1, FrX lo w0 N N1 w ∧ Xs lo N1 w X ∧ RelT P w N1 nt gS sq st a w ∧ N1.bx.length = st.bx.length ∧ N1.rw.length = st.rw.length := by
  obtain ⟨hM, hrw, hFq, hBq, g, HI, hB, hF, hle, hbs, hX⟩ := H
  exact ⟨g, hB, hX, ⟨hM, hrw, hFq, hBq, g, HI, hF, hle, hbs⟩, HI.br.len, by rw [← HI.wr, List.length_map]⟩
theorem RelXT.close (hB : FrX lo w0 N N1 w1) (hX : Xs lo N1 w1 X) (H : RelT P w1 N1 nt gS sq st a w) : RelXT lo P w0 N nt gS sq st X a w := by
  obtain ⟨hM, hrw, hFq, hBq, g, HI, hF, hle, hbs⟩ := H
  exact ⟨hM, hrw, hFq, hBq, g, HI.self, hB.trans (.of HI.fr lo), hF, hle, hbs, hX.step HI⟩
/-- Slots, boxes and rows are forgotten. -/
theorem RelX.to (H : RelX w0.heap.size P w0 N nt st X a w) (nb nr : Nat) (hM : N.bx.length ≤ nb ∧ N.rw.length ≤ nr) {t2 : List (Nat × Gd × AV)} {bx2 : List (Ty × AV)} {rw2 : List (TypeId × Nat)} {fz2 : List Nat} (hs : SubT t2 st.t) (hb : st.bx.take nb = bx2) (hr : st.rw.take nr = rw2) (hf : st.fz = fz2) (h1 : t2.all (fun p => low nb nr 4 p.2.2) = true) (h2 : bx2.all (fun x => low nb nr 4 x.2) = true) :
    RelX w0.heap.size P w0 N nt ⟨t2, bx2, fz2, rw2⟩ X a w := by
  subst hb hr hf
  obtain ⟨g, HI, hB, hF, hX⟩ := H
  have HI0 : Inv P w0 N g st.bx st.fz st.rw w := ⟨HI.mem, hB.fr (Nat.le_refl _), HI.br, HI.fz, HI.wr, HI.wz⟩
  have I1 := HI0.cut hM.1 hM.2 h2
  refine ⟨g.cut nb nr, I1.self, .of I1.fr _, ⟨hF.sz, hF.df, fun p hp hg => (hF.t p (hs.mem hp) hg).low_ (d := 3) (List.all_eq_true.1 h1 p hp), fun p hp hg => hF.u p (hs.mem hp) hg⟩, ⟨fun x hx => ?_, hX.un⟩⟩
  have h := hX.ok x hx
  refine ⟨h.le, h.nil, fun b hb => ⟨fun hh => (h.own b hb).1 ?_, (h.own b hb).2⟩⟩
  rcases hh with ⟨y, hy, h⟩ | ⟨s, hs, h⟩
  · exact .inl ⟨y, List.mem_of_mem_take hy, h⟩
  · exact .inr ⟨s, List.mem_of_mem_take hs, h⟩
end
end Go.Proofs.Ytigmpdhnhkdeiaa
/- Pointers whose raw value is known. -/
namespace Go.Proofs.Ytigmpdhnhkdeiaa
open Go Go.RowKit
/-- The raw value of a pointer into a box that was there. -/
def PtrU (N : Gh) (i : Nat) (path : List Nat) (u : Value) : Prop := ∃ (x : Bx) (o : Nat) (T : Ty), N.bx[i]? = some x ∧ x.ty.isVc = false ∧ x.ty.loc path = some (o, T) ∧ u = .pointer (some ⟨x.blk, o, none⟩)
section
variable {P : Program} {w0 w : World} {N g : Gh} {st : St} {nt : Nat} {a : Act} {i : Nat} {path : List Nat} {u : Value}
theorem PtrU.rc (hu : PtrU N i path u) (hl : N.le g) : RC g .sc (.ptr i path) [u] := by
  obtain ⟨x, o, T, h1, h2, h3, rfl⟩ := hu
  obtain ⟨x', h4, e1, _, e2⟩ := hl.bx i x h1
  rw [← (e2 (.inr h2)).1]
  exact .ptr h4 (by rw [e1]; exact h3)
theorem v_ptrU (hu : PtrU N i path u) (H : Rel P w0 N nt st a w) (d : Nat) (hd : find d st.t = some (none, .v u)) : Rel P w0 N nt ⟨nilT d (.ptr i path) st.t, st.bx, st.fz, st.rw⟩ a w := by
  obtain ⟨g, HI, hF⟩ := H
  refine ⟨g, HI, hF.sz, hF.df, fun p hp hg => ?_, fun p hp hg => by rcases nilT_mem hp with h | h; (subst h; exact absurd trivial hg); exact hF.u p h hg⟩
  rcases nilT_mem hp with h | h
  · subst h
    have hv := hF.t _ (find_mem hd) trivial
    have e : a.tmps.getD d undef = u := hv.v_inv
    show RV g (.ptr i path) (a.tmps.getD d undef)
    rw [e]
    exact (hu.rc HI.fr.le).rv1
  · exact hF.t p h hg
theorem v_ptrV (H : Rel P w0 N nt st a w) (d : Nat) {T : Ty} {x : AV} (hN : i < N.bx.length) (hb : st.bx[i]? = some (T, x)) (hT : T.isVc = false) (hd : find d st.t = some (none, .ptr i path)) : ∃ u, PtrU N i path u ∧ Rel P w0 N nt ⟨nilT d (.v u) st.t, st.bx, st.fz, st.rw⟩ a w := by
  obtain ⟨g, HI, hF⟩ := H
  have hv := (hF.t _ (find_mem hd) trivial).ptr_inv
  obtain ⟨_, y, o, T', hy, hl, he⟩ := hv.ptr_inv
  obtain ⟨y', hy', hyT, _⟩ := HI.br.at_ i _ _ hb
  rw [hy] at hy'; injection hy' with hy'; subst hy'
  obtain ⟨z, hz⟩ : ∃ z, N.bx[i]? = some z := ⟨N.bx[i], List.getElem?_eq_getElem hN⟩
  obtain ⟨z', h4, e1, _, e2⟩ := HI.fr.le.bx i z hz
  rw [hy] at h4; injection h4 with h4; subst h4
  have hzT : z.ty.isVc = false := by rw [← e1, hyT]; exact hT
  injection he with he
  refine ⟨a.tmps.getD d undef, ⟨z, o, T', hz, hzT, by rw [← e1]; exact hl, by rw [he, (e2 (.inr hzT)).1]⟩, g, HI, hF.sz, hF.df, fun p hp hg => ?_, fun p hp hg => by rcases nilT_mem hp with h | h; (subst h; exact absurd trivial hg); exact hF.u p h hg⟩
  rcases nilT_mem hp with h | h
  · subst h
    show RV g (.v _) (a.tmps.getD d undef)
    rw [he]; exact RV.v_of rfl
  · exact hF.t p h hg
/-- What a box holds is seen otherwise. -/
theorem v_subB (H : Rel P w0 N nt st a w) (j : Nat) {T : Ty} {x y : AV} (hj : st.bx[j]? = some (T, x)) (hs : sub 4 x y) (hT : T.grows = false := by rfl) : Rel P w0 N nt ⟨st.t, st.bx.set j (T, y), st.fz, st.rw⟩ a w := by
  obtain ⟨g, HI, hF⟩ := H
  obtain ⟨xj, hxj, hxT, hbj⟩ := HI.br.at_ j _ _ hj
  obtain ⟨hjo, hjm, hrc⟩ := hbj.rc hT
  have h2 := hrc.sub_ hs
  subst hxT
  exact ⟨g, HI.re hxj (BC.pl h2 hjo hjm), hF.sz, hF.df, fun p hp hg => hF.t p hp hg, fun p hp hg => hF.u p hp hg⟩
end
end Go.Proofs.Ytigmpdhnhkdeiaa
/- A store: an inner node of two sides. -/
namespace Go.Proofs.Ytigmpdhnhkdeiaa
open Go Go.RowKit
/-- A side of an inner node that is made. -/
def Slb.side (s : Slb) (h : Int) : SN := if h = 0 then SN.zero else s.get_ h
theorem Slb.side_wf {s : Slb} (hs : s.wf) (h : Int) : (s.side h).wf := by unfold Slb.side; split; exact SN.zero_wf; exact Slb.get_wf hs h
def inN (dg : List UInt8) (d : Nat) (key : List UInt8) (l r : Int) (sz : Int) (hd : Int) : SN := ⟨dg, 2, (d : Int), key, [], List.replicate 32 0, l, r, sz, hd⟩
def Slb.newIn (s : Slb) (d : Nat) (l r : Int) : SN := inN (innerH (s.dig l) (s.dig r)) d (fillL (if l = 0 then (s.side r).key else (s.side l).key) d false) l r ((s.side l).sz + (s.side r).sz) 1
abbrev innT : Ty := .cn .sc (.cn .sc .nl)
theorem cutG7 {B R : Act → World → Prop} {G : Prop} (h : (∀ a w, R a w → B a w) → G) (k : ∀ a w, R a w → B a w) : G := h k
theorem zNd_sub : sub 4 zNd SN.zero.av := ⟨⟨rfl, trivial⟩, rfl, rfl, rfl, rfl, rfl, rfl, rfl, rfl, rfl, trivial⟩
attribute [local irreducible] wpT
set_option maxRecDepth 20000 in
set_option maxHeartbeats 8000000 in
theorem stoInner_v (s : Slb) (hs : s.wf) (d : Nat) (hd : d ≤ 255) (l r : Int) (hl : l ≠ 0 → s.ok_ l = true ∧ (s.get_ l).hd ≠ 0) (hr : r ≠ 0 → s.ok_ r = true ∧ (s.get_ r).hd ≠ 0)
    (hfit : fitsB d l r (s.side l) (s.side r) = true) (hm : s.m = 0) (hu : s.used < s.room) (hln : s.sl.length < 65536) (hsz : 0 ≤ (s.side l).sz ∧ (s.side l).sz ≤ 1000000 ∧ 0 ≤ (s.side r).sz ∧ (s.side r).sz ≤ 1000000)
    (s3 : Slb) (hc1 : VX Try.prog 210 (s.push (s.newIn d l r)).sx [] [] [.ptr 0 [], .v (.int .i64 l), .v (.int .i64 (-1))] ((s.push (s.newIn d l r)).call_ l (-1)).sx [] [] (.tup []))
    (hc2 : VX Try.prog 210 ((s.push (s.newIn d l r)).call_ l (-1)).sx [] [] [.ptr 0 [], .v (.int .i64 r), .v (.int .i64 (-1))] s3.sx [] [] (.tup [])) :
    VX Try.prog 140 s.sx [] [] [.ptr 0 [], .v (.int .i64 (d : Int)), .v (.int .i64 l), .v (.int .i64 r)] s3.sx [] [] (.tup [.v (.int .i64 ((s.sl.length : Int) + 1)), errv 0]) := by
  have hn := stoNone_v s.γ s.δ s.sl.length s.m s.room s.used (s.sl.map slA) (s.fs.map inA)
  have hg1 := stoGet_v s hs l
  have hg2 := stoGet_v s hs r
  have hw1 := Slb.side_wf hs l
  have hw2 := Slb.side_wf hs r
  have hf := stoFits_v (s.side l) (s.side r) hw1 hw2 d (by omega) l r
  rw [hfit] at hf
  have hD1 := stoDigest_v s hs l
  have hD2 := stoDigest_v s hs r
  have hdl1 := Slb.dig_len hs l
  have hdl2 := Slb.dig_len hs r
  have hin := inner_v (s.dig l) (s.dig r) hdl1 hdl2
  have hil := innerH_len (s.dig l) (s.dig r)
  have hkl : (if l = 0 then (s.side r).key else (s.side l).key).length = 32 := by split; exact hw2.key; exact hw1.key
  have hfi := first_v (if l = 0 then (s.side r).key else (s.side l).key) hkl d (by omega)
  have hfl := fillL_len (if l = 0 then (s.side r).key else (s.side l).key) d false
  have hpu := slbPush_v s hs hm hu (s.newIn d l r) ⟨hil, hfl, List.length_replicate⟩ hln
  have hz2 : (List.replicate 32 (0 : UInt8)).length = 32 := List.length_replicate
  have hsl : l ≠ 0 → s.side l = s.get_ l := fun h => by unfold Slb.side; rw [if_neg h]
  have hsr : r ≠ 0 → s.side r = s.get_ r := fun h => by unfold Slb.side; rw [if_neg h]
  have hzl : l = 0 → s.side l = SN.zero := fun h => by unfold Slb.side; rw [if_pos h]
  have hzr : r = 0 → s.side r = SN.zero := fun h => by unfold Slb.side; rw [if_pos h]
  have d1 : decide ((d : Int) < 0) = false := decide_eq_false (by omega)
  have d2 : decide ((255 : Int) < (d : Int)) = false := decide_eq_false (by omega)
  generalize (s.push (s.newIn d l r)).call_ l (-1) = s2 at *
  unfold Slb.newIn at hpu hc1
  generalize hkk : (if l = 0 then (s.side r).key else (s.side l).key) = kk at *
  generalize fillL kk d false = fk at *
  generalize innerH (s.dig l) (s.dig r) = ih at *
  generalize s.dig l = da at *
  generalize s.dig r = db at *
  generalize hLe : s.side l = L at *
  generalize hRe : s.side r = R at *
  generalize s.push (inN ih d fk l r (L.sz + R.sz) 1) = s1 at *
  simp only [Slb.bx, SN.av, inN] at hpu
  simp only [Slb.sx] at hg1 hg2 hD1 hD2 hc1 hc2 ⊢
  generalize s.sl.map slA = es at *
  generalize s.fs.map inA = fs at *
  have hLA : L.av = .st [.st [.ba L.dg], .v (B8 L.k), .v (.int .i64 L.d), .ba L.key, .bs L.val none, .ba L.hs, .v (.int .i64 L.l), .v (.int .i64 L.r), .v (.int .i64 L.sz), .v (.int .i64 L.hd)] := rfl
  have hRA : R.av = .st [.st [.ba R.dg], .v (B8 R.k), .v (.int .i64 R.d), .ba R.key, .bs R.val none, .ba R.hs, .v (.int .i64 R.l), .v (.int .i64 R.r), .v (.int .i64 R.sz), .v (.int .i64 R.hd)] := rfl
  have hZA : SN.zero.av = .st [.st [.ba (List.replicate 32 0)], .v (.int .u8 0), .v (.int .i64 0), .ba (List.replicate 32 0), .bs [] none, .ba (List.replicate 32 0), .v (.int .i64 0), .v (.int .i64 0), .v (.int .i64 0), .v (.int .i64 0)] := rfl
  obtain ⟨x1, x2, x3⟩ := id hw1
  obtain ⟨y1, y2, y3⟩ := id hw2
  refine mE Try.func140 ?_; intro N w0 a w hN hR H
  have hM : N.bx.length ≤ 4 ∧ N.rw.length ≤ 0 := ⟨Nat.le_trans hN (Nat.le_of_ble_eq_true rfl), hR⟩
  have hX := And.intro @d1 (And.intro @d2 (@hz2))
  refine mW ?_; clear H; intro a w H
  refine mCall [0, 1, 2, 3] [] (hn) H ?_; clear H; intro a w H; try refine wpList_nil ?_
  refine mW ?_; clear H; intro a w H
  refine mC H (fun hb => ?_) (fun hb => ?_)
  · exact absurd hb (by decide)
  · clear hb
    refine mW ?_; clear H; intro a w H
    refine mC H (fun hb => ?_) (fun hb => ?_)
    · exact absurd hb (by decide)
    · clear hb
      refine mS ?_
      replace H := mK [0, 1, 2, 3, 8, 9] 4 0 hN hR H
      (try refine wp_region_lit ?_); refine mN 6 hN H ?_; clear H; intro a w H
      refine wpList_nil ?_
      replace H := v_subB H 4 (y := SN.zero.av) rfl zNd_sub
      simp only [List.set_cons_succ, List.set_cons_zero] at H
      replace H := v_subB H 5 (y := SN.zero.av) rfl zNd_sub
      simp only [List.set_cons_succ, List.set_cons_zero] at H
      replace H := mK [0, 1, 2, 3, 8, 9, 10, 11] 6 0 hN hR H
      replace H := H.toX w0.heap.size
      clear hN hR
      obtain ⟨N1, hB, hZ, H, hN1, hR1⟩ := H.open_
      have hN : N1.bx.length ≤ 6 := Nat.le_of_eq hN1
      have hR : N1.rw.length ≤ 0 := Nat.le_of_eq hR1
      have hN6 : N1.bx.length = 6 := hN1
      clear hN1 hR1
      obtain ⟨u4, hu4, H⟩ := v_ptrV H 10 (i := 4) (path := []) (by omega) rfl rfl rfl
      obtain ⟨u5, hu5, H⟩ := v_ptrV H 11 (i := 5) (path := []) (by omega) rfl rfl rfl
      simp only [nilT, reduceIte, Nat.reduceEqDiff] at H
      have e4 : ∃ b o, u4 = .pointer (some ⟨b, o, none⟩) := by obtain ⟨x, o, _, _, _, _, e⟩ := hu4; exact ⟨_, _, e⟩
      have e5 : ∃ b o, u5 = .pointer (some ⟨b, o, none⟩) := by obtain ⟨x, o, _, _, _, _, e⟩ := hu5; exact ⟨_, _, e⟩
      obtain ⟨b4, o4, rfl⟩ := e4
      obtain ⟨b5, o5, rfl⟩ := e5
      refine mS ?_
      (try refine wp_region_lit ?_); refine mN 7 hN H ?_; clear H; intro a w H
      refine wpList_nil ?_
      replace H := v_sub H 33 (x := .sl innT [.st [.v (.int .i64 l), .v (.pointer (some ⟨b4, o4, none⟩))], .st [.v (.int .i64 r), .v (.pointer (some ⟨b5, o5, none⟩))]] (some 0)) (y := .sl innT [.st [.v (.int .i64 l), .v (.pointer (some ⟨b4, o4, none⟩))], .st [.v (.int .i64 r), .v (.pointer (some ⟨b5, o5, none⟩))]] none) ⟨rfl, rfl⟩ rfl (fun az h => by cases h) rfl
      simp only [nilT, reduceIte, Nat.reduceEqDiff] at H
      replace H := mK [0, 1, 2, 3, 8, 9, 10, 11, 33, 34, 35] 6 0 hN hR H
      refine mS ?_
      refine v_loop (fun i : Nat => ⟨[(35, none, .v (.int .i64 (i : Int))), (34, none, .v (.int .i64 2)), (33, none, .sl innT [.st [.v (.int .i64 l), .v (.pointer (some ⟨b4, o4, none⟩))], .st [.v (.int .i64 r), .v (.pointer (some ⟨b5, o5, none⟩))]] none), (11, none, .v (.pointer (some ⟨b5, o5, none⟩))), (10, none, .v (.pointer (some ⟨b4, o4, none⟩))), (9, none, .v (.int .i64 0)), (8, none, .v (.int .i64 0)), (0, none, .ptr 0 []), (1, none, .v (.int .i64 (d : Int))), (2, none, .v (.int .i64 l)), (3, none, .v (.int .i64 r))],
        [(stoT, .st [.ptr 1 []]), (slbT, .st [.vw 2 s.γ s.sl.length, .vw 3 s.δ s.m, .v (.int .i64 (s.room : Int)), .v (.int .i64 (s.used : Int))]), (.vc 372 sltT, .vc s.γ es), (.vc 3 .sc, .vc s.δ fs), (sndT, (if i = 0 then SN.zero else L).av), (sndT, (if i ≤ 1 then SN.zero else R).av)], [], []⟩) (fun i => i ≤ 2) (fun i => 2 - i) 0 (by omega)
        (H.to 6 0 ⟨hN, hR⟩ ⟨rfl, rfl, rfl, rfl, rfl, rfl, rfl, rfl, rfl, rfl, rfl, trivial⟩ rfl rfl rfl rfl rfl) ?_
      clear H
      intro i a w hi H
      have hgt0 : ([.st [.v (.int .i64 l), .v (.pointer (some ⟨b4, o4, none⟩))], .st [.v (.int .i64 r), .v (.pointer (some ⟨b5, o5, none⟩))]] : List AV).getD 0 .any = .st [.v (.int .i64 l), .v (.pointer (some ⟨b4, o4, none⟩))] := rfl
      have hgt1 : ([.st [.v (.int .i64 l), .v (.pointer (some ⟨b4, o4, none⟩))], .st [.v (.int .i64 r), .v (.pointer (some ⟨b5, o5, none⟩))]] : List AV).getD 1 .any = .st [.v (.int .i64 r), .v (.pointer (some ⟨b5, o5, none⟩))] := rfl
      refine mW ?_; clear H; intro a w H
      refine mC H (fun hb => ?_) (fun hb => ?_)
      · have hlt : i < 2 := by
          have : decide ((i : Int) < 2) = true := hb
          rw [decide_eq_true_eq] at this; omega
        clear hb
        match i, hlt with
        | 0, _ =>
          rw [if_pos rfl, if_pos (by decide)] at H
          by_cases h0 : l = 0
          · have dh : decide (l = 0) = true := decide_eq_true h0
            refine mS ?_
            clear hX; have hX := And.intro @dh (@hgt0)
            (try refine wp_region_lit ?_); refine mN 1 hN H ?_; clear H; intro a w H
            refine mW ?_; clear H; intro a w H
            refine mC H (fun hb => ?_) (fun hb => ?_)
            · clear hb
              refine mW ?_; clear H; intro a w H
              have hz := hzl h0
              subst hz
              exact ⟨1, by omega, by omega, H.to 6 0 ⟨hN, hR⟩ ⟨rfl, rfl, rfl, rfl, rfl, rfl, rfl, rfl, rfl, rfl, rfl, trivial⟩ rfl rfl rfl rfl rfl⟩
            · exact absurd hb (by decide)
          · have dh : decide (l = 0) = false := decide_eq_false h0
            obtain ⟨g1, g2⟩ := hl h0
            have dk : decide (L.hd = 0) = false := by rw [hsl h0]; exact decide_eq_false g2
            have hg := hg1
            rw [g1, ← hsl h0, hLA] at hg
            refine mS ?_
            clear hX; have hX := And.intro @dh (And.intro @hgt0 (And.intro @dk (And.intro @x1 (And.intro @x2 (@x3)))))
            (try refine wp_region_lit ?_); refine mN 1 hN H ?_; clear H; intro a w H
            refine mW ?_; clear H; intro a w H
            refine mC H (fun hb => ?_) (fun hb => ?_)
            · exact absurd hb (by decide)
            · clear hb
              refine mW ?_; clear H; intro a w H
              refine mCall [0, 1, 2, 3] [] (hg) H ?_; clear H; intro a w H; try refine wpList_nil ?_
              refine mW ?_; clear H; intro a w H
              refine mC H (fun hb => ?_) (fun hb => ?_)
              · exact absurd hb (by decide)
              · clear hb
                refine mS ?_
                (try refine wp_region_lit ?_); refine mN 2 hN H ?_; clear H; intro a w H
                replace H := v_ptrU hu4 H 57 rfl
                simp only [nilT, reduceIte, Nat.reduceEqDiff] at H
                refine mW ?_; clear H; intro a w H
                exact ⟨1, by omega, by omega, H.to 6 0 ⟨hN, hR⟩ ⟨rfl, rfl, rfl, rfl, rfl, rfl, rfl, rfl, rfl, rfl, rfl, trivial⟩ rfl rfl rfl rfl rfl⟩
        | 1, _ =>
          rw [if_neg (by decide), if_pos (by decide)] at H
          by_cases h0 : r = 0
          · have dh : decide (r = 0) = true := decide_eq_true h0
            refine mS ?_
            clear hX; have hX := And.intro @dh (@hgt1)
            (try refine wp_region_lit ?_); refine mN 1 hN H ?_; clear H; intro a w H
            refine mW ?_; clear H; intro a w H
            refine mC H (fun hb => ?_) (fun hb => ?_)
            · clear hb
              refine mW ?_; clear H; intro a w H
              have hz := hzr h0
              subst hz
              exact ⟨2, by omega, by omega, H.to 6 0 ⟨hN, hR⟩ ⟨rfl, rfl, rfl, rfl, rfl, rfl, rfl, rfl, rfl, rfl, rfl, trivial⟩ rfl rfl rfl rfl rfl⟩
            · exact absurd hb (by decide)
          · have dh : decide (r = 0) = false := decide_eq_false h0
            obtain ⟨g1, g2⟩ := hr h0
            have dk : decide (R.hd = 0) = false := by rw [hsr h0]; exact decide_eq_false g2
            have hg := hg2
            rw [g1, ← hsr h0, hRA] at hg
            refine mS ?_
            clear hX; have hX := And.intro @dh (And.intro @hgt1 (And.intro @dk (And.intro @y1 (And.intro @y2 (@y3)))))
            (try refine wp_region_lit ?_); refine mN 1 hN H ?_; clear H; intro a w H
            refine mW ?_; clear H; intro a w H
            refine mC H (fun hb => ?_) (fun hb => ?_)
            · exact absurd hb (by decide)
            · clear hb
              refine mW ?_; clear H; intro a w H
              refine mCall [0, 1, 2, 3] [] (hg) H ?_; clear H; intro a w H; try refine wpList_nil ?_
              refine mW ?_; clear H; intro a w H
              refine mC H (fun hb => ?_) (fun hb => ?_)
              · exact absurd hb (by decide)
              · clear hb
                refine mS ?_
                (try refine wp_region_lit ?_); refine mN 2 hN H ?_; clear H; intro a w H
                replace H := v_ptrU hu5 H 57 rfl
                simp only [nilT, reduceIte, Nat.reduceEqDiff] at H
                refine mW ?_; clear H; intro a w H
                exact ⟨2, by omega, by omega, H.to 6 0 ⟨hN, hR⟩ ⟨rfl, rfl, rfl, rfl, rfl, rfl, rfl, rfl, rfl, rfl, rfl, trivial⟩ rfl rfl rfl rfl rfl⟩
      · have h2 : i = 2 := by
          have : decide ((i : Int) < 2) = false := hb
          rw [decide_eq_false_iff_not] at this; omega
        clear hb
        subst h2
        rw [if_neg (by decide), if_neg (by decide), hLA, hRA] at H
        rw [hLA, hRA] at hf
        replace H := v_ptrU hu4 H 10 rfl
        replace H := v_ptrU hu5 H 11 rfl
        simp only [nilT, reduceIte, Nat.reduceEqDiff] at H
        replace H := (RelX.close hB hZ H).rel
        clear hN hR hN6 hB hZ hu4 hu5 hgt0 hgt1
        have hN := hM.1
        have hR := hM.2
        refine mS ?_
        clear hX; have hX := And.intro @x1 (And.intro @x2 (And.intro @x3 (And.intro @y1 (And.intro @y2 (And.intro @y3 (And.intro @hz2 (And.intro @hkl (And.intro @hfl (And.intro @hdl1 (And.intro @hdl2 (@hil)))))))))))
        replace H := mK [0, 1, 2, 3, 8, 9, 10, 11] 6 0 hN hR H
        refine mW ?_; clear H; intro a w H
        refine mCall [] [] (hf) H ?_; clear H; intro a w H; try refine wpList_nil ?_
        refine mW ?_; clear H; intro a w H
        refine mC H (fun hb => ?_) (fun hb => ?_)
        · exact absurd hb (by decide)
        · clear hb
          refine mS ?_
          replace H := mK [0, 1, 2, 3, 8, 9, 10, 11] 6 0 hN hR H
          refine mW ?_; clear H; intro a w H
          revert a w
          apply cutG7 (R := fun a w => Rel Try.prog w0 N Try.f140.ntmps ⟨[(16, none, .ptr 6 []), (11, none, .ptr 5 []), (10, none, .ptr 4 []), (9, none, .v (.int .i64 0)), (8, none, .v (.int .i64 0)), (0, none, .ptr 0 []), (1, none, .v (.int .i64 (d : Int))), (2, none, .v (.int .i64 l)), (3, none, .v (.int .i64 r))],
            [(stoT, .st [.ptr 1 []]), (slbT, .st [.vw 2 s.γ s.sl.length, .vw 3 s.δ s.m, .v (.int .i64 (s.room : Int)), .v (.int .i64 (s.used : Int))]), (.vc 372 sltT, .vc s.γ es), (.vc 3 .sc, .vc s.δ fs), (sndT, L.av), (sndT, R.av), (.ba 32, .ba kk)], [], []⟩ a w)
          · intro key1 a w H
            refine mC H (fun hb => ?_) (fun hb => ?_)
            · rw [decide_eq_true_eq] at hb
              rw [if_pos hb] at hkk
              refine mS ?_
              (try refine wp_region_lit ?_); refine mN 3 hN H ?_; clear H; intro a w H
              refine wpList_nil ?_
              refine mS ?_
              exact key1 _ _ (H.to 7 0 ⟨Nat.le_trans hN (Nat.le_of_ble_eq_true rfl), hR⟩ ⟨rfl, rfl, rfl, rfl, rfl, rfl, rfl, rfl, rfl, trivial⟩ (by rw [← hkk]; rfl) rfl rfl rfl rfl)
            · rw [decide_eq_false_iff_not] at hb
              rw [if_neg hb] at hkk
              refine mS ?_
              exact key1 _ _ (H.to 7 0 ⟨Nat.le_trans hN (Nat.le_of_ble_eq_true rfl), hR⟩ ⟨rfl, rfl, rfl, rfl, rfl, rfl, rfl, rfl, rfl, trivial⟩ (by rw [← hkk]; rfl) rfl rfl rfl rfl)
          intro a w H
          rw [hLA, hRA] at H
          refine mW ?_; clear H; intro a w H
          refine mCall [] [] (hfi) H ?_; clear H; intro a w H; try refine wpList_nil ?_
          refine mW ?_; clear H; intro a w H
          refine mS ?_
          replace H := mK [0, 1, 2, 3, 8, 9, 10, 11, 16] 7 0 hN hR H
          replace H := v_ref H 10 4 hN rfl rfl rfl
          simp only [nilT, strip, List.map_cons, List.map_nil, reduceIte, Nat.reduceEqDiff] at H
          replace H := v_ref H 11 5 (Nat.le_trans hN (by decide)) rfl rfl rfl
          simp only [nilT, strip, List.map_cons, List.map_nil, reduceIte, Nat.reduceEqDiff] at H
          replace H := v_ref H 16 6 (Nat.le_trans hN (by decide)) rfl rfl rfl
          simp only [nilT, strip, List.map_cons, List.map_nil, reduceIte, Nat.reduceEqDiff] at H
          repeat (first | refine wp_seq ?_ | refine wp_block ?_)
          refine v_drawZ 0 [0, 1, 2, 4, 5, 7, 8, 12, 13, 14, 15, 16, 17, 18, 19, 20, 3, 6, 9, 10, 11, 21, 22, 23, 24, 25, 26, 27] [3, 6, 9, 10, 22] [0, 1, 2, 4, 5, 7, 8, 11, 12, 13, 14, 15, 16, 17, 18, 19, 20, 21] [(3, 6), (3, 9), (3, 10), (1009, 6), (1010, 6), (1010, 9)] (by kernel_rfl) (by kernel_rfl) (by kernel_rfl) (by kernel_rfl) (by kernel_rfl) H (by rfl) ?_; clear H; intro gS H; try replace H := ntf H
          repeat' ((first | refine wpZ_q1 rfl rfl ?_ | refine wpZ_l1 rfl rfl rfl ?_ | refine wpZ_l2 rfl rfl rfl rfl rfl ?_ ?_ | refine wpZ_l3 rfl rfl rfl rfl rfl rfl rfl ?_ ?_ ?_ | refine wpZ_l4 rfl rfl rfl rfl rfl rfl rfl rfl rfl ?_ ?_ ?_ ?_) <;> ((first | (refine wpT_at 6 ?_; refine mCallT [0, 1, 2, 3] [] (hD1) H ?_; clear H; intro a w H) | (refine wpT_at 9 ?_; refine mCallT [0, 1, 2, 3] [] (hD2) H ?_; clear H; intro a w H) | (refine wpT_at 10 ?_; refine mCallT [] [] (hin) H ?_; clear H; intro a w H) | (refine wpT_at 22 ?_; refine mCallT [1, 2, 3] [] (hpu) H ?_; clear H; intro a w H) | (refine v_someT 1 tab_ok hN H rfl ctX ?_; clear H; intro a w H; replace H := ntf H; simp only [List.drop_succ_cons, List.drop_zero, List.drop_nil])); refine wpT_nil ?_; try dsimp only))
          all_goals (refine wpZ_nil ?_; replace H := RelT.toRel H)
          all_goals
            refine mS ?_
            replace H := mK [0, 1, 2, 3, 8, 9, 17, 18] 4 0 hN hR H
            refine mW ?_; clear H; intro a w H
            refine mC H (fun hb => ?_) (fun hb => ?_)
            · exact absurd hb (by decide)
            · clear hb
              refine mW ?_; clear H; intro a w H
              refine mCall [0, 1, 2, 3] [] (hc1) H ?_; clear H; intro a w H; try refine wpList_nil ?_
              refine mW ?_; clear H; intro a w H
              refine mCall [0, 1, 2, 3] [] (hc2) H ?_; clear H; intro a w H; try refine wpList_nil ?_
              refine mW ?_; clear H; intro a w H
              refine wp_ret ?_; exact mEnd [0, 1, 2, 3] [] [.tmp 8, .tmp 9] [_, _] hN hR H
end Go.Proofs.Ytigmpdhnhkdeiaa
/- slices.SortFunc at entries: the program bears it; how it compares. -/
namespace Go.Proofs.Ytigmpdhnhkdeiaa
open Go Go.RowKit
end Go.Proofs.Ytigmpdhnhkdeiaa
/- Maps whose keys are arrays of bytes: made, looked up, put into. -/
namespace Go.Proofs.Ytigmpdhnhkdeiaa
open Go Go.RowKit
theorem mapM_some {α β : Type} {f : α → Option β} : ∀ (l : List α), (∀ x ∈ l, ∃ y, f x = some y) → ∃ ys, l.mapM f = some ys
  | [], _ => ⟨[], rfl⟩
  | x :: l, h => by
    obtain ⟨y, hy⟩ := h x List.mem_cons_self
    obtain ⟨ys, hys⟩ := mapM_some l fun z hz => h z (List.mem_cons_of_mem _ hz)
    exact ⟨y :: ys, by simp [List.mapM_cons, hy, hys]⟩
/-- A type of keys. -/
structure KT (P : Program) (kt : TypeId) (n : Nat) : Prop where
  law : WideMaps.KeyLaw P kt
  key : ∀ l : List UInt8, l.length = n → ∃ q, keyOf P kt (.agg (l.map B8).toArray) = some q
theorem KT.of {P : Program} {kt e : TypeId} {n : Nat} (ha : P.underlying kt = some (.array n e)) (he : P.underlying e = some (.int .u8)) (hk : P.keyTypeAt 2 kt = true) (ht : P.tiled 2 kt = true) (hK : P.keyType kt = true) (hc : P.cellsOf kt = n) (hce : P.cellsOf e = 1) (hs : 1 ≤ P.types.size) : KT P kt n :=
  ⟨deep_law (m := 2) (by decide) hk ht (by rw [ha]), fun l hl => by
    obtain ⟨d, hd⟩ : ∃ d, P.types.size = d + 1 := ⟨P.types.size - 1, by omega⟩
    have hlen : (l.map B8).length = n := by simpa using hl
    obtain ⟨ys, hys⟩ := mapM_some (f := fun i => P.keyLits (P.types.size) e (((l.map B8).drop (i * P.cellsOf e)).take (P.cellsOf e))) (List.range n) fun i hi => by
      have hi' : i < l.length := by rw [hl]; exact List.mem_range.1 hi
      have e1 : (((l.map B8).drop (i * P.cellsOf e)).take (P.cellsOf e)) = [B8 l[i]] := by
        rw [hce, Nat.mul_one, List.drop_eq_getElem_cons (by simpa using hi')]
        simp
      rw [e1, hd]
      refine ⟨[.int .u8 (l[i].toNat : Int)], ?_⟩
      unfold Program.keyLits
      rw [he]
      have h1 : (Lit.int .u8 (l[i].toNat : Int)).wf = true := by
        have := l[i].toNat_lt
        simp [Lit.wf, IntKind.min, IntKind.max, IntKind.signed, IntKind.bits]; omega
      simp [B8, h1]
    refine ⟨.string (keyBytes ys.flatten), ?_⟩
    unfold keyOf
    rw [ha]
    have hf : (Value.agg (l.map B8).toArray).formed P kt = true := by simp [Value.formed, ha, hc, hl]
    have hkl : P.keyLits (P.types.size + 1) kt (l.map B8) = some ys.flatten := by
      unfold Program.keyLits
      rw [ha]
      simp only [hlen, hc, if_true]
      rw [hys]; rfl
    simp only [hK, hf, Bool.and_self, if_true, Value.cells, List.toList_toArray, hkl, Option.map_some]⟩
section
variable {P : Program} {τ : Tab} {w0 w : World} {N : Gh} {g : Gh} {st : St} {nt : Nat} {a : Act}
end
end Go.Proofs.Ytigmpdhnhkdeiaa
/- Entries sorted: how two are compared. -/
namespace Go.Proofs.Ytigmpdhnhkdeiaa
open Go Go.RowKit
theorem size_alloc (w : World) (o : Obj) : (w.alloc o).heap.size = w.heap.size + 1 := by show (w.heap.push o).size = _; simp
/-- An entry's cells. -/
abbrev Cel := {p : List UInt8 × Value // p.1.length = 32 ∧ p.2.oneCell' = true}
instance : Inhabited Cel := ⟨⟨(List.replicate 32 0, .int .i64 0), by decide, rfl⟩⟩
end Go.Proofs.Ytigmpdhnhkdeiaa
/- Entries sorted in their block. -/
namespace Go.Proofs.Ytigmpdhnhkdeiaa
open Go Go.RowKit
end Go.Proofs.Ytigmpdhnhkdeiaa
/- Entries. -/
namespace Go.Proofs.Ytigmpdhnhkdeiaa
open Go Go.RowKit
abbrev Pr := List UInt8 × List UInt8
abbrev prT : Ty := .cn (.ba 32) (.cn .sc .nl)
def prA (p : Pr) : AV := .st [.ba p.1, .bs p.2 none]
end Go.Proofs.Ytigmpdhnhkdeiaa
/- Entries by rising key; slices.SortFunc in values. -/
namespace Go.Proofs.Ytigmpdhnhkdeiaa
open Go Go.RowKit
def K32 (l : List Pr) : Prop := ∀ x ∈ l, x.1.length = 32
def Dis (l : List Pr) : Prop := l.Pairwise fun x y => x.1 ≠ y.1
def ins (p : Pr) : List Pr → List Pr
  | [] => [p]
  | q :: l => if Lib.compareBytes p.1 q.1 < 0 then p :: q :: l else q :: ins p l
theorem ins_perm (p : Pr) : ∀ l, (ins p l).Perm (p :: l)
  | [] => .refl _
  | q :: l => by
    unfold ins
    split
    · exact .refl _
    · exact ((ins_perm p l).cons q).trans (.swap p q l)
def srt (l : List Pr) : List Pr := l.foldr ins []
theorem srt_perm : ∀ l, (srt l).Perm l
  | [] => .refl _
  | p :: l => (ins_perm p (srt l)).trans ((srt_perm l).cons p)
end Go.Proofs.Ytigmpdhnhkdeiaa
/- slices.SortFunc in values: a box that grows holds the entries sorted. -/
namespace Go.Proofs.Ytigmpdhnhkdeiaa
open Go Go.RowKit
end Go.Proofs.Ytigmpdhnhkdeiaa
/- slices.Clone of entries, in values. -/
namespace Go.Proofs.Ytigmpdhnhkdeiaa
open Go Go.RowKit
section
variable {P : Program} {τ : Tab} {w0 w : World} {N : Gh} {g : Gh} {st : St} {nt : Nat} {a : Act}
end
end Go.Proofs.Ytigmpdhnhkdeiaa
/- node.sorted: entries by rising key, or why they may not be. -/
namespace Go.Proofs.Ytigmpdhnhkdeiaa
open Go Go.RowKit
def chkP : List (List UInt8) → List Pr → Nat
  | _, [] => 0
  | ks, p :: l => if 1024 < p.2.length then 4 else if p.1 ∈ ks then 6 else chkP (ks ++ [p.1]) l
def errP (l : List Pr) : Nat := if 4096 < l.length then 4 else chkP [] l
def keysP (l : List Pr) : List (List UInt8) := l.map (·.1)
theorem chkP_dis : ∀ (ks : List (List UInt8)) (l : List Pr), chkP ks l = 0 → Dis l ∧ ∀ x ∈ l, x.1 ∉ ks
  | _, [], _ => ⟨List.Pairwise.nil, fun x hx => by cases hx⟩
  | ks, p :: l, h => by
    unfold chkP at h
    split at h
    · cases h
    · split at h
      · cases h
      · rename_i hn
        obtain ⟨h1, h2⟩ := chkP_dis _ l h
        refine ⟨List.pairwise_cons.2 ⟨fun y hy e => h2 y hy (by simp [e]), h1⟩, fun x hx => ?_⟩
        rcases List.mem_cons.1 hx with rfl | hx
        · exact hn
        · exact fun hm => h2 x hx (List.mem_append_left _ hm)
theorem chkP_cons (ks : List (List UInt8)) (l : List Pr) (k : Nat) (h : k < l.length) : chkP ks (l.drop k) = if 1024 < l[k].2.length then 4 else if l[k].1 ∈ ks then 6 else chkP (ks ++ [l[k].1]) (l.drop (k + 1)) := by
  rw [List.drop_eq_getElem_cons h]; rfl
theorem prA_get (l : List Pr) (k : Nat) (h : k < l.length) : (l.map prA).getD k .any = .st [.ba l[k].1, .bs l[k].2 none] := by simp [prA, List.getD_eq_getElem?_getD, h]
end Go.Proofs.Ytigmpdhnhkdeiaa
/- Roots of entries at a depth; entries that rise part where their bit does. In plain Lean. -/
namespace Go.Proofs.Ytigmpdhnhkdeiaa
open Go Go.RowKit
abbrev En := List UInt8 × List UInt8
def base (l : List En) : List UInt8 := match l with
  | [] => sum [0]
  | x :: _ => leafH x.1 x.2
def half (b : Bool) (d : Nat) (l : List En) : List En := l.filter fun x => bitN x.1 d == b
def rootA : Nat → Nat → List En → List UInt8
  | 0, _, l => base l
  | f + 1, d, l => if l.length < 2 then base l else innerH (rootA f (d + 1) (half false d l)) (rootA f (d + 1) (half true d l))
theorem rootA_len : ∀ f d l, (rootA f d l).length = 32
  | 0, _, [] => sum_length _
  | 0, _, _ :: _ => leafH_len _ _
  | f + 1, d, l => by
    unfold rootA
    split
    · exact rootA_len 0 d l
    · exact innerH_len _ _
theorem rootA_small (f d : Nat) (l : List En) (h : l.length < 2) : rootA f d l = base l := by
  cases f with
  | zero => rfl
  | succ f => rw [rootA, if_pos h]
/-- Unlike keys that share their first d bits. -/
def Sep (d : Nat) (l : List En) : Prop := l.Pairwise fun x y => agree d x.1 y.1 ∧ ¬ agree 256 x.1 y.1
theorem Sep.side {d : Nat} {l : List En} (h : Sep d l) (b : Bool) : Sep (d + 1) (half b d l) := by
  unfold Sep half
  have h2 : (l.filter fun x => bitN x.1 d == b).Pairwise fun x y => agree d x.1 y.1 ∧ ¬ agree 256 x.1 y.1 := h.filter _
  refine List.Pairwise.imp_of_mem (fun {x y} hx hy hp => ⟨fun t ht => ?_, hp.2⟩) h2
  by_cases h1 : t < d
  · exact hp.1 t h1
  · rw [show t = d by omega]
    have e1 : bitN x.1 d = b := by simpa using (List.mem_filter.1 hx).2
    have e2 : bitN y.1 d = b := by simpa using (List.mem_filter.1 hy).2
    rw [e1, e2]
theorem Sep.deep {d : Nat} {l : List En} (h : Sep d l) (hd : 256 ≤ d) : l.length < 2 := by
  match l, h with
  | [], _ => simp
  | [_], _ => simp
  | x :: y :: l, h =>
    exfalso
    have := (List.pairwise_cons.1 h).1 y List.mem_cons_self
    exact this.2 fun t ht => this.1 t (by omega)
/-- Keys that rise and share their first d bits. -/
def Rise (d : Nat) (l : List En) : Prop := l.Pairwise fun x y => agree d x.1 y.1 ∧ ltB x.1 y.1
theorem Rise.sep {d : Nat} {l : List En} (h : Rise d l) : Sep d l := List.Pairwise.imp (fun {x y} hp => ⟨hp.1, fun ha => by
  obtain ⟨c, hc, _, h2, h3⟩ := hp.2
  rw [ha c hc, h3] at h2; cases h2⟩) h
theorem Rise.side {d : Nat} {l : List En} (h : Rise d l) (b : Bool) : Rise (d + 1) (half b d l) := by
  have h1 := h.sep.side b
  have h2 : (half b d l).Pairwise fun x y => agree d x.1 y.1 ∧ ltB x.1 y.1 := h.filter _
  exact List.Pairwise.imp₂ (fun x y p q => ⟨q.1, p.2⟩) h2 h1
/-- How many entries have the bit 0. -/
def partN (d : Nat) (l : List En) : Nat := (l.takeWhile fun x => !bitN x.1 d).length
theorem Rise.part {d : Nat} (hd : d < 256) : ∀ {l : List En}, Rise d l → half false d l = l.take (partN d l) ∧ half true d l = l.drop (partN d l)
  | [], _ => ⟨rfl, rfl⟩
  | x :: l, h => by
    obtain ⟨h1, h2⟩ := List.pairwise_cons.1 h
    obtain ⟨e1, e2⟩ := Rise.part hd h2
    cases hb : bitN x.1 d
    · have e : partN d (x :: l) = partN d l + 1 := by simp [partN, List.takeWhile_cons, hb]
      rw [e]
      refine ⟨?_, ?_⟩
      · rw [List.take_succ_cons, ← e1]; simp [half, List.filter_cons, hb]
      · rw [List.drop_succ_cons, ← e2]; simp [half, List.filter_cons, hb]
    · have e : partN d (x :: l) = 0 := by simp [partN, List.takeWhile_cons, hb]
      have hall : ∀ y ∈ l, bitN y.1 d = true := fun y hy => by
        obtain ⟨ha, c, hc, g1, g2, g3⟩ := h1 y hy
        rcases Nat.lt_trichotomy c d with hl | rfl | hg
        · have := ha c hl; rw [g2, g3] at this; cases this
        · rw [hb] at g2; cases g2
        · rw [← g1 d hg]; exact hb
      rw [e]
      refine ⟨?_, ?_⟩
      · rw [List.take_zero]
        simp only [half, List.filter_cons, hb]
        simp only [Bool.true_beq, Bool.false_eq_true, if_false]
        refine List.filter_eq_nil_iff.2 fun y hy => ?_
        simp [hall y hy]
      · rw [List.drop_zero]
        refine List.filter_eq_self.2 fun y hy => ?_
        rcases List.mem_cons.1 hy with rfl | hy
        · simp [hb]
        · simp [hall y hy]
theorem Rise.chain {d : Nat} : ∀ {l : List En}, (∀ k (h : k + 1 < l.length), agree d (l[k]'(by omega)).1 l[k + 1].1 ∧ ltB (l[k]'(by omega)).1 l[k + 1].1) → Rise d l
  | [], _ => List.Pairwise.nil
  | [_], _ => by unfold Rise; simp
  | x :: y :: l, h => by
    have ih := Rise.chain (l := y :: l) fun k hk => h (k + 1) (by simpa using hk)
    have h0 := h 0 (by simp)
    refine List.pairwise_cons.2 ⟨fun z hz => ?_, ih⟩
    rcases List.mem_cons.1 hz with rfl | hz
    · exact h0
    · have := (List.pairwise_cons.1 ih).1 z hz
      exact ⟨h0.1.trans this.1, h0.2.trans this.2⟩
theorem half_mem {b : Bool} {d : Nat} {l : List En} {x : En} (h : x ∈ half b d l) : x ∈ l := (List.mem_filter.1 h).1
end Go.Proofs.Ytigmpdhnhkdeiaa
/- Roots of entries that rise: the program's. -/
namespace Go.Proofs.Ytigmpdhnhkdeiaa
open Go Go.RowKit
def Wd (l : List En) : Prop := ∀ x ∈ l, x.1.length = 32 ∧ x.2.length = 32
theorem Wd.half {l : List En} (h : Wd l) (b : Bool) (d : Nat) : Wd (half b d l) := fun x hx => h x (half_mem hx)
end Go.Proofs.Ytigmpdhnhkdeiaa
/- The root of entries that rise: node.parted, node.root. -/
namespace Go.Proofs.Ytigmpdhnhkdeiaa
open Go Go.RowKit
def dgs (l : List Pr) : List En := l.map fun p => (p.1, valH p.2)
def V0 (l : List Pr) : Prop := ∀ x ∈ l, x.2.length ≤ 34359730000
theorem dgs_len (l : List Pr) : (dgs l).length = l.length := by simp [dgs]
theorem dgs_take (l : List Pr) (n : Nat) : (dgs l).take n = dgs (l.take n) := by simp [dgs, List.map_take]
theorem dgs_drop (l : List Pr) (n : Nat) : (dgs l).drop n = dgs (l.drop n) := by simp [dgs, List.map_drop]
theorem V0.take {l : List Pr} (h : V0 l) (n : Nat) : V0 (l.take n) := fun x hx => h x (List.mem_of_mem_take hx)
theorem V0.drop {l : List Pr} (h : V0 l) (n : Nat) : V0 (l.drop n) := fun x hx => h x (List.mem_of_mem_drop hx)
theorem K32.take {l : List Pr} (h : K32 l) (n : Nat) : K32 (l.take n) := fun x hx => h x (List.mem_of_mem_take hx)
theorem K32.drop {l : List Pr} (h : K32 l) (n : Nat) : K32 (l.drop n) := fun x hx => h x (List.mem_of_mem_drop hx)
end Go.Proofs.Ytigmpdhnhkdeiaa
/- node.RootAt, node.Root: any entries. -/
namespace Go.Proofs.Ytigmpdhnhkdeiaa
open Go Go.RowKit
def endsP (l : List Pr) : Nat := com (l.getD 0 ([], [])).1 (l.getD (l.length - 1) ([], [])).1
def rootE (l : List Pr) (d : Int) : List UInt8 × Nat :=
  if d < 0 ∨ 256 < d then (z32, 2) else if errP l ≠ 0 then (z32, errP l) else if 1 < l.length ∧ (endsP (srt l) : Int) < d then (z32, 2) else (rootA (256 - d.toNat) d.toNat (dgs (srt l)), 0)
theorem chkP_vals : ∀ (ks : List (List UInt8)) (l : List Pr), chkP ks l = 0 → ∀ x ∈ l, x.2.length ≤ 1024
  | _, [], _, x, hx => by cases hx
  | ks, p :: l, h, x, hx => by
    unfold chkP at h
    split at h
    · cases h
    · split at h
      · cases h
      · rcases List.mem_cons.1 hx with rfl | hx
        · omega
        · exact chkP_vals _ l h x hx
theorem errP_ok {l : List Pr} (h : errP l = 0) : l.length ≤ 4096 ∧ Dis l ∧ ∀ x ∈ l, x.2.length ≤ 1024 := by
  unfold errP at h
  split at h
  · cases h
  · exact ⟨by omega, (chkP_dis _ _ h).1, chkP_vals _ _ h⟩
end Go.Proofs.Ytigmpdhnhkdeiaa
