/- What the statements share: bytes that are lent, and kept. -/
import Derived.Test.YtlagngkafllbiaaA5
import Derived.Test.YtlagngkafllbiaaNode
set_option linter.unusedSimpArgs false
set_option linter.unusedVariables false
namespace Go.Proofs.Ytlagngkafllbiaa
open Go Go.RowKit
/-- The state made plain. -/
theorem nf_Lent {P : Program} {w0 w : World} {N : Gh} {nt : Nat} {st s2 : St} {a : Act} (H : Rel P w0 N nt st a w) (h : st = s2 := by (try simp only [pk, elemB, St.put, St.ev, St.tmp, St.keep, find, dropT, slots, AV.put, AV.loc, fitI, convI, IntKind.signed, IntKind.bits, strip, St.lose, mergeL, setAll, nth, renB, ren, idx?, sub, allP, low, bnd, Int.reduceEq, Nat.reduceAdd, Nat.reduceLT, reduceIte, reduceCtorEq, Nat.reduceEqDiff, Nat.reduceLeDiff, Nat.reduceBEq, Int.reducePow, Int.reduceToNat, ti24_t, ti24_z, ti5_t, ti5_z]); rfl) : Rel P w0 N nt s2 a w := h ▸ H
theorem nt_Lent {P : Program} {w0 w : World} {N gS : Gh} {nt : Nat} {q q2 st s2 : St} {a : Act} (H : RelT P w0 N nt gS q st a w) (h1 : q = q2 := by (try simp only [pk, elemB, St.put, St.ev, St.tmp, St.keep, find, dropT, slots, AV.put, AV.loc, fitI, convI, IntKind.signed, IntKind.bits, strip, St.lose, mergeL, setAll, nth, renB, ren, idx?, sub, allP, low, bnd, Int.reduceEq, Nat.reduceAdd, Nat.reduceLT, reduceIte, reduceCtorEq, Nat.reduceEqDiff, Nat.reduceLeDiff, Nat.reduceBEq, Int.reducePow, Int.reduceToNat, ti24_t, ti24_z, ti5_t, ti5_z]); rfl) (h : st = s2 := by (try simp only [pk, elemB, St.put, St.ev, St.tmp, St.keep, find, dropT, slots, AV.put, AV.loc, fitI, convI, IntKind.signed, IntKind.bits, strip, St.lose, mergeL, setAll, nth, renB, ren, idx?, sub, allP, low, bnd, Int.reduceEq, Nat.reduceAdd, Nat.reduceLT, reduceIte, reduceCtorEq, Nat.reduceEqDiff, Nat.reduceLeDiff, Nat.reduceBEq, Int.reducePow, Int.reduceToNat, ti24_t, ti24_z, ti5_t, ti5_z]); rfl) : RelT P w0 N nt gS q2 s2 a w := h1 ▸ h ▸ H
theorem ct_Lent {c : Prop} (h : c := by ((try simp only [pk, elemB, St.put, St.ev, St.tmp, St.keep, find, dropT, slots, AV.put, AV.loc, fitI, convI, IntKind.signed, IntKind.bits, strip, St.lose, mergeL, setAll, nth, renB, ren, idx?, sub, allP, low, bnd, Int.reduceEq, Nat.reduceAdd, Nat.reduceLT, reduceIte, reduceCtorEq, Nat.reduceEqDiff, Nat.reduceLeDiff, Nat.reduceBEq, Int.reducePow, Int.reduceToNat, ti24_t, ti24_z, ti5_t, ti5_z, ti24, ti5, fit, gcond, ilo, ihi]); first | done | exact cd | exact cd2 | skip)) : c := h
/-- The marks in the spare room. -/
def marks (n : Nat) : Nat → List UInt8
  | 0 => []
  | k + 1 => marks n k ++ [UInt8.ofNat (200 + (n + k) % 50)]
theorem marks_len (n k : Nat) : (marks n k).length = k := by
  induction k with
  | zero => rfl
  | succ k ih => simp [marks, ih]
theorem set_end (pre : List UInt8) (m : Nat) (z x : UInt8) (hm : 0 < m) : (pre ++ List.replicate m z).set pre.length x = pre ++ [x] ++ List.replicate (m - 1) z := by
  obtain ⟨m, rfl⟩ : ∃ k, m = k + 1 := ⟨m - 1, by omega⟩
  rw [List.set_append_right _ _ (Nat.le_refl _), Nat.sub_self, List.replicate_succ]
  simp
def lentOf (l : List UInt8) : List UInt8 := l ++ marks l.length 5
theorem lent_len (l : List UInt8) : (lentOf l).length = l.length + 5 := by simp [lentOf, marks_len]
theorem lent_v (l : List UInt8) (hl : l.length ≤ 34359738000) : VX Try.prog 13 [] [] [] [.bs l none] [(.ba (l.length + 5), .ba (lentOf l))] [0] [] (.bc (lentOf l) l.length (some 0)) := by
  have hml := fun k => marks_len l.length k
  refine v_enter Try.func13 rfl (by kernel_rfl) (by show 1 ≤ 31; decide) ?_
  intro N w0 a w hN hR H
  have h5 : ((l.length : Int) + 5).toNat = l.length + 5 := by omega
  have ht : List.take (l.length + 5) l = l := List.take_of_length_le (by omega)
  have hd : List.drop l.length (List.replicate (l.length + 5) (0 : UInt8)) = List.replicate 5 0 := by rw [List.drop_replicate]; congr 1; omega
  repeat (first | refine wp_seq ?_ | refine wp_block ?_ | refine wp_skip ?_ | refine wp_exit ?_ | ((first | refine v_some 5 tab_ok hN H (by rfl) (by (try simp only [h5, ht, hd]); first | done | exact ct_Lent) ?_ | refine v_more tab_ok hN H (by rfl) (by rfl) (by (try simp only [h5, ht, hd]); first | done | exact ct_Lent) ?_); clear H; intro a w H; replace H := nf_Lent H; first | (simp only [h5, ht, hd] at H; replace H := nf_Lent H) | skip; (try simp only [List.drop_succ_cons, List.drop_zero, List.drop_nil]); try refine wpList_nil ?_) | refine wp_region_lit ?_)
  refine v_loop (fun k : Nat => ⟨[(0, none, .bs l none), (3, none, .win 0 [] 0 (l.length + 5)), (4, none, .v (.int .i64 ((l.length + k : Nat) : Int)))], [(.ba (l.length + 5), .ba (l ++ marks l.length k ++ List.replicate (5 - k) 0))], [], []⟩) (fun k => k ≤ 5) (fun k => 5 - k) 0 (by decide) (H.to 1 0 ⟨Nat.le_trans hN (by decide), hR⟩ ⟨rfl, rfl, rfl, trivial⟩ (by simp [marks]) rfl rfl rfl rfl) ?_
  clear H
  intro k a w hk H
  repeat (first | refine wp_seq ?_ | refine wp_block ?_ | refine wp_skip ?_ | refine wp_exit ?_ | ((first | refine v_some 5 tab_ok hN H (by rfl) ct_Lent ?_ | refine v_more tab_ok hN H (by rfl) (by rfl) ct_Lent ?_); clear H; intro a w H; replace H := nf_Lent H; (try simp only [List.drop_succ_cons, List.drop_zero, List.drop_nil]); try refine wpList_nil ?_) | refine wp_region_lit ?_)
  refine v_cond H (by rfl) (fun hb => ?_) (fun hb => ?_)
  · have hlt : k < 5 := by simp at hb; omega
    have hpl : (l ++ marks l.length k).length = l.length + k := by rw [List.length_append, hml]
    have hs := set_end (l ++ marks l.length k) (5 - k) 0 (UInt8.ofNat (200 + (l.length + k) % 50)) (by omega)
    rw [hpl] at hs
    have hx : UInt8.ofNat ((200 + ((l.length + k : Nat) : Int) % 50) % 256).toNat = UInt8.ofNat (200 + (l.length + k) % 50) := by congr 1; omega
    repeat (first | refine wp_seq ?_ | refine wp_block ?_ | refine wp_skip ?_ | refine wp_exit ?_ | ((first | refine v_some 5 tab_ok hN H (by rfl) ct_Lent ?_ | refine v_more tab_ok hN H (by rfl) (by rfl) ct_Lent ?_); clear H; intro a w H; replace H := nf_Lent H; (try simp only [List.drop_succ_cons, List.drop_zero, List.drop_nil]); try refine wpList_nil ?_) | refine wp_region_lit ?_)
    rw [hx, hs] at H
    exact ⟨k + 1, by omega, by omega, H.to 1 0 ⟨Nat.le_trans hN (by decide), hR⟩ ⟨rfl, rfl, by simp only [find]; rfl, trivial⟩ (by simp only [List.take_succ_cons, List.take_zero, marks, List.append_assoc, Nat.sub_sub]) rfl rfl rfl rfl⟩
  · have : k = 5 := by simp at hb; omega
    subst this
    rw [Nat.sub_self, List.replicate_zero, List.append_nil] at H
    repeat (first | refine wp_seq ?_ | refine wp_block ?_ | refine wp_skip ?_ | refine wp_exit ?_ | ((first | refine v_some 5 tab_ok hN H (by rfl) ct_Lent ?_ | refine v_more tab_ok hN H (by rfl) (by rfl) ct_Lent ?_); clear H; intro a w H; replace H := nf_Lent H; (try simp only [List.drop_succ_cons, List.drop_zero, List.drop_nil]); try refine wpList_nil ?_) | refine wp_region_lit ?_)
    have H := v_bc H 2 0 hN rfl (by omega) rfl
    simp only [nilT, reduceIte, Nat.reduceEqDiff] at H
    refine wp_ret ?_
    exact v_end [0] [] tab_ok ⟨hN, hR⟩ (rs := [.tmp 2]) (ress := [_]) rfl H (by rfl) (by rfl) (by simp [pickB, bxs, ren, idx?, sub_refl, sub, allP, lentOf] <;> omega) (by first | rfl | (simp [lentOf] <;> omega)) (by first | exact trivial | exact ⟨sub_refl _ _, trivial⟩ | exact ⟨sub_refl _ _, sub_refl _ _, trivial⟩ | exact ⟨sub_refl _ _, sub_refl _ _, sub_refl _ _, trivial⟩ | exact ⟨⟨rfl, sub_refl _ _, trivial⟩, sub_refl _ _, trivial⟩ | (simp [cargs, cargsG, St.ev, St.tmp, find, ren, idx?, sub_refl, sub, allP, resv, resC, bss, lentOf] <;> omega)) rfl
end Go.Proofs.Ytlagngkafllbiaa
