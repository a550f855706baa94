/- The program's SHA-256, byte by byte. -/
import Derived.Test.YtlagngkafllbiaaTag
import Derived.Test.YtlagngkafllbiaaConv
set_option linter.unusedSimpArgs false
set_option linter.unusedVariables false
namespace Go.Proofs.Ytlagngkafllbiaa
open Go Go.RowKit
/-- The state made plain. -/
theorem nf_State {P : Program} {w0 w : World} {N : Gh} {nt : Nat} {st s2 : St} {a : Act} (H : Rel P w0 N nt st a w) (h : st = s2 := by (try simp only [pk, elemB, St.put, St.ev, St.tmp, St.keep, find, dropT, slots, AV.put, AV.loc, fitI, convI, IntKind.signed, IntKind.bits, strip, St.lose, mergeL, setAll, nth, renB, ren, idx?, sub, allP, low, bnd, Int.reduceEq, Nat.reduceAdd, Nat.reduceLT, reduceIte, reduceCtorEq, Nat.reduceEqDiff, Nat.reduceLeDiff, Nat.reduceBEq, Int.reducePow, Int.reduceToNat, ti105_t, ti105_z, ti101_t, ti101_z]); rfl) : Rel P w0 N nt s2 a w := h ▸ H
theorem nt_State {P : Program} {w0 w : World} {N gS : Gh} {nt : Nat} {q q2 st s2 : St} {a : Act} (H : RelT P w0 N nt gS q st a w) (h1 : q = q2 := by (try simp only [pk, elemB, St.put, St.ev, St.tmp, St.keep, find, dropT, slots, AV.put, AV.loc, fitI, convI, IntKind.signed, IntKind.bits, strip, St.lose, mergeL, setAll, nth, renB, ren, idx?, sub, allP, low, bnd, Int.reduceEq, Nat.reduceAdd, Nat.reduceLT, reduceIte, reduceCtorEq, Nat.reduceEqDiff, Nat.reduceLeDiff, Nat.reduceBEq, Int.reducePow, Int.reduceToNat, ti105_t, ti105_z, ti101_t, ti101_z]); rfl) (h : st = s2 := by (try simp only [pk, elemB, St.put, St.ev, St.tmp, St.keep, find, dropT, slots, AV.put, AV.loc, fitI, convI, IntKind.signed, IntKind.bits, strip, St.lose, mergeL, setAll, nth, renB, ren, idx?, sub, allP, low, bnd, Int.reduceEq, Nat.reduceAdd, Nat.reduceLT, reduceIte, reduceCtorEq, Nat.reduceEqDiff, Nat.reduceLeDiff, Nat.reduceBEq, Int.reducePow, Int.reduceToNat, ti105_t, ti105_z, ti101_t, ti101_z]); rfl) : RelT P w0 N nt gS q2 s2 a w := h1 ▸ h ▸ H
theorem ct_State {c : Prop} (h : c := by ((try simp only [pk, elemB, St.put, St.ev, St.tmp, St.keep, find, dropT, slots, AV.put, AV.loc, fitI, convI, IntKind.signed, IntKind.bits, strip, St.lose, mergeL, setAll, nth, renB, ren, idx?, sub, allP, low, bnd, Int.reduceEq, Nat.reduceAdd, Nat.reduceLT, reduceIte, reduceCtorEq, Nat.reduceEqDiff, Nat.reduceLeDiff, Nat.reduceBEq, Int.reducePow, Int.reduceToNat, ti105_t, ti105_z, ti101_t, ti101_z, ti105, ti101, fit, gcond, ilo, ihi]); first | done | exact cd | exact cd2 | skip)) : c := h
theorem ren_s8v (fb fr : Nat → Option Nat) (d : Nat) (s : S8) : ren fb fr (d + 1) (s8v s) = s8v s := by cases d <;> rfl
/-- A state of the program's. -/
def shv (s : S8) (b : List UInt8) (n all : Nat) : AV := .st [.v (.bool true), s8v s, .ba b, .v (.int .i64 (n : Int)), .v (.int .i64 (all : Int))]
theorem ren_shv (fb fr : Nat → Option Nat) (d : Nat) (s : S8) (b : List UInt8) (n all : Nat) : ren fb fr (d + 2) (shv s b n all) = shv s b n all := by cases d <;> rfl
theorem begin_v : VC Try.prog 56 [] [] (s8v h0) := by
  refine v_enter Try.func56 rfl (by kernel_rfl) (by decide) ?_
  intro N w0 a w hN hR H
  repeat (first | refine wp_seq ?_ | refine wp_block ?_ | refine wp_skip ?_ | refine wp_exit ?_ | ((first | refine v_some 5 tab_ok hN H (by rfl) (by (try simp only [ren_s8v, ren_shv, s8v, shv, W32, h0]); first | done | exact ct_State) ?_ | refine v_more tab_ok hN H (by rfl) (by rfl) (by (try simp only [ren_s8v, ren_shv, s8v, shv, W32, h0]); first | done | exact ct_State) ?_); clear H; intro a w H; replace H := nf_State H; first | (simp only [ren_s8v, ren_shv] at H; replace H := nf_State H) | skip; (try simp only [List.drop_succ_cons, List.drop_zero, List.drop_nil]); try refine wpList_nil ?_) | refine wp_region_lit ?_)
  refine wp_ret ?_
  exact v_end [] [] tab_ok ⟨hN, hR⟩ (rs := [.cell 0 101]) (ress := [_]) rfl H (by rfl) (by rfl) (by simp [pickB, bxs, ren, idx?, sub_refl, sub, allP, ren_s8v, ren_shv] <;> omega) (by first | rfl | (simp [ren_s8v, ren_shv] <;> omega)) (by first | exact trivial | exact ⟨sub_refl _ _, trivial⟩ | exact ⟨sub_refl _ _, sub_refl _ _, trivial⟩ | exact ⟨sub_refl _ _, sub_refl _ _, sub_refl _ _, trivial⟩ | exact ⟨⟨rfl, sub_refl _ _, trivial⟩, sub_refl _ _, trivial⟩ | (simp [cargs, cargsG, St.ev, St.tmp, find, ren, idx?, sub_refl, sub, allP, resv, resC, bss, ren_s8v, ren_shv] <;> omega)) rfl
theorem new_v : VX Try.prog 32 [] [] [] [] [(ti105.ty, shv h0 (List.replicate 64 0) 0 0)] [] [] (.ptr 0 []) := by
  refine v_enter Try.func32 rfl (by kernel_rfl) (by decide) ?_
  intro N w0 a w hN hR H
  repeat (first | refine wp_seq ?_ | refine wp_block ?_ | refine wp_skip ?_ | refine wp_exit ?_ | ((first | refine v_some 5 tab_ok hN H (by rfl) (by (try simp only [ren_s8v, ren_shv, s8v, shv, W32, h0]); first | done | exact ct_State) ?_ | refine v_more tab_ok hN H (by rfl) (by rfl) (by (try simp only [ren_s8v, ren_shv, s8v, shv, W32, h0]); first | done | exact ct_State) ?_); clear H; intro a w H; replace H := nf_State H; first | (simp only [ren_s8v, ren_shv] at H; replace H := nf_State H) | skip; (try simp only [List.drop_succ_cons, List.drop_zero, List.drop_nil]); try refine wpList_nil ?_) | refine wp_region_lit ?_)
  refine v_call [] [] (begin_v) H rfl rfl (by rfl) (by simp [pickB, bxs, ren, idx?, sub_refl, sub, allP, ren_s8v, ren_shv] <;> omega) (by first | rfl | (simp [ren_s8v, ren_shv] <;> omega)) (by first | exact trivial | exact ⟨sub_refl _ _, trivial⟩ | exact ⟨sub_refl _ _, sub_refl _ _, trivial⟩ | exact ⟨sub_refl _ _, sub_refl _ _, sub_refl _ _, trivial⟩ | exact ⟨⟨rfl, sub_refl _ _, trivial⟩, sub_refl _ _, trivial⟩ | (simp [cargs, cargsG, St.ev, St.tmp, find, ren, idx?, sub_refl, sub, allP, resv, resC, bss, ren_s8v, ren_shv] <;> omega)) ?_; clear H; intro a w H; replace H := nf_State H; first | (simp only [ren_s8v, ren_shv] at H; replace H := nf_State H) | skip; try refine wpList_nil ?_
  repeat (first | refine wp_seq ?_ | refine wp_block ?_ | refine wp_skip ?_ | refine wp_exit ?_ | ((first | refine v_some 5 tab_ok hN H (by rfl) (by (try simp only [ren_s8v, ren_shv, s8v, shv, W32, h0]); first | done | exact ct_State) ?_ | refine v_more tab_ok hN H (by rfl) (by rfl) (by (try simp only [ren_s8v, ren_shv, s8v, shv, W32, h0]); first | done | exact ct_State) ?_); clear H; intro a w H; replace H := nf_State H; first | (simp only [ren_s8v, ren_shv] at H; replace H := nf_State H) | skip; (try simp only [List.drop_succ_cons, List.drop_zero, List.drop_nil]); try refine wpList_nil ?_) | refine wp_region_lit ?_)
  refine wp_ret ?_
  exact v_end [0] [] tab_ok ⟨hN, hR⟩ (rs := [.tmp 0]) (ress := [_]) rfl H (by rfl) (by rfl) (by simp [pickB, bxs, ren, idx?, sub_refl, sub, allP, ren_s8v, ren_shv, shv] <;> omega) (by first | rfl | (simp [ren_s8v, ren_shv, shv] <;> omega)) (by first | exact trivial | exact ⟨sub_refl _ _, trivial⟩ | exact ⟨sub_refl _ _, sub_refl _ _, trivial⟩ | exact ⟨sub_refl _ _, sub_refl _ _, sub_refl _ _, trivial⟩ | exact ⟨⟨rfl, sub_refl _ _, trivial⟩, sub_refl _ _, trivial⟩ | (simp [cargs, cargsG, St.ev, St.tmp, find, ren, idx?, sub_refl, sub, allP, resv, resC, bss, ren_s8v, ren_shv, shv] <;> omega)) rfl
theorem none_v (s : S8) (b : List UInt8) (n all : Nat) : VX Try.prog 57 [(ti105.ty, shv s b n all)] [] [] [.ptr 0 []] [(ti105.ty, shv s b n all)] [] [] (.v (.bool false)) := by
  refine v_enter Try.func57 rfl (by kernel_rfl) (by show 1 ≤ 12; decide) ?_
  intro N w0 a w hN hR H
  repeat (first | refine wp_seq ?_ | refine wp_block ?_ | refine wp_skip ?_ | refine wp_exit ?_ | ((first | refine v_some 5 tab_ok hN H (by rfl) (by (try simp only [ren_s8v, ren_shv, s8v, shv, W32, h0]); first | done | exact ct_State) ?_ | refine v_more tab_ok hN H (by rfl) (by rfl) (by (try simp only [ren_s8v, ren_shv, s8v, shv, W32, h0]); first | done | exact ct_State) ?_); clear H; intro a w H; replace H := nf_State H; first | (simp only [ren_s8v, ren_shv] at H; replace H := nf_State H) | skip; (try simp only [List.drop_succ_cons, List.drop_zero, List.drop_nil]); try refine wpList_nil ?_) | refine wp_region_lit ?_)
  refine wp_ret ?_
  exact v_end [0] [] tab_ok ⟨hN, hR⟩ (rs := [.tmp 2]) (ress := [_]) rfl H (by rfl) (by rfl) (by simp [pickB, bxs, ren, idx?, sub_refl, sub, allP, ren_s8v, ren_shv] <;> omega) (by first | rfl | (simp [ren_s8v, ren_shv] <;> omega)) (by first | exact trivial | exact ⟨sub_refl _ _, trivial⟩ | exact ⟨sub_refl _ _, sub_refl _ _, trivial⟩ | exact ⟨sub_refl _ _, sub_refl _ _, sub_refl _ _, trivial⟩ | exact ⟨⟨rfl, sub_refl _ _, trivial⟩, sub_refl _ _, trivial⟩ | (simp [cargs, cargsG, St.ev, St.tmp, find, ren, idx?, sub_refl, sub, allP, resv, resC, bss, ren_s8v, ren_shv] <;> omega)) rfl

/-- What a write makes of the state: a part of a block at a time. -/
def feed : Nat → S8 → List UInt8 → Nat → List UInt8 → S8 × List UInt8 × Nat
  | 0, s, b, n, _ => (s, b, n)
  | f + 1, s, b, n, l => if l = [] then (s, b, n) else
      let b' := b.take n ++ l.take (64 - n) ++ b.drop (n + (l.take (64 - n)).length)
      if n + (l.take (64 - n)).length = 64 then feed f (step s b') b' 0 (l.drop (l.take (64 - n)).length) else feed f s b' (n + (l.take (64 - n)).length) (l.drop (l.take (64 - n)).length)
set_option maxRecDepth 20000 in
theorem write_v (s : S8) (b : List UInt8) (n all : Nat) (l : List UInt8) (hb : b.length = 64) (hn : n < 64) (hl : l.length ≤ 34359738368) (ha : all ≤ 34359738368) :
    VX Try.prog 33 [(ti105.ty, shv s b n all)] [] [] [.ptr 0 [], .bs l none]
      [(ti105.ty, shv (feed l.length s b n l).1 (feed l.length s b n l).2.1 (feed l.length s b n l).2.2 (all + l.length))] [] [] (.v (.int .i64 (l.length : Int))) := by
  refine v_enter Try.func33 rfl (by kernel_rfl) (by show 2 ≤ 65; decide) ?_
  intro N w0 a w hN hR H
  repeat (first | refine wp_seq ?_ | refine wp_block ?_ | refine wp_skip ?_ | refine wp_exit ?_ | ((first | refine v_some 5 tab_ok hN H (by rfl) (by (try simp only [ren_s8v, ren_shv, s8v, shv, W32, h0]); first | done | exact ct_State) ?_ | refine v_more tab_ok hN H (by rfl) (by rfl) (by (try simp only [ren_s8v, ren_shv, s8v, shv, W32, h0]); first | done | exact ct_State) ?_); clear H; intro a w H; replace H := nf_State H; first | (simp only [ren_s8v, ren_shv] at H; replace H := nf_State H) | skip; (try simp only [List.drop_succ_cons, List.drop_zero, List.drop_nil]); try refine wpList_nil ?_) | refine wp_region_lit ?_)
  refine v_call [0] [] (none_v s b n all) H rfl rfl (by rfl) (by simp [pickB, bxs, ren, idx?, sub_refl, sub, allP, ren_s8v, ren_shv] <;> omega) (by first | rfl | (simp [ren_s8v, ren_shv] <;> omega)) (by first | exact trivial | exact ⟨sub_refl _ _, trivial⟩ | exact ⟨sub_refl _ _, sub_refl _ _, trivial⟩ | exact ⟨sub_refl _ _, sub_refl _ _, sub_refl _ _, trivial⟩ | exact ⟨⟨rfl, sub_refl _ _, trivial⟩, sub_refl _ _, trivial⟩ | (simp [cargs, cargsG, St.ev, St.tmp, find, ren, idx?, sub_refl, sub, allP, resv, resC, bss, ren_s8v, ren_shv] <;> omega)) ?_; clear H; intro a w H; replace H := nf_State H; first | (simp only [ren_s8v, ren_shv] at H; replace H := nf_State H) | skip; try refine wpList_nil ?_
  refine v_cond H (by rfl) (fun hb => ?_) (fun hb => ?_)
  · cases hb
  repeat (first | refine wp_seq ?_ | refine wp_block ?_ | refine wp_skip ?_ | refine wp_exit ?_ | ((first | refine v_some 5 tab_ok hN H (by rfl) (by (try simp only [ren_s8v, ren_shv, shv, s8v, shv, W32, h0]); first | done | exact ct_State) ?_ | refine v_more tab_ok hN H (by rfl) (by rfl) (by (try simp only [ren_s8v, ren_shv, shv, s8v, shv, W32, h0]); first | done | exact ct_State) ?_); clear H; intro a w H; replace H := nf_State H; first | (simp only [ren_s8v, ren_shv, shv] at H; replace H := nf_State H) | skip; (try simp only [List.drop_succ_cons, List.drop_zero, List.drop_nil]); try refine wpList_nil ?_) | refine wp_region_lit ?_)
  refine v_loop (fun i : S8 × List UInt8 × Nat × List UInt8 => ⟨[(0, none, .ptr 0 []), (1, none, .bs l none), (5, none, .bs i.2.2.2 none)], [(ti105.ty, .st [.v (.bool true), s8v i.1, .ba i.2.1, .v (.int .i64 (i.2.2.1 : Int)), .v (.int .i64 ((all : Int) + (l.length : Int)))])], [], []⟩)
    (fun i => i.2.1.length = 64 ∧ i.2.2.1 < 64 ∧ i.2.2.2.length ≤ l.length ∧ ∃ f, i.2.2.2.length ≤ f ∧ feed f i.1 i.2.1 i.2.2.1 i.2.2.2 = feed l.length s b n l) (fun i => i.2.2.2.length) (s, b, n, l) ⟨by assumption, hn, Nat.le_refl _, l.length, Nat.le_refl _, rfl⟩
    (H.to 1 0 ⟨hN, hR⟩ ⟨rfl, rfl, rfl, trivial⟩ rfl rfl rfl rfl rfl) ?_
  clear H
  rintro ⟨s', b', n', rest⟩ a w ⟨hb', hn', hr', f, hf, hfe⟩ H
  dsimp only at hb' hn' hr' hf hfe
  repeat (first | refine wp_seq ?_ | refine wp_block ?_ | refine wp_skip ?_ | refine wp_exit ?_ | ((first | refine v_some 5 tab_ok hN H (by rfl) (by (try simp only [ren_s8v, ren_shv, shv, s8v, shv, W32, h0]); first | done | exact ct_State) ?_ | refine v_more tab_ok hN H (by rfl) (by rfl) (by (try simp only [ren_s8v, ren_shv, shv, s8v, shv, W32, h0]); first | done | exact ct_State) ?_); clear H; intro a w H; replace H := nf_State H; first | (simp only [ren_s8v, ren_shv, shv] at H; replace H := nf_State H) | skip; (try simp only [List.drop_succ_cons, List.drop_zero, List.drop_nil]); try refine wpList_nil ?_) | refine wp_region_lit ?_)
  refine v_cond H (by rfl) (fun hb => ?_) (fun hb => ?_)
  · have h0 : 0 < rest.length := by simpa using hb
    repeat (first | refine wp_seq ?_ | refine wp_block ?_ | refine wp_skip ?_ | refine wp_exit ?_ | ((first | refine v_some 5 tab_ok hN H (by rfl) (by (try simp only [ren_s8v, ren_shv, shv, s8v, shv, W32, h0]); first | done | exact ct_State) ?_ | refine v_more tab_ok hN H (by rfl) (by rfl) (by (try simp only [ren_s8v, ren_shv, shv, s8v, shv, W32, h0]); first | done | exact ct_State) ?_); clear H; intro a w H; replace H := nf_State H; first | (simp only [ren_s8v, ren_shv, shv] at H; replace H := nf_State H) | skip; (try simp only [List.drop_succ_cons, List.drop_zero, List.drop_nil]); try refine wpList_nil ?_) | refine wp_region_lit ?_)
    repeat (first | refine wp_seq ?_ | refine wp_block ?_)
    refine v_draw 0 [9] [] (by kernel_rfl) (by kernel_rfl) H (by rfl) (fun gS H => ?_); try replace H := nt_State H; first | (simp only [ren_s8v, ren_shv, shv] at H; replace H := nt_State H) | skip
    refine v_moreT tab_ok hN H (by rfl) (by (try simp only [ren_s8v, ren_shv, shv, s8v, shv, W32, h0]); first | done | exact ct_State) ?_; clear H; intro a w H; try replace H := nt_State H; first | (simp only [ren_s8v, ren_shv, shv] at H; replace H := nt_State H) | skip
    refine v_drawNil H (fun H => ?_)
    obtain ⟨k, hk⟩ : ∃ k, k = (rest.take (64 - n')).length := ⟨_, rfl⟩
    rw [← hk] at H
    rw [List.length_take] at hk
    have hk1 : n' + k ≤ 64 ∧ 0 < k ∧ k ≤ rest.length := by omega
    have hk2 : (rest.take (64 - n')).length = k := by rw [List.length_take]; omega
    have hlb : (b'.take n' ++ rest.take (64 - n') ++ b'.drop (n' + k)).length = 64 := by simp only [List.length_append, List.length_take, List.length_drop]; omega
    obtain ⟨f, rfl⟩ : ∃ g, f = g + 1 := ⟨f - 1, by omega⟩
    have hne : rest ≠ [] := fun e => by subst e; simp at h0
    rw [feed, if_neg hne] at hfe
    dsimp only at hfe
    rw [hk2] at hfe
    have hdl : (rest.drop k).length = rest.length - k := List.length_drop
    repeat (first | refine wp_seq ?_ | refine wp_block ?_ | refine wp_skip ?_ | refine wp_exit ?_ | ((first | refine v_some 5 tab_ok hN H (by rfl) (by (try simp only [ren_s8v, ren_shv, shv, s8v, shv, W32, h0]); first | done | exact ct_State) ?_ | refine v_more tab_ok hN H (by rfl) (by rfl) (by (try simp only [ren_s8v, ren_shv, shv, s8v, shv, W32, h0]); first | done | exact ct_State) ?_); clear H; intro a w H; replace H := nf_State H; first | (simp only [ren_s8v, ren_shv, shv] at H; replace H := nf_State H) | skip; (try simp only [List.drop_succ_cons, List.drop_zero, List.drop_nil]); try refine wpList_nil ?_) | refine wp_region_lit ?_)
    refine v_cond H (by rfl) (fun hb => ?_) (fun hb => ?_)
    · have he : n' + k = 64 := by simp at hb; omega
      rw [if_pos he] at hfe
      repeat (first | refine wp_seq ?_ | refine wp_block ?_ | refine wp_skip ?_ | refine wp_exit ?_ | ((first | refine v_some 5 tab_ok hN H (by rfl) (by (try simp only [ren_s8v, ren_shv, shv, s8v, shv, W32, h0]); first | done | exact ct_State) ?_ | refine v_more tab_ok hN H (by rfl) (by rfl) (by (try simp only [ren_s8v, ren_shv, shv, s8v, shv, W32, h0]); first | done | exact ct_State) ?_); clear H; intro a w H; replace H := nf_State H; first | (simp only [ren_s8v, ren_shv, shv] at H; replace H := nf_State H) | skip; (try simp only [List.drop_succ_cons, List.drop_zero, List.drop_nil]); try refine wpList_nil ?_) | refine wp_region_lit ?_)
      repeat (first | refine wp_seq ?_ | refine wp_block ?_)
      refine v_draw 0 [10, 13, 16] [0, 1] (by kernel_rfl) (by kernel_rfl) H (by rfl) (fun gS H => ?_); try replace H := nt_State H; first | (simp only [ren_s8v, ren_shv, shv] at H; replace H := nt_State H) | skip
      refine v_moreT tab_ok hN H (by rfl) (by (try simp only [ren_s8v, ren_shv, shv, s8v, shv, W32, h0]); first | done | exact ct_State) ?_; clear H; intro a w H; try replace H := nt_State H; first | (simp only [ren_s8v, ren_shv, shv] at H; replace H := nt_State H) | skip
      refine v_callT [] [] (step_v s' (b'.take n' ++ rest.take (64 - n') ++ b'.drop (n' + k)) hlb) H (by rfl) (by rfl) rfl rfl (by rfl) (by simp [pickB, bxs, ren, idx?, sub_refl, sub, allP, ren_s8v, ren_shv, shv] <;> omega) (by first | rfl | (simp [ren_s8v, ren_shv, shv] <;> omega)) (by first | exact trivial | exact ⟨sub_refl _ _, trivial⟩ | exact ⟨sub_refl _ _, sub_refl _ _, trivial⟩ | exact ⟨sub_refl _ _, sub_refl _ _, sub_refl _ _, trivial⟩ | exact ⟨⟨rfl, sub_refl _ _, trivial⟩, sub_refl _ _, trivial⟩ | (simp [cargs, cargsG, St.ev, St.tmp, find, ren, idx?, sub_refl, sub, allP, resv, resC, bss, ren_s8v, ren_shv, shv] <;> omega)) ?_; clear H; intro a w H; try replace H := nt_State H; first | (simp only [ren_s8v, ren_shv, shv] at H; replace H := nt_State H) | skip
      refine v_moreT tab_ok hN H (by rfl) (by (try simp only [ren_s8v, ren_shv, shv, s8v, shv, W32, h0]); first | done | exact ct_State) ?_; clear H; intro a w H; try replace H := nt_State H; first | (simp only [ren_s8v, ren_shv, shv] at H; replace H := nt_State H) | skip
      refine v_drawNil H (fun H => ?_)
      repeat (first | refine wp_seq ?_ | refine wp_block ?_ | refine wp_skip ?_ | refine wp_exit ?_ | ((first | refine v_some 5 tab_ok hN H (by rfl) (by (try simp only [ren_s8v, ren_shv, shv, s8v, shv, W32, h0]); first | done | exact ct_State) ?_ | refine v_more tab_ok hN H (by rfl) (by rfl) (by (try simp only [ren_s8v, ren_shv, shv, s8v, shv, W32, h0]); first | done | exact ct_State) ?_); clear H; intro a w H; replace H := nf_State H; first | (simp only [ren_s8v, ren_shv, shv] at H; replace H := nf_State H) | skip; (try simp only [List.drop_succ_cons, List.drop_zero, List.drop_nil]); try refine wpList_nil ?_) | refine wp_region_lit ?_)
      exact ⟨(_, _, 0, rest.drop k), ⟨hlb, by show 0 < 64; decide, by dsimp only; omega, f, by dsimp only; omega, hfe⟩, by dsimp only; omega, H.to 1 0 ⟨hN, hR⟩ ⟨rfl, rfl, rfl, trivial⟩ rfl rfl rfl rfl rfl⟩
    · have he : ¬ n' + k = 64 := by simp at hb; omega
      rw [if_neg he] at hfe
      repeat (first | refine wp_seq ?_ | refine wp_block ?_ | refine wp_skip ?_ | refine wp_exit ?_ | ((first | refine v_some 5 tab_ok hN H (by rfl) (by (try simp only [ren_s8v, ren_shv, shv, s8v, shv, W32, h0]); first | done | exact ct_State) ?_ | refine v_more tab_ok hN H (by rfl) (by rfl) (by (try simp only [ren_s8v, ren_shv, shv, s8v, shv, W32, h0]); first | done | exact ct_State) ?_); clear H; intro a w H; replace H := nf_State H; first | (simp only [ren_s8v, ren_shv, shv] at H; replace H := nf_State H) | skip; (try simp only [List.drop_succ_cons, List.drop_zero, List.drop_nil]); try refine wpList_nil ?_) | refine wp_region_lit ?_)
      exact ⟨(s', _, n' + k, rest.drop k), ⟨hlb, by dsimp only; omega, by dsimp only; omega, f, by dsimp only; omega, hfe⟩, by dsimp only; omega, H.to 1 0 ⟨hN, hR⟩ ⟨rfl, rfl, rfl, trivial⟩ rfl rfl rfl rfl rfl⟩
  · have h0 : rest = [] := by simp at hb; exact hb
    subst h0
    have hfe2 : feed l.length s b n l = (s', b', n') := by
      rw [← hfe]; cases f with
      | zero => rfl
      | succ f => rw [feed, if_pos rfl]
    rw [hfe2]
    repeat (first | refine wp_seq ?_ | refine wp_block ?_ | refine wp_skip ?_ | refine wp_exit ?_ | ((first | refine v_some 5 tab_ok hN H (by rfl) (by (try simp only [ren_s8v, ren_shv, shv, s8v, shv, W32, h0]); first | done | exact ct_State) ?_ | refine v_more tab_ok hN H (by rfl) (by rfl) (by (try simp only [ren_s8v, ren_shv, shv, s8v, shv, W32, h0]); first | done | exact ct_State) ?_); clear H; intro a w H; replace H := nf_State H; first | (simp only [ren_s8v, ren_shv, shv] at H; replace H := nf_State H) | skip; (try simp only [List.drop_succ_cons, List.drop_zero, List.drop_nil]); try refine wpList_nil ?_) | refine wp_region_lit ?_)
    refine wp_ret ?_
    exact v_end [0] [] tab_ok ⟨hN, hR⟩ (rs := [.tmp 4]) (ress := [_]) rfl H (by rfl) (by rfl) (by simp [pickB, bxs, ren, idx?, sub_refl, sub, allP, ren_s8v, ren_shv, shv] <;> omega) (by first | rfl | (simp [ren_s8v, ren_shv, shv] <;> omega)) (by first | exact trivial | exact ⟨sub_refl _ _, trivial⟩ | exact ⟨sub_refl _ _, sub_refl _ _, trivial⟩ | exact ⟨sub_refl _ _, sub_refl _ _, sub_refl _ _, trivial⟩ | exact ⟨⟨rfl, sub_refl _ _, trivial⟩, sub_refl _ _, trivial⟩ | (simp [cargs, cargsG, St.ev, St.tmp, find, ren, idx?, sub_refl, sub, allP, resv, resC, bss, ren_s8v, ren_shv, shv] <;> omega)) rfl
end Go.Proofs.Ytlagngkafllbiaa
