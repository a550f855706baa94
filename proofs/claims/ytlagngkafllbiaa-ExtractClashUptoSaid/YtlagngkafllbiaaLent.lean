/- Nodes of the program: checked, written, read; digests. -/
import Derived.Test.YtlagngkafllbiaaDigest
import Derived.Lib.Bytealg
import Derived.Laws.Externs
import Derived.BigQuiet
import Derived.BigRegion
import Derived.Test.YtlagngkafllbiaaTab
set_option linter.unusedSimpArgs false
set_option linter.unusedVariables false
namespace Go.Proofs.Ytlagngkafllbiaa
open Go Go.RowKit
/-- The state made plain. -/
theorem nf_Node {P : Program} {w0 w : World} {N : Gh} {nt : Nat} {st s2 : St} {a : Act} (H : Rel P w0 N nt st a w) (h : st = s2 := by (try simp only [pk, elemB, St.put, St.ev, St.tmp, St.keep, find, dropT, slots, AV.put, AV.loc, fitI, convI, IntKind.signed, IntKind.bits, strip, St.lose, mergeL, setAll, nth, renB, ren, idx?, sub, allP, low, bnd, Int.reduceEq, Nat.reduceAdd, Nat.reduceLT, reduceIte, reduceCtorEq, Nat.reduceEqDiff, Nat.reduceLeDiff, Nat.reduceBEq, Int.reducePow, Int.reduceToNat, ti24_t, ti24_z, ti5_t, ti5_z, ti62_t, ti62_z, ti30_t, ti30_z, ti23_t, ti23_z]); rfl) : Rel P w0 N nt s2 a w := h ▸ H
theorem ct_Node {c : Prop} (h : c := by ((try simp only [pk, elemB, St.put, St.ev, St.tmp, St.keep, find, dropT, slots, AV.put, AV.loc, fitI, convI, IntKind.signed, IntKind.bits, strip, St.lose, mergeL, setAll, nth, renB, ren, idx?, sub, allP, low, bnd, Int.reduceEq, Nat.reduceAdd, Nat.reduceLT, reduceIte, reduceCtorEq, Nat.reduceEqDiff, Nat.reduceLeDiff, Nat.reduceBEq, Int.reducePow, Int.reduceToNat, ti24_t, ti24_z, ti5_t, ti5_z, ti62_t, ti62_z, ti30_t, ti30_z, ti23_t, ti23_z, ti24, ti5, ti62, ti30, ti23, fit, gcond, ilo, ihi]); first | done | exact cd | exact cd2 | skip)) : c := h
structure Nd where
  k : UInt8
  key : List UInt8
  v : List UInt8
  l : List UInt8
  r : List UInt8
  deriving DecidableEq
def z32 : List UInt8 := List.replicate 32 0
theorem hz : List.replicate 32 (0 : UInt8) = z32 := rfl
structure Nd.wf (n : Nd) : Prop where
  key : n.key.length = 32
  v : n.v.length = 32
  l : n.l.length = 32
  r : n.r.length = 32
def Nd.av (n : Nd) : AV := .st [.v (B8 n.k), .ba n.key, .ba n.v, .ba n.l, .ba n.r]
def Nd.zero : Nd := ⟨0, z32, z32, z32, z32⟩
/-- What a node is but for what its kind does not bear. -/
def Nd.bare (n : Nd) : Nd := if n.k = 1 then ⟨1, n.key, n.v, z32, z32⟩ else if n.k = 2 then ⟨2, z32, z32, n.l, n.r⟩ else .zero
def Nd.ok (n : Nd) : Prop := n = n.bare
instance (n : Nd) : Decidable n.ok := inferInstanceAs (Decidable (n = n.bare))
def Nd.text (n : Nd) : List UInt8 := if n.k = 1 then 1 :: (n.key ++ n.v) else if n.k = 2 then 2 :: (n.l ++ n.r) else [0]
abbrev errv (n : Int) : AV := .v (.int .i64 n)
theorem same_v (l m : List UInt8) : VC Try.prog 24 [.bs l none, .bs m none] [] (.v (.bool (l == m))) := by
  refine v_enter Try.func24 rfl (by kernel_rfl) (by show 2 ≤ 10; decide) ?_
  intro N w0 a w hN hR H
  repeat (first | refine wp_seq ?_ | refine wp_block ?_ | refine wp_skip ?_ | refine wp_exit ?_ | ((first | refine v_some 5 tab_ok hN H (by rfl) (by (try simp only [strOf_list]); first | done | exact ct_Node) ?_ | refine v_more tab_ok hN H (by rfl) (by rfl) (by (try simp only [strOf_list]); first | done | exact ct_Node) ?_); clear H; intro a w H; replace H := nf_Node H; first | (simp only [strOf_list] at H; replace H := nf_Node H) | skip; (try simp only [List.drop_succ_cons, List.drop_zero, List.drop_nil]); try refine wpList_nil ?_) | refine wp_region_lit ?_)
  refine wp_ret ?_
  exact v_end [] [] tab_ok ⟨hN, hR⟩ (rs := [.tmp 4]) (ress := [_]) rfl H (by rfl) (by rfl) (by simp [pickB, bxs, ren, idx?, sub_refl, sub, allP, strOf_list] <;> omega) (by first | rfl | (simp [strOf_list] <;> omega)) (by first | exact trivial | exact ⟨sub_refl _ _, trivial⟩ | exact ⟨sub_refl _ _, sub_refl _ _, trivial⟩ | exact ⟨sub_refl _ _, sub_refl _ _, sub_refl _ _, trivial⟩ | exact ⟨⟨rfl, sub_refl _ _, trivial⟩, sub_refl _ _, trivial⟩ | (simp [cargs, cargsG, St.ev, St.tmp, find, ren, idx?, sub_refl, sub, allP, resv, resC, bss, strOf_list] <;> omega)) rfl
theorem check_v (n : Nd) (hw : n.wf) : VC Try.prog 51 [n.av] [] (errv (if n.ok then 0 else 2)) := by
  obtain ⟨k, key, v, l, r⟩ := n
  obtain ⟨h1, h2, h3, h4⟩ := hw
  dsimp only at h1 h2 h3 h4
  refine v_enter Try.func51 rfl (by kernel_rfl) (by show 1 ≤ 25; decide) ?_
  intro N w0 a w hN hR H
  simp only [Nd.av] at H
  have hk0 : ((k.toNat : Int) = 0) ↔ k = 0 := ⟨fun h => UInt8.toNat_inj.1 (by simpa using h), fun h => by subst h; rfl⟩
  have hk1 : ((k.toNat : Int) = 1) ↔ k = 1 := ⟨fun h => UInt8.toNat_inj.1 (by simp; omega), fun h => by subst h; rfl⟩
  have hk2 : ((k.toNat : Int) = 2) ↔ k = 2 := ⟨fun h => UInt8.toNat_inj.1 (by simp; omega), fun h => by subst h; rfl⟩
  repeat (first | refine wp_seq ?_ | refine wp_block ?_ | refine wp_skip ?_ | refine wp_exit ?_ | ((first | refine v_some 5 tab_ok hN H (by rfl) ct_Node ?_ | refine v_more tab_ok hN H (by rfl) (by rfl) ct_Node ?_); clear H; intro a w H; replace H := nf_Node H; (try simp only [List.drop_succ_cons, List.drop_zero, List.drop_nil]); try refine wpList_nil ?_) | refine wp_region_lit ?_)
  refine v_cond H (by rfl) (fun hb => ?_) (fun hb => ?_)
  · repeat (first | refine wp_seq ?_ | refine wp_block ?_ | refine wp_skip ?_ | refine wp_exit ?_ | ((first | refine v_some 5 tab_ok hN H (by rfl) ct_Node ?_ | refine v_more tab_ok hN H (by rfl) (by rfl) ct_Node ?_); clear H; intro a w H; replace H := nf_Node H; (try simp only [List.drop_succ_cons, List.drop_zero, List.drop_nil]); try refine wpList_nil ?_) | refine wp_region_lit ?_)
    refine v_cond H (by rfl) (fun hb => ?_) (fun hb => ?_)
    · have hok : ¬ Nd.ok ⟨k, key, v, l, r⟩ := by clear H; simp only [Bool.not_eq_true', Bool.not_eq_false', Bool.and_eq_true, Bool.and_eq_false_imp, decide_eq_true_eq, decide_eq_false_iff_not] at hb; simp only [hz] at hb; simp_all [Nd.ok, Nd.bare, Nd.zero]
      rw [if_neg hok]
      repeat (first | refine wp_seq ?_ | refine wp_block ?_ | refine wp_skip ?_ | refine wp_exit ?_ | ((first | refine v_some 5 tab_ok hN H (by rfl) ct_Node ?_ | refine v_more tab_ok hN H (by rfl) (by rfl) ct_Node ?_); clear H; intro a w H; replace H := nf_Node H; (try simp only [List.drop_succ_cons, List.drop_zero, List.drop_nil]); try refine wpList_nil ?_) | refine wp_region_lit ?_)
      refine wp_ret ?_
      exact v_end [] [] tab_ok ⟨hN, hR⟩ (rs := [.tmp 2]) (ress := [_]) rfl H (by rfl) (by rfl) cb cw ca rfl
    · have hok : Nd.ok ⟨k, key, v, l, r⟩ := by clear H; simp only [Bool.not_eq_true', Bool.not_eq_false', Bool.and_eq_true, Bool.and_eq_false_imp, decide_eq_true_eq, decide_eq_false_iff_not] at hb; simp only [hz] at hb; simp_all [Nd.ok, Nd.bare, Nd.zero]
      rw [if_pos hok]
      repeat (first | refine wp_seq ?_ | refine wp_block ?_ | refine wp_skip ?_ | refine wp_exit ?_ | ((first | refine v_some 5 tab_ok hN H (by rfl) ct_Node ?_ | refine v_more tab_ok hN H (by rfl) (by rfl) ct_Node ?_); clear H; intro a w H; replace H := nf_Node H; (try simp only [List.drop_succ_cons, List.drop_zero, List.drop_nil]); try refine wpList_nil ?_) | refine wp_region_lit ?_)
      refine wp_ret ?_
      exact v_end [] [] tab_ok ⟨hN, hR⟩ (rs := [.tmp 2]) (ress := [_]) rfl H (by rfl) (by rfl) cb cw ca rfl
  · repeat (first | refine wp_seq ?_ | refine wp_block ?_ | refine wp_skip ?_ | refine wp_exit ?_ | ((first | refine v_some 5 tab_ok hN H (by rfl) ct_Node ?_ | refine v_more tab_ok hN H (by rfl) (by rfl) ct_Node ?_); clear H; intro a w H; replace H := nf_Node H; (try simp only [List.drop_succ_cons, List.drop_zero, List.drop_nil]); try refine wpList_nil ?_) | refine wp_region_lit ?_)
    refine v_cond H (by rfl) (fun hb => ?_) (fun hb => ?_)
    · repeat (first | refine wp_seq ?_ | refine wp_block ?_ | refine wp_skip ?_ | refine wp_exit ?_ | ((first | refine v_some 5 tab_ok hN H (by rfl) ct_Node ?_ | refine v_more tab_ok hN H (by rfl) (by rfl) ct_Node ?_); clear H; intro a w H; replace H := nf_Node H; (try simp only [List.drop_succ_cons, List.drop_zero, List.drop_nil]); try refine wpList_nil ?_) | refine wp_region_lit ?_)
      refine v_cond H (by rfl) (fun hb => ?_) (fun hb => ?_)
      · have hok : ¬ Nd.ok ⟨k, key, v, l, r⟩ := by clear H; simp only [Bool.not_eq_true', Bool.not_eq_false', Bool.and_eq_true, Bool.and_eq_false_imp, decide_eq_true_eq, decide_eq_false_iff_not] at hb; simp only [hz] at hb; simp_all [Nd.ok, Nd.bare, Nd.zero]
        rw [if_neg hok]
        repeat (first | refine wp_seq ?_ | refine wp_block ?_ | refine wp_skip ?_ | refine wp_exit ?_ | ((first | refine v_some 5 tab_ok hN H (by rfl) ct_Node ?_ | refine v_more tab_ok hN H (by rfl) (by rfl) ct_Node ?_); clear H; intro a w H; replace H := nf_Node H; (try simp only [List.drop_succ_cons, List.drop_zero, List.drop_nil]); try refine wpList_nil ?_) | refine wp_region_lit ?_)
        refine wp_ret ?_
        exact v_end [] [] tab_ok ⟨hN, hR⟩ (rs := [.tmp 2]) (ress := [_]) rfl H (by rfl) (by rfl) cb cw ca rfl
      · have hok : Nd.ok ⟨k, key, v, l, r⟩ := by clear H; simp only [Bool.not_eq_true', Bool.not_eq_false', Bool.and_eq_true, Bool.and_eq_false_imp, decide_eq_true_eq, decide_eq_false_iff_not] at hb; simp only [hz] at hb; simp_all [Nd.ok, Nd.bare, Nd.zero]
        rw [if_pos hok]
        repeat (first | refine wp_seq ?_ | refine wp_block ?_ | refine wp_skip ?_ | refine wp_exit ?_ | ((first | refine v_some 5 tab_ok hN H (by rfl) ct_Node ?_ | refine v_more tab_ok hN H (by rfl) (by rfl) ct_Node ?_); clear H; intro a w H; replace H := nf_Node H; (try simp only [List.drop_succ_cons, List.drop_zero, List.drop_nil]); try refine wpList_nil ?_) | refine wp_region_lit ?_)
        refine wp_ret ?_
        exact v_end [] [] tab_ok ⟨hN, hR⟩ (rs := [.tmp 2]) (ress := [_]) rfl H (by rfl) (by rfl) cb cw ca rfl
    · repeat (first | refine wp_seq ?_ | refine wp_block ?_ | refine wp_skip ?_ | refine wp_exit ?_ | ((first | refine v_some 5 tab_ok hN H (by rfl) ct_Node ?_ | refine v_more tab_ok hN H (by rfl) (by rfl) ct_Node ?_); clear H; intro a w H; replace H := nf_Node H; (try simp only [List.drop_succ_cons, List.drop_zero, List.drop_nil]); try refine wpList_nil ?_) | refine wp_region_lit ?_)
      refine v_cond H (by rfl) (fun hb => ?_) (fun hb => ?_)
      · repeat (first | refine wp_seq ?_ | refine wp_block ?_ | refine wp_skip ?_ | refine wp_exit ?_ | ((first | refine v_some 5 tab_ok hN H (by rfl) ct_Node ?_ | refine v_more tab_ok hN H (by rfl) (by rfl) ct_Node ?_); clear H; intro a w H; replace H := nf_Node H; (try simp only [List.drop_succ_cons, List.drop_zero, List.drop_nil]); try refine wpList_nil ?_) | refine wp_region_lit ?_)
        refine v_cond H (by rfl) (fun hb => ?_) (fun hb => ?_)
        · have hok : ¬ Nd.ok ⟨k, key, v, l, r⟩ := by clear H; simp only [Bool.not_eq_true', Bool.not_eq_false', Bool.and_eq_true, Bool.and_eq_false_imp, decide_eq_true_eq, decide_eq_false_iff_not] at hb; simp only [hz] at hb; simp_all [Nd.ok, Nd.bare, Nd.zero]
          rw [if_neg hok]
          repeat (first | refine wp_seq ?_ | refine wp_block ?_ | refine wp_skip ?_ | refine wp_exit ?_ | ((first | refine v_some 5 tab_ok hN H (by rfl) ct_Node ?_ | refine v_more tab_ok hN H (by rfl) (by rfl) ct_Node ?_); clear H; intro a w H; replace H := nf_Node H; (try simp only [List.drop_succ_cons, List.drop_zero, List.drop_nil]); try refine wpList_nil ?_) | refine wp_region_lit ?_)
          refine wp_ret ?_
          exact v_end [] [] tab_ok ⟨hN, hR⟩ (rs := [.tmp 2]) (ress := [_]) rfl H (by rfl) (by rfl) cb cw ca rfl
        · have hok : Nd.ok ⟨k, key, v, l, r⟩ := by clear H; simp only [Bool.not_eq_true', Bool.not_eq_false', Bool.and_eq_true, Bool.and_eq_false_imp, decide_eq_true_eq, decide_eq_false_iff_not] at hb; simp only [hz] at hb; simp_all [Nd.ok, Nd.bare, Nd.zero]
          rw [if_pos hok]
          repeat (first | refine wp_seq ?_ | refine wp_block ?_ | refine wp_skip ?_ | refine wp_exit ?_ | ((first | refine v_some 5 tab_ok hN H (by rfl) ct_Node ?_ | refine v_more tab_ok hN H (by rfl) (by rfl) ct_Node ?_); clear H; intro a w H; replace H := nf_Node H; (try simp only [List.drop_succ_cons, List.drop_zero, List.drop_nil]); try refine wpList_nil ?_) | refine wp_region_lit ?_)
          refine wp_ret ?_
          exact v_end [] [] tab_ok ⟨hN, hR⟩ (rs := [.tmp 2]) (ress := [_]) rfl H (by rfl) (by rfl) cb cw ca rfl
      · repeat (first | refine wp_seq ?_ | refine wp_block ?_ | refine wp_skip ?_ | refine wp_exit ?_ | ((first | refine v_some 5 tab_ok hN H (by rfl) ct_Node ?_ | refine v_more tab_ok hN H (by rfl) (by rfl) ct_Node ?_); clear H; intro a w H; replace H := nf_Node H; (try simp only [List.drop_succ_cons, List.drop_zero, List.drop_nil]); try refine wpList_nil ?_) | refine wp_region_lit ?_)
        refine v_cond H (by rfl) (fun hb => ?_) (fun hb => ?_)
        · have hok : ¬ Nd.ok ⟨k, key, v, l, r⟩ := by clear H; simp only [Bool.not_eq_true', Bool.not_eq_false', Bool.and_eq_true, Bool.and_eq_false_imp, decide_eq_true_eq, decide_eq_false_iff_not] at hb; simp only [hz] at hb; simp_all [Nd.ok, Nd.bare, Nd.zero]
          rw [if_neg hok]
          repeat (first | refine wp_seq ?_ | refine wp_block ?_ | refine wp_skip ?_ | refine wp_exit ?_ | ((first | refine v_some 5 tab_ok hN H (by rfl) ct_Node ?_ | refine v_more tab_ok hN H (by rfl) (by rfl) ct_Node ?_); clear H; intro a w H; replace H := nf_Node H; (try simp only [List.drop_succ_cons, List.drop_zero, List.drop_nil]); try refine wpList_nil ?_) | refine wp_region_lit ?_)
          refine wp_ret ?_
          exact v_end [] [] tab_ok ⟨hN, hR⟩ (rs := [.tmp 2]) (ress := [_]) rfl H (by rfl) (by rfl) cb cw ca rfl
        · have hok : Nd.ok ⟨k, key, v, l, r⟩ := by clear H; simp only [Bool.not_eq_true', Bool.not_eq_false', Bool.and_eq_true, Bool.and_eq_false_imp, decide_eq_true_eq, decide_eq_false_iff_not] at hb; simp only [hz] at hb; simp_all [Nd.ok, Nd.bare, Nd.zero]
          rw [if_pos hok]
          repeat (first | refine wp_seq ?_ | refine wp_block ?_ | refine wp_skip ?_ | refine wp_exit ?_ | ((first | refine v_some 5 tab_ok hN H (by rfl) ct_Node ?_ | refine v_more tab_ok hN H (by rfl) (by rfl) ct_Node ?_); clear H; intro a w H; replace H := nf_Node H; (try simp only [List.drop_succ_cons, List.drop_zero, List.drop_nil]); try refine wpList_nil ?_) | refine wp_region_lit ?_)
          refine wp_ret ?_
          exact v_end [] [] tab_ok ⟨hN, hR⟩ (rs := [.tmp 2]) (ress := [_]) rfl H (by rfl) (by rfl) cb cw ca rfl
theorem encode_ok (n : Nd) (hw : n.wf) (h : n.ok) : VC Try.prog 28 [n.av] [(5, n.text.length)] (.tup [.bs n.text (some 0), errv 0]) := by
  have hck := check_v n hw
  rw [if_pos h] at hck
  obtain ⟨k, key, v, l, r⟩ := n
  obtain ⟨h1, h2, h3, h4⟩ := hw
  dsimp only at h1 h2 h3 h4
  refine v_enter Try.func28 rfl (by kernel_rfl) (by show 1 ≤ 27; decide) ?_
  intro N w0 a w hN hR H
  have hk1 : ((k.toNat : Int) = 1) ↔ k = 1 := ⟨fun h => UInt8.toNat_inj.1 (by simp; omega), fun h => by subst h; rfl⟩
  have hk2 : ((k.toNat : Int) = 2) ↔ k = 2 := ⟨fun h => UInt8.toNat_inj.1 (by simp; omega), fun h => by subst h; rfl⟩
  simp only [Nd.av] at H hck
  repeat (first | refine wp_seq ?_ | refine wp_block ?_ | refine wp_skip ?_ | refine wp_exit ?_ | ((first | refine v_some 5 tab_ok hN H (by rfl) ct_Node ?_ | refine v_more tab_ok hN H (by rfl) (by rfl) ct_Node ?_); clear H; intro a w H; replace H := nf_Node H; (try simp only [List.drop_succ_cons, List.drop_zero, List.drop_nil]); try refine wpList_nil ?_) | refine wp_region_lit ?_)
  refine v_call [] [] (hck) H rfl rfl (by rfl) cb cw ca ?_; clear H; intro a w H; replace H := nf_Node H; try refine wpList_nil ?_
  repeat (first | refine wp_seq ?_ | refine wp_block ?_ | refine wp_skip ?_ | refine wp_exit ?_ | ((first | refine v_some 5 tab_ok hN H (by rfl) ct_Node ?_ | refine v_more tab_ok hN H (by rfl) (by rfl) ct_Node ?_); clear H; intro a w H; replace H := nf_Node H; (try simp only [List.drop_succ_cons, List.drop_zero, List.drop_nil]); try refine wpList_nil ?_) | refine wp_region_lit ?_)
  refine v_cond H (by rfl) (fun hb => ?_) (fun hb => ?_)
  · simp at hb
  · repeat (first | refine wp_seq ?_ | refine wp_block ?_ | refine wp_skip ?_ | refine wp_exit ?_ | ((first | refine v_some 5 tab_ok hN H (by rfl) ct_Node ?_ | refine v_more tab_ok hN H (by rfl) (by rfl) ct_Node ?_); clear H; intro a w H; replace H := nf_Node H; (try simp only [List.drop_succ_cons, List.drop_zero, List.drop_nil]); try refine wpList_nil ?_) | refine wp_region_lit ?_)
    refine v_cond H (by rfl) (fun hb => ?_) (fun hb => ?_)
    · have hk : k = 1 := hk1.1 (by simpa using hb)
      subst hk
      repeat (first | refine wp_seq ?_ | refine wp_block ?_ | refine wp_skip ?_ | refine wp_exit ?_ | ((first | refine v_some 5 tab_ok hN H (by rfl) ct_Node ?_ | refine v_more tab_ok hN H (by rfl) (by rfl) ct_Node ?_); clear H; intro a w H; replace H := nf_Node H; (try simp only [List.drop_succ_cons, List.drop_zero, List.drop_nil]); try refine wpList_nil ?_) | refine wp_region_lit ?_)
      refine v_call [] [] (leafText_v key v h1 h2) H rfl rfl (by rfl) cb cw ca ?_; clear H; intro a w H; replace H := nf_Node H; try refine wpList_nil ?_
      repeat (first | refine wp_seq ?_ | refine wp_block ?_ | refine wp_skip ?_ | refine wp_exit ?_ | ((first | refine v_some 5 tab_ok hN H (by rfl) ct_Node ?_ | refine v_more tab_ok hN H (by rfl) (by rfl) ct_Node ?_); clear H; intro a w H; replace H := nf_Node H; (try simp only [List.drop_succ_cons, List.drop_zero, List.drop_nil]); try refine wpList_nil ?_) | refine wp_region_lit ?_)
      refine wp_ret ?_
      exact v_end [] [0] tab_ok ⟨hN, hR⟩ (rs := [.tmp 2, .tmp 3]) (ress := [_, _]) rfl H (by rfl) (by rfl) (by simp [pickB, bxs, ren, idx?, sub_refl, sub, allP, Nd.text] <;> omega) (by first | rfl | (simp [Nd.text] <;> omega)) (by first | exact trivial | exact ⟨sub_refl _ _, trivial⟩ | exact ⟨sub_refl _ _, sub_refl _ _, trivial⟩ | exact ⟨sub_refl _ _, sub_refl _ _, sub_refl _ _, trivial⟩ | exact ⟨⟨rfl, sub_refl _ _, trivial⟩, sub_refl _ _, trivial⟩ | (simp [cargs, cargsG, St.ev, St.tmp, find, ren, idx?, sub_refl, sub, allP, resv, resC, bss, Nd.text] <;> omega)) rfl
    · repeat (first | refine wp_seq ?_ | refine wp_block ?_ | refine wp_skip ?_ | refine wp_exit ?_ | ((first | refine v_some 5 tab_ok hN H (by rfl) (by (try simp only [Nd.text]); first | done | exact ct_Node) ?_ | refine v_more tab_ok hN H (by rfl) (by rfl) (by (try simp only [Nd.text]); first | done | exact ct_Node) ?_); clear H; intro a w H; replace H := nf_Node H; first | (simp only [Nd.text] at H; replace H := nf_Node H) | skip; (try simp only [List.drop_succ_cons, List.drop_zero, List.drop_nil]); try refine wpList_nil ?_) | refine wp_region_lit ?_)
      refine v_cond H (by rfl) (fun hb => ?_) (fun hb => ?_)
      · have hk : k = 2 := hk2.1 (by simpa using hb)
        subst hk
        repeat (first | refine wp_seq ?_ | refine wp_block ?_ | refine wp_skip ?_ | refine wp_exit ?_ | ((first | refine v_some 5 tab_ok hN H (by rfl) (by (try simp only [Nd.text]); first | done | exact ct_Node) ?_ | refine v_more tab_ok hN H (by rfl) (by rfl) (by (try simp only [Nd.text]); first | done | exact ct_Node) ?_); clear H; intro a w H; replace H := nf_Node H; first | (simp only [Nd.text] at H; replace H := nf_Node H) | skip; (try simp only [List.drop_succ_cons, List.drop_zero, List.drop_nil]); try refine wpList_nil ?_) | refine wp_region_lit ?_)
        refine v_call [] [] (innerText_v l r h3 h4) H rfl rfl (by rfl) (by simp [pickB, bxs, ren, idx?, sub_refl, sub, allP, Nd.text] <;> omega) (by first | rfl | (simp [Nd.text] <;> omega)) (by first | exact trivial | exact ⟨sub_refl _ _, trivial⟩ | exact ⟨sub_refl _ _, sub_refl _ _, trivial⟩ | exact ⟨sub_refl _ _, sub_refl _ _, sub_refl _ _, trivial⟩ | exact ⟨⟨rfl, sub_refl _ _, trivial⟩, sub_refl _ _, trivial⟩ | (simp [cargs, cargsG, St.ev, St.tmp, find, ren, idx?, sub_refl, sub, allP, resv, resC, bss, Nd.text] <;> omega)) ?_; clear H; intro a w H; replace H := nf_Node H; first | (simp only [Nd.text] at H; replace H := nf_Node H) | skip; try refine wpList_nil ?_
        repeat (first | refine wp_seq ?_ | refine wp_block ?_ | refine wp_skip ?_ | refine wp_exit ?_ | ((first | refine v_some 5 tab_ok hN H (by rfl) (by (try simp only [Nd.text]); first | done | exact ct_Node) ?_ | refine v_more tab_ok hN H (by rfl) (by rfl) (by (try simp only [Nd.text]); first | done | exact ct_Node) ?_); clear H; intro a w H; replace H := nf_Node H; first | (simp only [Nd.text] at H; replace H := nf_Node H) | skip; (try simp only [List.drop_succ_cons, List.drop_zero, List.drop_nil]); try refine wpList_nil ?_) | refine wp_region_lit ?_)
        refine wp_ret ?_
        exact v_end [] [0] tab_ok ⟨hN, hR⟩ (rs := [.tmp 2, .tmp 3]) (ress := [_, _]) rfl H (by rfl) (by rfl) (by simp [pickB, bxs, ren, idx?, sub_refl, sub, allP, Nd.text] <;> omega) (by first | rfl | (simp [Nd.text] <;> omega)) (by first | exact trivial | exact ⟨sub_refl _ _, trivial⟩ | exact ⟨sub_refl _ _, sub_refl _ _, trivial⟩ | exact ⟨sub_refl _ _, sub_refl _ _, sub_refl _ _, trivial⟩ | exact ⟨⟨rfl, sub_refl _ _, trivial⟩, sub_refl _ _, trivial⟩ | (simp [cargs, cargsG, St.ev, St.tmp, find, ren, idx?, sub_refl, sub, allP, resv, resC, bss, Nd.text] <;> omega)) rfl
      · have hk : k = 0 := by
          simp only [Nd.ok, Nd.bare, Nd.zero] at h
          simp_all
        subst hk
        repeat (first | refine wp_seq ?_ | refine wp_block ?_ | refine wp_skip ?_ | refine wp_exit ?_ | ((first | refine v_some 5 tab_ok hN H (by rfl) (by (try simp only [Nd.text]); first | done | exact ct_Node) ?_ | refine v_more tab_ok hN H (by rfl) (by rfl) (by (try simp only [Nd.text]); first | done | exact ct_Node) ?_); clear H; intro a w H; replace H := nf_Node H; first | (simp only [Nd.text] at H; replace H := nf_Node H) | skip; (try simp only [List.drop_succ_cons, List.drop_zero, List.drop_nil]); try refine wpList_nil ?_) | refine wp_region_lit ?_)
        refine v_call [] [] (emptyText_v) H rfl rfl (by rfl) (by simp [pickB, bxs, ren, idx?, sub_refl, sub, allP, Nd.text] <;> omega) (by first | rfl | (simp [Nd.text] <;> omega)) (by first | exact trivial | exact ⟨sub_refl _ _, trivial⟩ | exact ⟨sub_refl _ _, sub_refl _ _, trivial⟩ | exact ⟨sub_refl _ _, sub_refl _ _, sub_refl _ _, trivial⟩ | exact ⟨⟨rfl, sub_refl _ _, trivial⟩, sub_refl _ _, trivial⟩ | (simp [cargs, cargsG, St.ev, St.tmp, find, ren, idx?, sub_refl, sub, allP, resv, resC, bss, Nd.text] <;> omega)) ?_; clear H; intro a w H; replace H := nf_Node H; first | (simp only [Nd.text] at H; replace H := nf_Node H) | skip; try refine wpList_nil ?_
        repeat (first | refine wp_seq ?_ | refine wp_block ?_ | refine wp_skip ?_ | refine wp_exit ?_ | ((first | refine v_some 5 tab_ok hN H (by rfl) (by (try simp only [Nd.text]); first | done | exact ct_Node) ?_ | refine v_more tab_ok hN H (by rfl) (by rfl) (by (try simp only [Nd.text]); first | done | exact ct_Node) ?_); clear H; intro a w H; replace H := nf_Node H; first | (simp only [Nd.text] at H; replace H := nf_Node H) | skip; (try simp only [List.drop_succ_cons, List.drop_zero, List.drop_nil]); try refine wpList_nil ?_) | refine wp_region_lit ?_)
        refine wp_ret ?_
        exact v_end [] [0] tab_ok ⟨hN, hR⟩ (rs := [.tmp 2, .tmp 3]) (ress := [_, _]) rfl H (by rfl) (by rfl) (by simp [pickB, bxs, ren, idx?, sub_refl, sub, allP, Nd.text] <;> omega) (by first | rfl | (simp [Nd.text] <;> omega)) (by first | exact trivial | exact ⟨sub_refl _ _, trivial⟩ | exact ⟨sub_refl _ _, sub_refl _ _, trivial⟩ | exact ⟨sub_refl _ _, sub_refl _ _, sub_refl _ _, trivial⟩ | exact ⟨⟨rfl, sub_refl _ _, trivial⟩, sub_refl _ _, trivial⟩ | (simp [cargs, cargsG, St.ev, St.tmp, find, ren, idx?, sub_refl, sub, allP, resv, resC, bss, Nd.text] <;> omega)) rfl
theorem digest_ok (n : Nd) (hw : n.wf) (h : n.ok) : VC Try.prog 83 [n.av] [] (.tup [.ba (sum n.text), errv 0]) := by
  have hck := encode_ok n hw h
  obtain ⟨h1, h2, h3, h4⟩ := id hw
  have hsl := sum_length n.text
  refine v_enter Try.func83 rfl (by kernel_rfl) (by show 1 ≤ 17; decide) ?_
  intro N w0 a w hN hR H
  simp only [Nd.av] at H hck
  repeat (first | refine wp_seq ?_ | refine wp_block ?_ | refine wp_skip ?_ | refine wp_exit ?_ | ((first | refine v_some 5 tab_ok hN H (by rfl) ct_Node ?_ | refine v_more tab_ok hN H (by rfl) (by rfl) ct_Node ?_); clear H; intro a w H; replace H := nf_Node H; (try simp only [List.drop_succ_cons, List.drop_zero, List.drop_nil]); try refine wpList_nil ?_) | refine wp_region_lit ?_)
  refine v_call [] [] (hck) H rfl rfl (by rfl) cb cw ca ?_; clear H; intro a w H; replace H := nf_Node H; try refine wpList_nil ?_
  repeat (first | refine wp_seq ?_ | refine wp_block ?_ | refine wp_skip ?_ | refine wp_exit ?_ | ((first | refine v_some 5 tab_ok hN H (by rfl) ct_Node ?_ | refine v_more tab_ok hN H (by rfl) (by rfl) ct_Node ?_); clear H; intro a w H; replace H := nf_Node H; (try simp only [List.drop_succ_cons, List.drop_zero, List.drop_nil]); try refine wpList_nil ?_) | refine wp_region_lit ?_)
  refine v_cond H (by rfl) (fun hb => ?_) (fun hb => ?_)
  · simp at hb
  · repeat (first | refine wp_seq ?_ | refine wp_block ?_ | refine wp_skip ?_ | refine wp_exit ?_ | ((first | refine v_some 5 tab_ok hN H (by rfl) ct_Node ?_ | refine v_more tab_ok hN H (by rfl) (by rfl) ct_Node ?_); clear H; intro a w H; replace H := nf_Node H; (try simp only [List.drop_succ_cons, List.drop_zero, List.drop_nil]); try refine wpList_nil ?_) | refine wp_region_lit ?_)
    have hl : n.text.length ≤ 34359738000 := by
      unfold Nd.text
      obtain ⟨k, key, v, l, r⟩ := n
      obtain ⟨h1, h2, h3, h4⟩ := hw
      dsimp only at h1 h2 h3 h4 ⊢
      split
      · simp; omega
      · split
        · simp; omega
        · simp
    refine v_call [] [] (sum_v n.text hl) H rfl rfl (by rfl) cb cw ca ?_; clear H; intro a w H; replace H := nf_Node H; try refine wpList_nil ?_
    repeat (first | refine wp_seq ?_ | refine wp_block ?_ | refine wp_skip ?_ | refine wp_exit ?_ | ((first | refine v_some 5 tab_ok hN H (by rfl) ct_Node ?_ | refine v_more tab_ok hN H (by rfl) (by rfl) ct_Node ?_); clear H; intro a w H; replace H := nf_Node H; (try simp only [List.drop_succ_cons, List.drop_zero, List.drop_nil]); try refine wpList_nil ?_) | refine wp_region_lit ?_)
    refine wp_ret ?_
    exact v_end [] [] tab_ok ⟨hN, hR⟩ (rs := [.cell 2 30, .tmp 3]) (ress := [_, _]) rfl H (by rfl) (by rfl) cb cw ca rfl
end Go.Proofs.Ytlagngkafllbiaa
/- octet.Compare: byte by byte. -/
namespace Go.Proofs.Ytlagngkafllbiaa
open Go Go.RowKit
set_option maxHeartbeats 1000000 in
set_option maxRecDepth 100000 in
theorem cmp_any (a b : ByteArray) (w : World) : Calls Try.prog 95 #[.string a, .string b] w fun e w' => e = .returned (.int .i64 (Lib.compareBytes a.data.toList b.data.toList)) ∧ w' = w := by
  go_enter Try.func95, Try.ntmps95
  go_wp2
  rw [run_callFunc_extern Try.func103 (by kernel_rfl) (by kernel_rfl) (by kernel_rfl) (e := Extern.BytealgCompare.compare) (by kernel_rfl), Lib.run_compareString]
  simp only [Result.andThen]
  rw [Oper.upon_value]
  go_wp2
  go_ret
  exact ⟨rfl, rfl⟩
theorem cmpS_v (a b : ByteArray) : VC Try.prog 95 [.v (.string a), .v (.string b)] [] (.v (.int .i64 (Lib.compareBytes a.data.toList b.data.toList))) := by
  refine VC.ofA ⟨_, Try.func95, by kernel_rfl, by kernel_rfl⟩ fun w N vs hM hl hv => ?_
  obtain ⟨u, v, rfl, h1, h2⟩ := two (args := []) hl hv
  have e1 := h1.v_inv
  have e2 := h2.v_inv
  subst e1 e2
  refine (cmp_any a b w).mono fun e w' hp => ?_
  obtain ⟨rfl, rfl⟩ := hp
  exact ⟨_, rfl, Below.refl _ _, RV.v_of rfl⟩
end Go.Proofs.Ytlagngkafllbiaa
/- The program's reader of bytes. -/
namespace Go.Proofs.Ytlagngkafllbiaa
open Go Go.RowKit
/-- The state made plain. -/
theorem nf_Reader {P : Program} {w0 w : World} {N : Gh} {nt : Nat} {st s2 : St} {a : Act} (H : Rel P w0 N nt st a w) (h : st = s2 := by (try simp only [pk, elemB, St.put, St.ev, St.tmp, St.keep, find, dropT, slots, AV.put, AV.loc, fitI, convI, IntKind.signed, IntKind.bits, strip, St.lose, mergeL, setAll, nth, renB, ren, idx?, sub, allP, low, bnd, Int.reduceEq, Nat.reduceAdd, Nat.reduceLT, reduceIte, reduceCtorEq, Nat.reduceEqDiff, Nat.reduceLeDiff, Nat.reduceBEq, Int.reducePow, Int.reduceToNat, ti24_t, ti24_z, ti5_t, ti5_z, ti148_t, ti148_z]); rfl) : Rel P w0 N nt s2 a w := h ▸ H
theorem ct_Reader {c : Prop} (h : c := by ((try simp only [pk, elemB, St.put, St.ev, St.tmp, St.keep, find, dropT, slots, AV.put, AV.loc, fitI, convI, IntKind.signed, IntKind.bits, strip, St.lose, mergeL, setAll, nth, renB, ren, idx?, sub, allP, low, bnd, Int.reduceEq, Nat.reduceAdd, Nat.reduceLT, reduceIte, reduceCtorEq, Nat.reduceEqDiff, Nat.reduceLeDiff, Nat.reduceBEq, Int.reducePow, Int.reduceToNat, ti24_t, ti24_z, ti5_t, ti5_z, ti148_t, ti148_z, ti24, ti5, ti148, fit, gcond, ilo, ihi]); first | done | exact cd | exact cd2 | skip)) : c := h
def rdv (bad : Bool) (l : List UInt8) : AV := .st [.v (.bool true), .v (.bool bad), .bs l none]
abbrev rdT : Ty := .cn .sc (.cn .sc (.cn .sc .nl))
theorem newRd_v (l : List UInt8) (hl : l.length ≤ 34359738000) : VX Try.prog 72 [] [] [] [.bs l none] [(rdT, rdv false l)] [] [] (.ptr 0 []) := by
  refine v_enter Try.func72 rfl (by kernel_rfl) (by show 1 ≤ 8; decide) ?_
  intro N w0 a w hN hR H
  repeat (first | refine wp_seq ?_ | refine wp_block ?_ | refine wp_skip ?_ | refine wp_exit ?_ | ((first | refine v_some 5 tab_ok hN H (by rfl) ct_Reader ?_ | refine v_more tab_ok hN H (by rfl) (by rfl) ct_Reader ?_); clear H; intro a w H; replace H := nf_Reader H; (try simp only [List.drop_succ_cons, List.drop_zero, List.drop_nil]); try refine wpList_nil ?_) | refine wp_region_lit ?_)
  refine wp_ret ?_
  exact v_end [0] [] tab_ok ⟨hN, hR⟩ (rs := [.tmp 2]) (ress := [_]) rfl H (by rfl) (by rfl) (by simp [pickB, bxs, ren, idx?, sub_refl, sub, allP, rdv] <;> omega) (by first | rfl | (simp [rdv] <;> omega)) (by first | exact trivial | exact ⟨sub_refl _ _, trivial⟩ | exact ⟨sub_refl _ _, sub_refl _ _, trivial⟩ | exact ⟨sub_refl _ _, sub_refl _ _, sub_refl _ _, trivial⟩ | exact ⟨⟨rfl, sub_refl _ _, trivial⟩, sub_refl _ _, trivial⟩ | (simp [cargs, cargsG, St.ev, St.tmp, find, ren, idx?, sub_refl, sub, allP, resv, resC, bss, rdv] <;> omega)) rfl
theorem good_v (bad : Bool) (l : List UInt8) : VX Try.prog 97 [(rdT, rdv bad l)] [] [] [.ptr 0 []] [(rdT, rdv bad l)] [] [] (.v (.bool (!bad))) := by
  refine v_enter Try.func97 rfl (by kernel_rfl) (by show 1 ≤ 18; decide) ?_
  intro N w0 a w hN hR H
  simp only [rdv] at H
  repeat (first | refine wp_seq ?_ | refine wp_block ?_ | refine wp_skip ?_ | refine wp_exit ?_ | ((first | refine v_some 5 tab_ok hN H (by rfl) ct_Reader ?_ | refine v_more tab_ok hN H (by rfl) (by rfl) ct_Reader ?_); clear H; intro a w H; replace H := nf_Reader H; (try simp only [List.drop_succ_cons, List.drop_zero, List.drop_nil]); try refine wpList_nil ?_) | refine wp_region_lit ?_)
  refine wp_ret ?_
  exact v_end [0] [] tab_ok ⟨hN, hR⟩ (rs := [.tmp 2]) (ress := [_]) rfl H (by rfl) (by rfl) (by simp [pickB, bxs, ren, idx?, sub_refl, sub, allP, rdv] <;> omega) (by first | rfl | (simp [rdv] <;> omega)) (by first | exact trivial | exact ⟨sub_refl _ _, trivial⟩ | exact ⟨sub_refl _ _, sub_refl _ _, trivial⟩ | exact ⟨sub_refl _ _, sub_refl _ _, sub_refl _ _, trivial⟩ | exact ⟨⟨rfl, sub_refl _ _, trivial⟩, sub_refl _ _, trivial⟩ | (simp [cargs, cargsG, St.ev, St.tmp, find, ren, idx?, sub_refl, sub, allP, resv, resC, bss, rdv] <;> omega)) rfl
theorem bad_v (bad : Bool) (l : List UInt8) : VX Try.prog 77 [(rdT, rdv bad l)] [] [] [.ptr 0 []] [(rdT, rdv bad l)] [] [] (.v (.bool bad)) := by
  refine v_enter Try.func77 rfl (by kernel_rfl) (by show 1 ≤ 11; decide) ?_
  intro N w0 a w hN hR H
  simp only [rdv] at H
  repeat (first | refine wp_seq ?_ | refine wp_block ?_ | refine wp_skip ?_ | refine wp_exit ?_ | ((first | refine v_some 5 tab_ok hN H (by rfl) ct_Reader ?_ | refine v_more tab_ok hN H (by rfl) (by rfl) ct_Reader ?_); clear H; intro a w H; replace H := nf_Reader H; (try simp only [List.drop_succ_cons, List.drop_zero, List.drop_nil]); try refine wpList_nil ?_) | refine wp_region_lit ?_)
  refine wp_ret ?_
  exact v_end [0] [] tab_ok ⟨hN, hR⟩ (rs := [.tmp 2]) (ress := [_]) rfl H (by rfl) (by rfl) (by simp [pickB, bxs, ren, idx?, sub_refl, sub, allP, rdv] <;> omega) (by first | rfl | (simp [rdv] <;> omega)) (by first | exact trivial | exact ⟨sub_refl _ _, trivial⟩ | exact ⟨sub_refl _ _, sub_refl _ _, trivial⟩ | exact ⟨sub_refl _ _, sub_refl _ _, sub_refl _ _, trivial⟩ | exact ⟨⟨rfl, sub_refl _ _, trivial⟩, sub_refl _ _, trivial⟩ | (simp [cargs, cargsG, St.ev, St.tmp, find, ren, idx?, sub_refl, sub, allP, resv, resC, bss, rdv] <;> omega)) rfl
theorem left_v (bad : Bool) (l : List UInt8) : VX Try.prog 79 [(rdT, rdv bad l)] [] [] [.ptr 0 []] [(rdT, rdv bad l)] [] [] (.v (.int .i64 (if bad then 0 else (l.length : Int)))) := by
  have hg := good_v bad l
  refine v_enter Try.func79 rfl (by kernel_rfl) (by show 1 ≤ 11; decide) ?_
  intro N w0 a w hN hR H
  simp only [rdv] at H hg
  repeat (first | refine wp_seq ?_ | refine wp_block ?_ | refine wp_skip ?_ | refine wp_exit ?_ | ((first | refine v_some 5 tab_ok hN H (by rfl) ct_Reader ?_ | refine v_more tab_ok hN H (by rfl) (by rfl) ct_Reader ?_); clear H; intro a w H; replace H := nf_Reader H; (try simp only [List.drop_succ_cons, List.drop_zero, List.drop_nil]); try refine wpList_nil ?_) | refine wp_region_lit ?_)
  refine v_call [0] [] (hg) H rfl rfl (by rfl) cb cw ca ?_; clear H; intro a w H; replace H := nf_Reader H; try refine wpList_nil ?_
  repeat (first | refine wp_seq ?_ | refine wp_block ?_ | refine wp_skip ?_ | refine wp_exit ?_ | ((first | refine v_some 5 tab_ok hN H (by rfl) ct_Reader ?_ | refine v_more tab_ok hN H (by rfl) (by rfl) ct_Reader ?_); clear H; intro a w H; replace H := nf_Reader H; (try simp only [List.drop_succ_cons, List.drop_zero, List.drop_nil]); try refine wpList_nil ?_) | refine wp_region_lit ?_)
  cases bad
  · refine v_cond H (by rfl) (fun hb => ?_) (fun hb => ?_)
    · simp at hb
    · repeat (first | refine wp_seq ?_ | refine wp_block ?_ | refine wp_skip ?_ | refine wp_exit ?_ | ((first | refine v_some 5 tab_ok hN H (by rfl) ct_Reader ?_ | refine v_more tab_ok hN H (by rfl) (by rfl) ct_Reader ?_); clear H; intro a w H; replace H := nf_Reader H; (try simp only [List.drop_succ_cons, List.drop_zero, List.drop_nil]); try refine wpList_nil ?_) | refine wp_region_lit ?_)
      refine wp_ret ?_
      exact v_end [0] [] tab_ok ⟨hN, hR⟩ (rs := [.tmp 2]) (ress := [_]) rfl H (by rfl) (by rfl) (by simp [pickB, bxs, ren, idx?, sub_refl, sub, allP, rdv] <;> omega) (by first | rfl | (simp [rdv] <;> omega)) (by first | exact trivial | exact ⟨sub_refl _ _, trivial⟩ | exact ⟨sub_refl _ _, sub_refl _ _, trivial⟩ | exact ⟨sub_refl _ _, sub_refl _ _, sub_refl _ _, trivial⟩ | exact ⟨⟨rfl, sub_refl _ _, trivial⟩, sub_refl _ _, trivial⟩ | (simp [cargs, cargsG, St.ev, St.tmp, find, ren, idx?, sub_refl, sub, allP, resv, resC, bss, rdv] <;> omega)) rfl
  · refine v_cond H (by rfl) (fun hb => ?_) (fun hb => ?_)
    · repeat (first | refine wp_seq ?_ | refine wp_block ?_ | refine wp_skip ?_ | refine wp_exit ?_ | ((first | refine v_some 5 tab_ok hN H (by rfl) ct_Reader ?_ | refine v_more tab_ok hN H (by rfl) (by rfl) ct_Reader ?_); clear H; intro a w H; replace H := nf_Reader H; (try simp only [List.drop_succ_cons, List.drop_zero, List.drop_nil]); try refine wpList_nil ?_) | refine wp_region_lit ?_)
      refine wp_ret ?_
      exact v_end [0] [] tab_ok ⟨hN, hR⟩ (rs := [.tmp 2]) (ress := [_]) rfl H (by rfl) (by rfl) (by simp [pickB, bxs, ren, idx?, sub_refl, sub, allP, rdv] <;> omega) (by first | rfl | (simp [rdv] <;> omega)) (by first | exact trivial | exact ⟨sub_refl _ _, trivial⟩ | exact ⟨sub_refl _ _, sub_refl _ _, trivial⟩ | exact ⟨sub_refl _ _, sub_refl _ _, sub_refl _ _, trivial⟩ | exact ⟨⟨rfl, sub_refl _ _, trivial⟩, sub_refl _ _, trivial⟩ | (simp [cargs, cargsG, St.ev, St.tmp, find, ren, idx?, sub_refl, sub, allP, resv, resC, bss, rdv] <;> omega)) rfl
    · simp at hb
theorem take_ok (l : List UInt8) (n : Nat) (hn : n ≤ l.length) (hl : l.length ≤ 34359738000) : VX Try.prog 74 [(rdT, rdv false l)] [] [] [.ptr 0 [], .v (.int .i64 (n : Int))] [(rdT, rdv false (l.drop n))] [] [(5, n)] (.bs (l.take n) (some 0)) := by
  have hg := good_v false l
  have ht : (l.take n).length = n := by rw [List.length_take]; omega
  refine v_enter Try.func74 rfl (by kernel_rfl) (by show 2 ≤ 41; decide) ?_
  intro N w0 a w hN hR H
  simp only [rdv] at H hg
  repeat (first | refine wp_seq ?_ | refine wp_block ?_ | refine wp_skip ?_ | refine wp_exit ?_ | ((first | refine v_some 5 tab_ok hN H (by rfl) ct_Reader ?_ | refine v_more tab_ok hN H (by rfl) (by rfl) ct_Reader ?_); clear H; intro a w H; replace H := nf_Reader H; (try simp only [List.drop_succ_cons, List.drop_zero, List.drop_nil]); try refine wpList_nil ?_) | refine wp_region_lit ?_)
  refine v_call [0] [] (hg) H rfl rfl (by rfl) cb cw ca ?_; clear H; intro a w H; replace H := nf_Reader H; try refine wpList_nil ?_
  repeat (first | refine wp_seq ?_ | refine wp_block ?_ | refine wp_skip ?_ | refine wp_exit ?_ | ((first | refine v_some 5 tab_ok hN H (by rfl) ct_Reader ?_ | refine v_more tab_ok hN H (by rfl) (by rfl) ct_Reader ?_); clear H; intro a w H; replace H := nf_Reader H; (try simp only [List.drop_succ_cons, List.drop_zero, List.drop_nil]); try refine wpList_nil ?_) | refine wp_region_lit ?_)
  refine v_cond H (by rfl) (fun hb => ?_) (fun hb => ?_)
  · simp at hb
  · repeat (first | refine wp_seq ?_ | refine wp_block ?_ | refine wp_skip ?_ | refine wp_exit ?_ | ((first | refine v_some 5 tab_ok hN H (by rfl) ct_Reader ?_ | refine v_more tab_ok hN H (by rfl) (by rfl) ct_Reader ?_); clear H; intro a w H; replace H := nf_Reader H; (try simp only [List.drop_succ_cons, List.drop_zero, List.drop_nil]); try refine wpList_nil ?_) | refine wp_region_lit ?_)
    refine v_cond H (by rfl) (fun hb => ?_) (fun hb => ?_)
    · exfalso; simp at hb; omega
    · repeat (first | refine wp_seq ?_ | refine wp_block ?_ | refine wp_skip ?_ | refine wp_exit ?_ | ((first | refine v_some 5 tab_ok hN H (by rfl) (by (try simp only [ht]); first | done | exact ct_Reader) ?_ | refine v_more tab_ok hN H (by rfl) (by rfl) (by (try simp only [ht]); first | done | exact ct_Reader) ?_); clear H; intro a w H; replace H := nf_Reader H; first | (simp only [ht] at H; replace H := nf_Reader H) | skip; (try simp only [List.drop_succ_cons, List.drop_zero, List.drop_nil]); try refine wpList_nil ?_) | refine wp_region_lit ?_)
      refine wp_ret ?_
      exact v_end [0] [0] tab_ok ⟨hN, hR⟩ (rs := [.tmp 4]) (ress := [_]) rfl H (by rfl) (by rfl) (by simp [pickB, bxs, ren, idx?, sub_refl, sub, allP, rdv, ht] <;> omega) (by first | rfl | (simp [rdv, ht] <;> omega)) (by first | exact trivial | exact ⟨sub_refl _ _, trivial⟩ | exact ⟨sub_refl _ _, sub_refl _ _, trivial⟩ | exact ⟨sub_refl _ _, sub_refl _ _, sub_refl _ _, trivial⟩ | exact ⟨⟨rfl, sub_refl _ _, trivial⟩, sub_refl _ _, trivial⟩ | (simp [cargs, cargsG, St.ev, St.tmp, find, ren, idx?, sub_refl, sub, allP, resv, resC, bss, rdv, ht] <;> omega)) rfl
theorem take_was (l : List UInt8) (n : Int) : VX Try.prog 74 [(rdT, rdv true l)] [] [] [.ptr 0 [], .v (.int .i64 n)] [(rdT, rdv true l)] [] [] (.v (.slice none 0 0)) := by
  have hg := good_v true l
  refine v_enter Try.func74 rfl (by kernel_rfl) (by show 2 ≤ 41; decide) ?_
  intro N w0 a w hN hR H
  simp only [rdv] at H hg
  repeat (first | refine wp_seq ?_ | refine wp_block ?_ | refine wp_skip ?_ | refine wp_exit ?_ | ((first | refine v_some 5 tab_ok hN H (by rfl) ct_Reader ?_ | refine v_more tab_ok hN H (by rfl) (by rfl) ct_Reader ?_); clear H; intro a w H; replace H := nf_Reader H; (try simp only [List.drop_succ_cons, List.drop_zero, List.drop_nil]); try refine wpList_nil ?_) | refine wp_region_lit ?_)
  refine v_call [0] [] (hg) H rfl rfl (by rfl) cb cw ca ?_; clear H; intro a w H; replace H := nf_Reader H; try refine wpList_nil ?_
  repeat (first | refine wp_seq ?_ | refine wp_block ?_ | refine wp_skip ?_ | refine wp_exit ?_ | ((first | refine v_some 5 tab_ok hN H (by rfl) ct_Reader ?_ | refine v_more tab_ok hN H (by rfl) (by rfl) ct_Reader ?_); clear H; intro a w H; replace H := nf_Reader H; (try simp only [List.drop_succ_cons, List.drop_zero, List.drop_nil]); try refine wpList_nil ?_) | refine wp_region_lit ?_)
  refine v_cond H (by rfl) (fun hb => ?_) (fun hb => ?_)
  · repeat (first | refine wp_seq ?_ | refine wp_block ?_ | refine wp_skip ?_ | refine wp_exit ?_ | ((first | refine v_some 5 tab_ok hN H (by rfl) ct_Reader ?_ | refine v_more tab_ok hN H (by rfl) (by rfl) ct_Reader ?_); clear H; intro a w H; replace H := nf_Reader H; (try simp only [List.drop_succ_cons, List.drop_zero, List.drop_nil]); try refine wpList_nil ?_) | refine wp_region_lit ?_)
    refine wp_ret ?_
    exact v_end [0] [] tab_ok ⟨hN, hR⟩ (rs := [.tmp 4]) (ress := [_]) rfl H (by rfl) (by rfl) (by simp [pickB, bxs, ren, idx?, sub_refl, sub, allP, rdv] <;> omega) (by first | rfl | (simp [rdv] <;> omega)) (by first | exact trivial | exact ⟨sub_refl _ _, trivial⟩ | exact ⟨sub_refl _ _, sub_refl _ _, trivial⟩ | exact ⟨sub_refl _ _, sub_refl _ _, sub_refl _ _, trivial⟩ | exact ⟨⟨rfl, sub_refl _ _, trivial⟩, sub_refl _ _, trivial⟩ | (simp [cargs, cargsG, St.ev, St.tmp, find, ren, idx?, sub_refl, sub, allP, resv, resC, bss, rdv] <;> omega)) rfl
  · simp at hb
theorem take_bad (l : List UInt8) (n : Nat) (hn : l.length < n) : VX Try.prog 74 [(rdT, rdv false l)] [] [] [.ptr 0 [], .v (.int .i64 (n : Int))] [(rdT, rdv true l)] [] [] (.v (.slice none 0 0)) := by
  have hg := good_v false l
  refine v_enter Try.func74 rfl (by kernel_rfl) (by show 2 ≤ 41; decide) ?_
  intro N w0 a w hN hR H
  simp only [rdv] at H hg
  repeat (first | refine wp_seq ?_ | refine wp_block ?_ | refine wp_skip ?_ | refine wp_exit ?_ | ((first | refine v_some 5 tab_ok hN H (by rfl) ct_Reader ?_ | refine v_more tab_ok hN H (by rfl) (by rfl) ct_Reader ?_); clear H; intro a w H; replace H := nf_Reader H; (try simp only [List.drop_succ_cons, List.drop_zero, List.drop_nil]); try refine wpList_nil ?_) | refine wp_region_lit ?_)
  refine v_call [0] [] (hg) H rfl rfl (by rfl) cb cw ca ?_; clear H; intro a w H; replace H := nf_Reader H; try refine wpList_nil ?_
  repeat (first | refine wp_seq ?_ | refine wp_block ?_ | refine wp_skip ?_ | refine wp_exit ?_ | ((first | refine v_some 5 tab_ok hN H (by rfl) ct_Reader ?_ | refine v_more tab_ok hN H (by rfl) (by rfl) ct_Reader ?_); clear H; intro a w H; replace H := nf_Reader H; (try simp only [List.drop_succ_cons, List.drop_zero, List.drop_nil]); try refine wpList_nil ?_) | refine wp_region_lit ?_)
  refine v_cond H (by rfl) (fun hb => ?_) (fun hb => ?_)
  · simp at hb
  · repeat (first | refine wp_seq ?_ | refine wp_block ?_ | refine wp_skip ?_ | refine wp_exit ?_ | ((first | refine v_some 5 tab_ok hN H (by rfl) ct_Reader ?_ | refine v_more tab_ok hN H (by rfl) (by rfl) ct_Reader ?_); clear H; intro a w H; replace H := nf_Reader H; (try simp only [List.drop_succ_cons, List.drop_zero, List.drop_nil]); try refine wpList_nil ?_) | refine wp_region_lit ?_)
    refine v_cond H (by rfl) (fun hb => ?_) (fun hb => ?_)
    · repeat (first | refine wp_seq ?_ | refine wp_block ?_ | refine wp_skip ?_ | refine wp_exit ?_ | ((first | refine v_some 5 tab_ok hN H (by rfl) ct_Reader ?_ | refine v_more tab_ok hN H (by rfl) (by rfl) ct_Reader ?_); clear H; intro a w H; replace H := nf_Reader H; (try simp only [List.drop_succ_cons, List.drop_zero, List.drop_nil]); try refine wpList_nil ?_) | refine wp_region_lit ?_)
      refine wp_ret ?_
      exact v_end [0] [] tab_ok ⟨hN, hR⟩ (rs := [.tmp 4]) (ress := [_]) rfl H (by rfl) (by rfl) (by simp [pickB, bxs, ren, idx?, sub_refl, sub, allP, rdv] <;> omega) (by first | rfl | (simp [rdv] <;> omega)) (by first | exact trivial | exact ⟨sub_refl _ _, trivial⟩ | exact ⟨sub_refl _ _, sub_refl _ _, trivial⟩ | exact ⟨sub_refl _ _, sub_refl _ _, sub_refl _ _, trivial⟩ | exact ⟨⟨rfl, sub_refl _ _, trivial⟩, sub_refl _ _, trivial⟩ | (simp [cargs, cargsG, St.ev, St.tmp, find, ren, idx?, sub_refl, sub, allP, resv, resC, bss, rdv] <;> omega)) rfl
    · exfalso; simp at hb; omega
end Go.Proofs.Ytlagngkafllbiaa
/- octet.Compare, numbers as two bytes. -/
namespace Go.Proofs.Ytlagngkafllbiaa
open Go Go.RowKit
/-- The state made plain. -/
theorem nf_Cmp2 {P : Program} {w0 w : World} {N : Gh} {nt : Nat} {st s2 : St} {a : Act} (H : Rel P w0 N nt st a w) (h : st = s2 := by (try simp only [pk, elemB, St.put, St.ev, St.tmp, St.keep, find, dropT, slots, AV.put, AV.loc, fitI, convI, IntKind.signed, IntKind.bits, strip, St.lose, mergeL, setAll, nth, renB, ren, idx?, sub, allP, low, bnd, Int.reduceEq, Nat.reduceAdd, Nat.reduceLT, reduceIte, reduceCtorEq, Nat.reduceEqDiff, Nat.reduceLeDiff, Nat.reduceBEq, Int.reducePow, Int.reduceToNat, ti24_t, ti24_z, ti5_t, ti5_z, ti148_t, ti148_z]); rfl) : Rel P w0 N nt s2 a w := h ▸ H
theorem ct_Cmp2 {c : Prop} (h : c := by ((try simp only [pk, elemB, St.put, St.ev, St.tmp, St.keep, find, dropT, slots, AV.put, AV.loc, fitI, convI, IntKind.signed, IntKind.bits, strip, St.lose, mergeL, setAll, nth, renB, ren, idx?, sub, allP, low, bnd, Int.reduceEq, Nat.reduceAdd, Nat.reduceLT, reduceIte, reduceCtorEq, Nat.reduceEqDiff, Nat.reduceLeDiff, Nat.reduceBEq, Int.reducePow, Int.reduceToNat, ti24_t, ti24_z, ti5_t, ti5_z, ti148_t, ti148_z, ti24, ti5, ti148, fit, gcond, ilo, ihi]); first | done | exact cd | exact cd2 | skip)) : c := h
theorem cmpT_v (x y : ByteArray) : VC Try.prog 70 [.v (.string x), .v (.string y)] [] (.v (.int .i64 (Lib.compareBytes x.data.toList y.data.toList))) := by
  refine v_enter Try.func70 rfl (by kernel_rfl) (by show 2 ≤ 8; decide) ?_
  intro N w0 a w hN hR H
  repeat (first | refine wp_seq ?_ | refine wp_block ?_ | refine wp_skip ?_ | refine wp_exit ?_ | ((first | refine v_some 5 tab_ok hN H (by rfl) ct_Cmp2 ?_ | refine v_more tab_ok hN H (by rfl) (by rfl) ct_Cmp2 ?_); clear H; intro a w H; replace H := nf_Cmp2 H; (try simp only [List.drop_succ_cons, List.drop_zero, List.drop_nil]); try refine wpList_nil ?_) | refine wp_region_lit ?_)
  refine v_call [] [] (cmpS_v x y) H rfl rfl (by rfl) cb cw ca ?_; clear H; intro a w H; replace H := nf_Cmp2 H; try refine wpList_nil ?_
  repeat (first | refine wp_seq ?_ | refine wp_block ?_ | refine wp_skip ?_ | refine wp_exit ?_ | ((first | refine v_some 5 tab_ok hN H (by rfl) ct_Cmp2 ?_ | refine v_more tab_ok hN H (by rfl) (by rfl) ct_Cmp2 ?_); clear H; intro a w H; replace H := nf_Cmp2 H; (try simp only [List.drop_succ_cons, List.drop_zero, List.drop_nil]); try refine wpList_nil ?_) | refine wp_region_lit ?_)
  refine wp_ret ?_
  exact v_end [] [] tab_ok ⟨hN, hR⟩ (rs := [.tmp 4]) (ress := [_]) rfl H (by rfl) (by rfl) cb cw ca rfl
theorem compare_v (x y : List UInt8) : VC Try.prog 43 [.bs x none, .bs y none] [] (.v (.int .i64 (Lib.compareBytes x y))) := by
  have h := cmpT_v (strOf x) (strOf y)
  have e1 : (strOf x).data.toList = x := rfl
  have e2 : (strOf y).data.toList = y := rfl
  rw [e1, e2] at h
  refine v_enter Try.func43 rfl (by kernel_rfl) (by show 2 ≤ 10; decide) ?_
  intro N w0 a w hN hR H
  repeat (first | refine wp_seq ?_ | refine wp_block ?_ | refine wp_skip ?_ | refine wp_exit ?_ | ((first | refine v_some 5 tab_ok hN H (by rfl) ct_Cmp2 ?_ | refine v_more tab_ok hN H (by rfl) (by rfl) ct_Cmp2 ?_); clear H; intro a w H; replace H := nf_Cmp2 H; (try simp only [List.drop_succ_cons, List.drop_zero, List.drop_nil]); try refine wpList_nil ?_) | refine wp_region_lit ?_)
  refine v_call [] [] (h) H rfl rfl (by rfl) cb cw ca ?_; clear H; intro a w H; replace H := nf_Cmp2 H; try refine wpList_nil ?_
  repeat (first | refine wp_seq ?_ | refine wp_block ?_ | refine wp_skip ?_ | refine wp_exit ?_ | ((first | refine v_some 5 tab_ok hN H (by rfl) ct_Cmp2 ?_ | refine v_more tab_ok hN H (by rfl) (by rfl) ct_Cmp2 ?_); clear H; intro a w H; replace H := nf_Cmp2 H; (try simp only [List.drop_succ_cons, List.drop_zero, List.drop_nil]); try refine wpList_nil ?_) | refine wp_region_lit ?_)
  refine wp_ret ?_
  exact v_end [] [] tab_ok ⟨hN, hR⟩ (rs := [.tmp 4]) (ress := [_]) rfl H (by rfl) (by rfl) cb cw ca rfl
theorem put16_v (n : Nat) (hn : n ≤ 65535) : VC Try.prog 81 [.v (.int .i64 (n : Int))] [(5, 2)] (.tup [.bs [UInt8.ofNat (n / 256), UInt8.ofNat n] (some 0), errv 0]) := by
  have e3 := u8n n 256; have e4 := u8m n
  simp only [Int.cast_ofNat_Int] at e3 e4
  refine v_enter Try.func81 rfl (by kernel_rfl) (by show 1 ≤ 16; decide) ?_
  intro N w0 a w hN hR H
  repeat (first | refine wp_seq ?_ | refine wp_block ?_ | refine wp_skip ?_ | refine wp_exit ?_ | ((first | refine v_some 5 tab_ok hN H (by rfl) ct_Cmp2 ?_ | refine v_more tab_ok hN H (by rfl) (by rfl) ct_Cmp2 ?_); clear H; intro a w H; replace H := nf_Cmp2 H; (try simp only [List.drop_succ_cons, List.drop_zero, List.drop_nil]); try refine wpList_nil ?_) | refine wp_region_lit ?_)
  refine v_cond H (by rfl) (fun hb => ?_) (fun hb => ?_)
  · exfalso; simp at hb; omega
  · repeat (first | refine wp_seq ?_ | refine wp_block ?_ | refine wp_skip ?_ | refine wp_exit ?_ | ((first | refine v_some 5 tab_ok hN H (by rfl) ct_Cmp2 ?_ | refine v_more tab_ok hN H (by rfl) (by rfl) ct_Cmp2 ?_); clear H; intro a w H; replace H := nf_Cmp2 H; (try simp only [List.drop_succ_cons, List.drop_zero, List.drop_nil]); try refine wpList_nil ?_) | refine wp_region_lit ?_)
    rw [e3, e4] at H
    refine wp_ret ?_
    exact v_end [] [0] tab_ok ⟨hN, hR⟩ (rs := [.tmp 2, .tmp 3]) (ress := [_, _]) rfl H (by rfl) (by rfl) cb cw ca rfl
theorem or8 (x : Nat) (hx : x < 16777216) (c : Nat) (hc : c < 256) : bits .or .i64 (IntKind.i64.wrap ((x : Int) * 256)) (c : Int) = ((256 * x + c : Nat) : Int) := by
  have h1 : IntKind.i64.wrap ((x : Int) * 256) = ((256 * x : Nat) : Int) := by rw [IntKind.wrap_i64]; omega
  have o : 256 * x ||| c = 256 * x + c := by
    have := Nat.two_pow_add_eq_or_of_lt (i := 8) hc x
    simpa using this.symm
  have e : ∀ y : Nat, y < 4294967296 → (BitVec.ofInt 64 (y : Int)).toNat = y := fun y hy => by
    rw [BitVec.ofInt_natCast, BitVec.toNat_ofNat]; exact Nat.mod_eq_of_lt (by omega)
  rw [h1]
  show IntKind.i64.wrap ((BitVec.ofInt 64 ((256 * x : Nat) : Int) ||| BitVec.ofInt 64 (c : Int)).toNat : Int) = _
  rw [BitVec.toNat_or, e _ (by omega), e _ (by omega), o, IntKind.wrap_i64]
  omega
/-- A number, the highest byte first. -/
def num : Nat → List UInt8 → Nat
  | x, [] => x
  | x, b :: l => num (256 * x + b.toNat) l
theorem num_append (x : Nat) (l m : List UInt8) : num x (l ++ m) = num (num x l) m := by
  induction l generalizing x with
  | nil => rfl
  | cons b l ih => exact ih _
theorem num_lt : ∀ (l : List UInt8) (x : Nat), num x l < 256 ^ l.length * (x + 1)
  | [], x => by simp [num]
  | b :: l, x => by
    have h := num_lt l (256 * x + b.toNat)
    have hb := b.toNat_lt
    simp only [num, List.length_cons, Nat.pow_succ]
    refine Nat.lt_of_lt_of_le h ?_
    rw [Nat.mul_assoc]
    exact Nat.mul_le_mul_left _ (by omega)
theorem num2_lt (l : List UInt8) (h : l.length = 2) : num 0 l < 65536 := by
  match l, h with
  | [a, b], _ =>
    have := a.toNat_lt; have := b.toNat_lt
    simp only [num]; omega
theorem number_ok (l : List UInt8) (n : Nat) (hn : n ≤ l.length) (h4 : n ≤ 4) (hl : l.length ≤ 34359738000) : VX Try.prog 96 [(rdT, rdv false l)] [] [] [.ptr 0 [], .v (.int .i64 (n : Int))] [(rdT, rdv false (l.drop n))] [] [] (.v (.int .i64 ((num 0 (l.take n) : Nat) : Int))) := by
  have ht := take_ok l n hn hl
  have hln : (l.take n).length = n := by rw [List.length_take]; omega
  refine v_enter Try.func96 rfl (by kernel_rfl) (by show 2 ≤ 23; decide) ?_
  intro N w0 a w hN hR H
  simp only [rdv] at H ht
  repeat (first | refine wp_seq ?_ | refine wp_block ?_ | refine wp_skip ?_ | refine wp_exit ?_ | ((first | refine v_some 5 tab_ok hN H (by rfl) ct_Cmp2 ?_ | refine v_more tab_ok hN H (by rfl) (by rfl) ct_Cmp2 ?_); clear H; intro a w H; replace H := nf_Cmp2 H; (try simp only [List.drop_succ_cons, List.drop_zero, List.drop_nil]); try refine wpList_nil ?_) | refine wp_region_lit ?_)
  refine v_call [0] [] (ht) H rfl rfl (by rfl) cb cw ca ?_; clear H; intro a w H; replace H := nf_Cmp2 H; try refine wpList_nil ?_
  repeat (first | refine wp_seq ?_ | refine wp_block ?_ | refine wp_skip ?_ | refine wp_exit ?_ | ((first | refine v_some 5 tab_ok hN H (by rfl) ct_Cmp2 ?_ | refine v_more tab_ok hN H (by rfl) (by rfl) ct_Cmp2 ?_); clear H; intro a w H; replace H := nf_Cmp2 H; (try simp only [List.drop_succ_cons, List.drop_zero, List.drop_nil]); try refine wpList_nil ?_) | refine wp_region_lit ?_)
  refine v_loop (fun k : Nat => ⟨[(12, none, .v (.int .i64 (k : Int))), (11, none, .v (.int .i64 (n : Int))), (10, none, .bs (l.take n) (some 0)), (5, none, .v (.int .i64 ((num 0 ((l.take n).take k) : Nat) : Int)))], [(rdT, .st [.v (.bool true), .v (.bool false), .bs (l.drop n) none])], [], [(5, n)]⟩) (fun k => k ≤ n) (fun k => n - k) 0 (Nat.zero_le _) (H.to 1 1 ⟨hN, Nat.le_trans hR (by decide)⟩ ⟨rfl, by rw [hln]; rfl, rfl, rfl, trivial⟩ rfl rfl rfl rfl rfl) ?_
  clear H
  intro k a w hk H
  repeat (first | refine wp_seq ?_ | refine wp_block ?_ | refine wp_skip ?_ | refine wp_exit ?_ | ((first | refine v_some 5 tab_ok hN H (by rfl) ct_Cmp2 ?_ | refine v_more tab_ok hN H (by rfl) (by rfl) ct_Cmp2 ?_); clear H; intro a w H; replace H := nf_Cmp2 H; (try simp only [List.drop_succ_cons, List.drop_zero, List.drop_nil]); try refine wpList_nil ?_) | refine wp_region_lit ?_)
  refine v_cond H (by rfl) (fun hb => ?_) (fun hb => ?_)
  · have hlt : k < n := by simpa using hb
    have hlt' : k < (l.take n).length := by omega
    have h8 := ((l.take n).getD k 0).toNat_lt
    repeat (first | refine wp_seq ?_ | refine wp_block ?_ | refine wp_skip ?_ | refine wp_exit ?_ | ((first | refine v_some 5 tab_ok hN H (by rfl) ct_Cmp2 ?_ | refine v_more tab_ok hN H (by rfl) (by rfl) ct_Cmp2 ?_); clear H; intro a w H; replace H := nf_Cmp2 H; (try simp only [List.drop_succ_cons, List.drop_zero, List.drop_nil]); try refine wpList_nil ?_) | refine wp_region_lit ?_)
    have hx : num 0 ((l.take n).take k) < 16777216 := by
      have h1 := num_lt ((l.take n).take k) 0
      rw [List.length_take, Nat.min_eq_left (by omega)] at h1
      have h2 : (256 : Nat) ^ k ≤ 256 ^ 3 := Nat.pow_le_pow_right (by decide) (by omega)
      omega
    have hnx : num 0 ((l.take n).take (k + 1)) = 256 * num 0 ((l.take n).take k) + ((l.take n).getD k 0).toNat := by
      rw [List.take_succ_eq_append_getElem hlt', num_append, ← List.getElem_eq_getD (h := hlt') 0]
      rfl
    rw [or8 _ hx _ h8, ← hnx] at H
    exact ⟨k + 1, hlt, by omega, H.to 1 1 ⟨hN, Nat.le_trans hR (by decide)⟩ ⟨rfl, rfl, rfl, rfl, trivial⟩ rfl rfl rfl rfl rfl⟩
  · have hge : k = n := by simp at hb; omega
    subst hge
    rw [List.take_take, Nat.min_self] at H
    repeat (first | refine wp_seq ?_ | refine wp_block ?_ | refine wp_skip ?_ | refine wp_exit ?_ | ((first | refine v_some 5 tab_ok hN H (by rfl) ct_Cmp2 ?_ | refine v_more tab_ok hN H (by rfl) (by rfl) ct_Cmp2 ?_); clear H; intro a w H; replace H := nf_Cmp2 H; (try simp only [List.drop_succ_cons, List.drop_zero, List.drop_nil]); try refine wpList_nil ?_) | refine wp_region_lit ?_)
    refine wp_ret ?_
    exact v_end [0] [] tab_ok ⟨hN, hR⟩ (rs := [.tmp 4]) (ress := [_]) rfl H (by rfl) (by rfl) (by simp [pickB, bxs, ren, idx?, sub_refl, sub, allP, rdv] <;> omega) (by first | rfl | (simp [rdv] <;> omega)) (by first | exact trivial | exact ⟨sub_refl _ _, trivial⟩ | exact ⟨sub_refl _ _, sub_refl _ _, trivial⟩ | exact ⟨sub_refl _ _, sub_refl _ _, sub_refl _ _, trivial⟩ | exact ⟨⟨rfl, sub_refl _ _, trivial⟩, sub_refl _ _, trivial⟩ | (simp [cargs, cargsG, St.ev, St.tmp, find, ren, idx?, sub_refl, sub, allP, resv, resC, bss, rdv] <;> omega)) rfl
theorem number_bad (l : List UInt8) (n : Nat) (hn : l.length < n) : VX Try.prog 96 [(rdT, rdv false l)] [] [] [.ptr 0 [], .v (.int .i64 (n : Int))] [(rdT, rdv true l)] [] [] (.v (.int .i64 0)) := by
  have ht := take_bad l n hn
  refine v_enter Try.func96 rfl (by kernel_rfl) (by show 2 ≤ 23; decide) ?_
  intro N w0 a w hN hR H
  simp only [rdv] at H ht
  repeat (first | refine wp_seq ?_ | refine wp_block ?_ | refine wp_skip ?_ | refine wp_exit ?_ | ((first | refine v_some 5 tab_ok hN H (by rfl) ct_Cmp2 ?_ | refine v_more tab_ok hN H (by rfl) (by rfl) ct_Cmp2 ?_); clear H; intro a w H; replace H := nf_Cmp2 H; (try simp only [List.drop_succ_cons, List.drop_zero, List.drop_nil]); try refine wpList_nil ?_) | refine wp_region_lit ?_)
  refine v_call [0] [] (ht) H rfl rfl (by rfl) cb cw ca ?_; clear H; intro a w H; replace H := nf_Cmp2 H; try refine wpList_nil ?_
  repeat (first | refine wp_seq ?_ | refine wp_block ?_ | refine wp_skip ?_ | refine wp_exit ?_ | ((first | refine v_some 5 tab_ok hN H (by rfl) ct_Cmp2 ?_ | refine v_more tab_ok hN H (by rfl) (by rfl) ct_Cmp2 ?_); clear H; intro a w H; replace H := nf_Cmp2 H; (try simp only [List.drop_succ_cons, List.drop_zero, List.drop_nil]); try refine wpList_nil ?_) | refine wp_region_lit ?_)
  refine v_loop (fun k : Nat => ⟨[(12, none, .v (.int .i64 (k : Int))), (11, none, .v (.int .i64 0)), (5, none, .v (.int .i64 0))], [(rdT, .st [.v (.bool true), .v (.bool true), .bs l none])], [], []⟩) (fun k => k = 0) (fun k => k) 0 rfl (H.to 1 0 ⟨hN, hR⟩ ⟨rfl, rfl, rfl, trivial⟩ rfl rfl rfl rfl rfl) ?_
  clear H
  intro k a w hk H
  subst hk
  repeat (first | refine wp_seq ?_ | refine wp_block ?_ | refine wp_skip ?_ | refine wp_exit ?_ | ((first | refine v_some 5 tab_ok hN H (by rfl) ct_Cmp2 ?_ | refine v_more tab_ok hN H (by rfl) (by rfl) ct_Cmp2 ?_); clear H; intro a w H; replace H := nf_Cmp2 H; (try simp only [List.drop_succ_cons, List.drop_zero, List.drop_nil]); try refine wpList_nil ?_) | refine wp_region_lit ?_)
  refine v_cond H (by rfl) (fun hb => ?_) (fun hb => ?_)
  · simp at hb
  · repeat (first | refine wp_seq ?_ | refine wp_block ?_ | refine wp_skip ?_ | refine wp_exit ?_ | ((first | refine v_some 5 tab_ok hN H (by rfl) ct_Cmp2 ?_ | refine v_more tab_ok hN H (by rfl) (by rfl) ct_Cmp2 ?_); clear H; intro a w H; replace H := nf_Cmp2 H; (try simp only [List.drop_succ_cons, List.drop_zero, List.drop_nil]); try refine wpList_nil ?_) | refine wp_region_lit ?_)
    refine wp_ret ?_
    exact v_end [0] [] tab_ok ⟨hN, hR⟩ (rs := [.tmp 4]) (ress := [_]) rfl H (by rfl) (by rfl) (by simp [pickB, bxs, ren, idx?, sub_refl, sub, allP, rdv] <;> omega) (by first | rfl | (simp [rdv] <;> omega)) (by first | exact trivial | exact ⟨sub_refl _ _, trivial⟩ | exact ⟨sub_refl _ _, sub_refl _ _, trivial⟩ | exact ⟨sub_refl _ _, sub_refl _ _, sub_refl _ _, trivial⟩ | exact ⟨⟨rfl, sub_refl _ _, trivial⟩, sub_refl _ _, trivial⟩ | (simp [cargs, cargsG, St.ev, St.tmp, find, ren, idx?, sub_refl, sub, allP, resv, resC, bss, rdv] <;> omega)) rfl
theorem u16_ok (l : List UInt8) (hn : 2 ≤ l.length) (hl : l.length ≤ 34359738000) : VX Try.prog 73 [(rdT, rdv false l)] [] [] [.ptr 0 []] [(rdT, rdv false (l.drop 2))] [] [] (.v (.int .i64 ((num 0 (l.take 2) : Nat) : Int))) := by
  have hb := num2_lt (l.take 2) (by rw [List.length_take]; omega)
  have ht := number_ok l 2 hn (by decide) hl
  refine v_enter Try.func73 rfl (by kernel_rfl) (by show 1 ≤ 5; decide) ?_
  intro N w0 a w hN hR H
  simp only [rdv] at H ht
  repeat (first | refine wp_seq ?_ | refine wp_block ?_ | refine wp_skip ?_ | refine wp_exit ?_ | ((first | refine v_some 5 tab_ok hN H (by rfl) ct_Cmp2 ?_ | refine v_more tab_ok hN H (by rfl) (by rfl) ct_Cmp2 ?_); clear H; intro a w H; replace H := nf_Cmp2 H; (try simp only [List.drop_succ_cons, List.drop_zero, List.drop_nil]); try refine wpList_nil ?_) | refine wp_region_lit ?_)
  refine v_call [0] [] (ht) H rfl rfl (by rfl) cb cw ca ?_; clear H; intro a w H; replace H := nf_Cmp2 H; try refine wpList_nil ?_
  repeat (first | refine wp_seq ?_ | refine wp_block ?_ | refine wp_skip ?_ | refine wp_exit ?_ | ((first | refine v_some 5 tab_ok hN H (by rfl) ct_Cmp2 ?_ | refine v_more tab_ok hN H (by rfl) (by rfl) ct_Cmp2 ?_); clear H; intro a w H; replace H := nf_Cmp2 H; (try simp only [List.drop_succ_cons, List.drop_zero, List.drop_nil]); try refine wpList_nil ?_) | refine wp_region_lit ?_)
  refine wp_ret ?_
  exact v_end [0] [] tab_ok ⟨hN, hR⟩ (rs := [.tmp 2]) (ress := [_]) rfl H (by rfl) (by rfl) (by simp [pickB, bxs, ren, idx?, sub_refl, sub, allP, rdv] <;> omega) (by first | rfl | (simp [rdv] <;> omega)) (by first | exact trivial | exact ⟨sub_refl _ _, trivial⟩ | exact ⟨sub_refl _ _, sub_refl _ _, trivial⟩ | exact ⟨sub_refl _ _, sub_refl _ _, sub_refl _ _, trivial⟩ | exact ⟨⟨rfl, sub_refl _ _, trivial⟩, sub_refl _ _, trivial⟩ | (simp [cargs, cargsG, St.ev, St.tmp, find, ren, idx?, sub_refl, sub, allP, resv, resC, bss, rdv] <;> omega)) rfl
theorem u16_bad (l : List UInt8) (hn : l.length < 2) : VX Try.prog 73 [(rdT, rdv false l)] [] [] [.ptr 0 []] [(rdT, rdv true l)] [] [] (.v (.int .i64 0)) := by
  have ht := number_bad l 2 hn
  refine v_enter Try.func73 rfl (by kernel_rfl) (by show 1 ≤ 5; decide) ?_
  intro N w0 a w hN hR H
  simp only [rdv] at H ht
  repeat (first | refine wp_seq ?_ | refine wp_block ?_ | refine wp_skip ?_ | refine wp_exit ?_ | ((first | refine v_some 5 tab_ok hN H (by rfl) ct_Cmp2 ?_ | refine v_more tab_ok hN H (by rfl) (by rfl) ct_Cmp2 ?_); clear H; intro a w H; replace H := nf_Cmp2 H; (try simp only [List.drop_succ_cons, List.drop_zero, List.drop_nil]); try refine wpList_nil ?_) | refine wp_region_lit ?_)
  refine v_call [0] [] (ht) H rfl rfl (by rfl) cb cw ca ?_; clear H; intro a w H; replace H := nf_Cmp2 H; try refine wpList_nil ?_
  repeat (first | refine wp_seq ?_ | refine wp_block ?_ | refine wp_skip ?_ | refine wp_exit ?_ | ((first | refine v_some 5 tab_ok hN H (by rfl) ct_Cmp2 ?_ | refine v_more tab_ok hN H (by rfl) (by rfl) ct_Cmp2 ?_); clear H; intro a w H; replace H := nf_Cmp2 H; (try simp only [List.drop_succ_cons, List.drop_zero, List.drop_nil]); try refine wpList_nil ?_) | refine wp_region_lit ?_)
  refine wp_ret ?_
  exact v_end [0] [] tab_ok ⟨hN, hR⟩ (rs := [.tmp 2]) (ress := [_]) rfl H (by rfl) (by rfl) (by simp [pickB, bxs, ren, idx?, sub_refl, sub, allP, rdv] <;> omega) (by first | rfl | (simp [rdv] <;> omega)) (by first | exact trivial | exact ⟨sub_refl _ _, trivial⟩ | exact ⟨sub_refl _ _, sub_refl _ _, trivial⟩ | exact ⟨sub_refl _ _, sub_refl _ _, sub_refl _ _, trivial⟩ | exact ⟨⟨rfl, sub_refl _ _, trivial⟩, sub_refl _ _, trivial⟩ | (simp [cargs, cargsG, St.ev, St.tmp, find, ren, idx?, sub_refl, sub, allP, resv, resC, bss, rdv] <;> omega)) rfl
theorem bits_v (n : Nat) (hn : n ≤ 34359738000) : VC Try.prog 75 [.v (.int .i64 (n : Int))] [] (.v (.int .i64 (((n + 7) / 8 : Nat) : Int))) := by
  refine v_enter Try.func75 rfl (by kernel_rfl) (by show 1 ≤ 6; decide) ?_
  intro N w0 a w hN hR H
  repeat (first | refine wp_seq ?_ | refine wp_block ?_ | refine wp_skip ?_ | refine wp_exit ?_ | ((first | refine v_some 5 tab_ok hN H (by rfl) ct_Cmp2 ?_ | refine v_more tab_ok hN H (by rfl) (by rfl) ct_Cmp2 ?_); clear H; intro a w H; replace H := nf_Cmp2 H; (try simp only [List.drop_succ_cons, List.drop_zero, List.drop_nil]); try refine wpList_nil ?_) | refine wp_region_lit ?_)
  refine wp_ret ?_
  exact v_end [] [] tab_ok ⟨hN, hR⟩ (rs := [.tmp 2]) (ress := [_]) rfl H (by rfl) (by rfl) cb cw ca rfl
end Go.Proofs.Ytlagngkafllbiaa
/- Keys as ways down: the program's and the document's functions. -/
namespace Go.Proofs.Ytlagngkafllbiaa
open Go Go.RowKit
/-- The state made plain. -/
theorem nf_Way {P : Program} {w0 w : World} {N : Gh} {nt : Nat} {st s2 : St} {a : Act} (H : Rel P w0 N nt st a w) (h : st = s2 := by (try simp only [pk, elemB, St.put, St.ev, St.tmp, St.keep, find, dropT, slots, AV.put, AV.loc, fitI, convI, IntKind.signed, IntKind.bits, strip, St.lose, mergeL, setAll, nth, renB, ren, idx?, sub, allP, low, bnd, Int.reduceEq, Nat.reduceAdd, Nat.reduceLT, reduceIte, reduceCtorEq, Nat.reduceEqDiff, Nat.reduceLeDiff, Nat.reduceBEq, Int.reducePow, Int.reduceToNat, ti24_t, ti24_z, ti5_t, ti5_z, ti30_t, ti30_z, ti23_t, ti23_z]); rfl) : Rel P w0 N nt s2 a w := h ▸ H
theorem nt_Way {P : Program} {w0 w : World} {N gS : Gh} {nt : Nat} {q q2 st s2 : St} {a : Act} (H : RelT P w0 N nt gS q st a w) (h1 : q = q2 := by (try simp only [pk, elemB, St.put, St.ev, St.tmp, St.keep, find, dropT, slots, AV.put, AV.loc, fitI, convI, IntKind.signed, IntKind.bits, strip, St.lose, mergeL, setAll, nth, renB, ren, idx?, sub, allP, low, bnd, Int.reduceEq, Nat.reduceAdd, Nat.reduceLT, reduceIte, reduceCtorEq, Nat.reduceEqDiff, Nat.reduceLeDiff, Nat.reduceBEq, Int.reducePow, Int.reduceToNat, ti24_t, ti24_z, ti5_t, ti5_z, ti30_t, ti30_z, ti23_t, ti23_z]); rfl) (h : st = s2 := by (try simp only [pk, elemB, St.put, St.ev, St.tmp, St.keep, find, dropT, slots, AV.put, AV.loc, fitI, convI, IntKind.signed, IntKind.bits, strip, St.lose, mergeL, setAll, nth, renB, ren, idx?, sub, allP, low, bnd, Int.reduceEq, Nat.reduceAdd, Nat.reduceLT, reduceIte, reduceCtorEq, Nat.reduceEqDiff, Nat.reduceLeDiff, Nat.reduceBEq, Int.reducePow, Int.reduceToNat, ti24_t, ti24_z, ti5_t, ti5_z, ti30_t, ti30_z, ti23_t, ti23_z]); rfl) : RelT P w0 N nt gS q2 s2 a w := h1 ▸ h ▸ H
theorem ct_Way {c : Prop} (h : c := by ((try simp only [pk, elemB, St.put, St.ev, St.tmp, St.keep, find, dropT, slots, AV.put, AV.loc, fitI, convI, IntKind.signed, IntKind.bits, strip, St.lose, mergeL, setAll, nth, renB, ren, idx?, sub, allP, low, bnd, Int.reduceEq, Nat.reduceAdd, Nat.reduceLT, reduceIte, reduceCtorEq, Nat.reduceEqDiff, Nat.reduceLeDiff, Nat.reduceBEq, Int.reducePow, Int.reduceToNat, ti24_t, ti24_z, ti5_t, ti5_z, ti30_t, ti30_z, ti23_t, ti23_z, ti24, ti5, ti30, ti23, fit, gcond, ilo, ihi]); first | done | exact cd | exact cd2 | skip)) : c := h
theorem e7w (d : Int) (h0 : 0 ≤ d) : (if (d % 8).toNat ≤ 8 then (d % 8).toNat else 8) = d.toNat % 8 := by split <;> omega
theorem e8w (d : Int) (h0 : 0 ≤ d) : (d / 8).toNat = d.toNat / 8 := by omega
theorem mask_v (d : Int) (h0 : 0 ≤ d) (h1 : d < 256) : VC Try.prog 35 [.v (.int .i64 d)] [] (.v (.int .u8 (128 / 2 ^ (d.toNat % 8)))) := by
  have e7 := e7w d h0
  refine v_enter Try.func35 rfl (by kernel_rfl) (by show 1 ≤ 6; decide) ?_
  intro N w0 a w hN hR H
  repeat (first | refine wp_seq ?_ | refine wp_block ?_ | refine wp_skip ?_ | refine wp_exit ?_ | ((first | refine v_some 5 tab_ok hN H (by rfl) (by (try simp only [e7, e7]); first | done | exact ct_Way) ?_ | refine v_more tab_ok hN H (by rfl) (by rfl) (by (try simp only [e7, e7]); first | done | exact ct_Way) ?_); clear H; intro a w H; replace H := nf_Way H; first | (simp only [e7] at H; replace H := nf_Way H) | skip; (try simp only [List.drop_succ_cons, List.drop_zero, List.drop_nil]); try refine wpList_nil ?_) | refine wp_region_lit ?_)
  refine wp_ret ?_
  exact v_end [] [] tab_ok ⟨hN, hR⟩ (rs := [.tmp 2]) (ress := [_]) rfl H (by rfl) (by rfl) (by simp [pickB, bxs, ren, idx?, sub_refl, sub, allP, e7] <;> omega) (by first | rfl | (simp [e7] <;> omega)) (by first | exact trivial | exact ⟨sub_refl _ _, trivial⟩ | exact ⟨sub_refl _ _, sub_refl _ _, trivial⟩ | exact ⟨sub_refl _ _, sub_refl _ _, sub_refl _ _, trivial⟩ | exact ⟨⟨rfl, sub_refl _ _, trivial⟩, sub_refl _ _, trivial⟩ | (simp [cargs, cargsG, St.ev, St.tmp, find, ren, idx?, sub_refl, sub, allP, resv, resC, bss, e7] <;> omega)) rfl
set_option maxRecDepth 20000 in
theorem bit_v (p : List UInt8) (hp : p.length = 32) (d : Int) : VC Try.prog 12 [.ba p, .v (.int .i64 d)] [] (.v (.int .i64 (pbit p d))) := by
  refine v_enter Try.func12 rfl (by kernel_rfl) (by show 2 ≤ 21; decide) ?_
  intro N w0 a w hN hR H
  repeat (first | refine wp_seq ?_ | refine wp_block ?_ | refine wp_skip ?_ | refine wp_exit ?_ | ((first | refine v_some 5 tab_ok hN H (by rfl) ct_Way ?_ | refine v_more tab_ok hN H (by rfl) (by rfl) ct_Way ?_); clear H; intro a w H; replace H := nf_Way H; (try simp only [List.drop_succ_cons, List.drop_zero, List.drop_nil]); try refine wpList_nil ?_) | refine wp_region_lit ?_)
  by_cases h : 0 ≤ d ∧ d < 256
  · have hm := mask_v d h.1 h.2
    have e8 := e8w d h.1
    rw [pbit, if_pos h]
    have h1 := h.1; have h2 := h.2
    refine v_cond H (by rfl) (fun hb => ?_) (fun hb => ?_)
    · exfalso; simp at hb; omega
    · repeat (first | refine wp_seq ?_ | refine wp_block ?_)
      refine v_draw 1 [5] [0, 1, 2, 3] (by kernel_rfl) (by kernel_rfl) H (by rfl) (fun gS H => ?_); try replace H := nt_Way H
      repeat (refine v_someT 5 tab_ok hN H (by rfl) ct_Way ?_; clear H; intro a w H; replace H := nt_Way H; simp only [List.drop_succ_cons, List.drop_zero, List.drop_nil])
      refine v_moreT tab_ok hN H (by rfl) ct_Way ?_; clear H; intro a w H; try replace H := nt_Way H
      refine v_callT [] [] (hm) H (by rfl) (by rfl) rfl rfl (by rfl) cb cw ca ?_; clear H; intro a w H; try replace H := nt_Way H
      repeat (refine v_someT 5 tab_ok hN H (by rfl) (by (try simp only [e8, e8]); first | done | exact ct_Way) ?_; clear H; intro a w H; replace H := nt_Way H; first | (simp only [e8] at H; replace H := nt_Way H) | skip; simp only [List.drop_succ_cons, List.drop_zero, List.drop_nil])
      refine v_moreT tab_ok hN H (by rfl) (by (try simp only [e8, e8]); first | done | exact ct_Way) ?_; clear H; intro a w H; try replace H := nt_Way H; first | (simp only [e8] at H; replace H := nt_Way H) | skip
      refine v_drawNil H (fun H => ?_)
      rw [and_bit] at H
      have eb : bitAt (p.getD (d.toNat / 8) 0) (d.toNat % 8) = bitN p d.toNat := rfl
      rw [eb] at H
      refine v_cond H (by rfl) (fun hb => ?_) (fun hb => ?_)
      · rw [hb]
        repeat (first | refine wp_seq ?_ | refine wp_block ?_ | refine wp_skip ?_ | refine wp_exit ?_ | ((first | refine v_some 5 tab_ok hN H (by rfl) (by (try simp only [e8, e8]); first | done | exact ct_Way) ?_ | refine v_more tab_ok hN H (by rfl) (by rfl) (by (try simp only [e8, e8]); first | done | exact ct_Way) ?_); clear H; intro a w H; replace H := nf_Way H; first | (simp only [e8] at H; replace H := nf_Way H) | skip; (try simp only [List.drop_succ_cons, List.drop_zero, List.drop_nil]); try refine wpList_nil ?_) | refine wp_region_lit ?_)
        refine wp_ret ?_
        exact v_end [] [] tab_ok ⟨hN, hR⟩ (rs := [.tmp 4]) (ress := [_]) rfl H (by rfl) (by rfl) (by simp [pickB, bxs, ren, idx?, sub_refl, sub, allP, e8] <;> omega) (by first | rfl | (simp [e8] <;> omega)) (by first | exact trivial | exact ⟨sub_refl _ _, trivial⟩ | exact ⟨sub_refl _ _, sub_refl _ _, trivial⟩ | exact ⟨sub_refl _ _, sub_refl _ _, sub_refl _ _, trivial⟩ | exact ⟨⟨rfl, sub_refl _ _, trivial⟩, sub_refl _ _, trivial⟩ | (simp [cargs, cargsG, St.ev, St.tmp, find, ren, idx?, sub_refl, sub, allP, resv, resC, bss, e8] <;> omega)) rfl
      · rw [hb]
        repeat (first | refine wp_seq ?_ | refine wp_block ?_ | refine wp_skip ?_ | refine wp_exit ?_ | ((first | refine v_some 5 tab_ok hN H (by rfl) (by (try simp only [e8, e8]); first | done | exact ct_Way) ?_ | refine v_more tab_ok hN H (by rfl) (by rfl) (by (try simp only [e8, e8]); first | done | exact ct_Way) ?_); clear H; intro a w H; replace H := nf_Way H; first | (simp only [e8] at H; replace H := nf_Way H) | skip; (try simp only [List.drop_succ_cons, List.drop_zero, List.drop_nil]); try refine wpList_nil ?_) | refine wp_region_lit ?_)
        refine wp_ret ?_
        exact v_end [] [] tab_ok ⟨hN, hR⟩ (rs := [.tmp 4]) (ress := [_]) rfl H (by rfl) (by rfl) (by simp [pickB, bxs, ren, idx?, sub_refl, sub, allP, e8] <;> omega) (by first | rfl | (simp [e8] <;> omega)) (by first | exact trivial | exact ⟨sub_refl _ _, trivial⟩ | exact ⟨sub_refl _ _, sub_refl _ _, trivial⟩ | exact ⟨sub_refl _ _, sub_refl _ _, sub_refl _ _, trivial⟩ | exact ⟨⟨rfl, sub_refl _ _, trivial⟩, sub_refl _ _, trivial⟩ | (simp [cargs, cargsG, St.ev, St.tmp, find, ren, idx?, sub_refl, sub, allP, resv, resC, bss, e8] <;> omega)) rfl
  · rw [pbit, if_neg h]
    refine v_cond H (by rfl) (fun hb => ?_) (fun hb => ?_)
    · repeat (first | refine wp_seq ?_ | refine wp_block ?_ | refine wp_skip ?_ | refine wp_exit ?_ | ((first | refine v_some 5 tab_ok hN H (by rfl) ct_Way ?_ | refine v_more tab_ok hN H (by rfl) (by rfl) ct_Way ?_); clear H; intro a w H; replace H := nf_Way H; (try simp only [List.drop_succ_cons, List.drop_zero, List.drop_nil]); try refine wpList_nil ?_) | refine wp_region_lit ?_)
      refine wp_ret ?_
      exact v_end [] [] tab_ok ⟨hN, hR⟩ (rs := [.tmp 4]) (ress := [_]) rfl H (by rfl) (by rfl) cb cw ca rfl
    · exfalso; simp at hb; omega
theorem lz8_v (c : UInt8) : VC Try.prog 94 [.v (B8 c)] [] (.v (.int .i64 ((8 : Int) - (Lib.bitLen c.toNat : Int)))) := by
  have h1 := len8_v c
  have h2 := Lib.bitLen_le8 ⟨c.toNat, c.toNat_lt⟩
  simp only at h2
  refine v_enter Try.func94 rfl (by kernel_rfl) (by show 1 ≤ 6; decide) ?_
  intro N w0 a w hN hR H
  repeat (first | refine wp_seq ?_ | refine wp_block ?_ | refine wp_skip ?_ | refine wp_exit ?_ | ((first | refine v_some 5 tab_ok hN H (by rfl) ct_Way ?_ | refine v_more tab_ok hN H (by rfl) (by rfl) ct_Way ?_); clear H; intro a w H; replace H := nf_Way H; (try simp only [List.drop_succ_cons, List.drop_zero, List.drop_nil]); try refine wpList_nil ?_) | refine wp_region_lit ?_)
  refine v_call [] [] (h1) H rfl rfl (by rfl) cb cw ca ?_; clear H; intro a w H; replace H := nf_Way H; try refine wpList_nil ?_
  repeat (first | refine wp_seq ?_ | refine wp_block ?_ | refine wp_skip ?_ | refine wp_exit ?_ | ((first | refine v_some 5 tab_ok hN H (by rfl) ct_Way ?_ | refine v_more tab_ok hN H (by rfl) (by rfl) ct_Way ?_); clear H; intro a w H; replace H := nf_Way H; (try simp only [List.drop_succ_cons, List.drop_zero, List.drop_nil]); try refine wpList_nil ?_) | refine wp_region_lit ?_)
  refine wp_ret ?_
  exact v_end [] [] tab_ok ⟨hN, hR⟩ (rs := [.tmp 2]) (ress := [_]) rfl H (by rfl) (by rfl) cb cw ca rfl
theorem xor8 (x y : UInt8) : bits .xor .u8 (x.toNat : Int) (y.toNat : Int) = (((x ^^^ y).toNat : Nat) : Int) := by
  rw [u8_xor_nat _ _ x.toNat_lt y.toNat_lt, UInt8.toNat_xor]
theorem bitN_at (p : List UInt8) (k t : Nat) (ht : t < 8) : bitN p (8 * k + t) = bitAt (p.getD k 0) t := by
  unfold bitN
  rw [show (8 * k + t) / 8 = k by omega, show (8 * k + t) % 8 = t by omega]
theorem com_byte (p q : List UInt8) (k : Nat) (h : agree (8 * k) p q) (he : p.getD k 0 = q.getD k 0) : agree (8 * (k + 1)) p q := fun t ht => by
  by_cases h1 : t < 8 * k
  · exact h t h1
  · rw [show t = 8 * k + (t - 8 * k) by omega, bitN_at _ _ _ (by omega), bitN_at _ _ _ (by omega), he]
theorem com_part (p q : List UInt8) (k : Nat) (hk : k < 32) (h : agree (8 * k) p q) (hn : p.getD k 0 ≠ q.getD k 0) : com p q = 8 * k + (8 - Lib.bitLen (p.getD k 0 ^^^ q.getD k 0).toNat) := by
  obtain ⟨l1, l2, l3, l4⟩ := lead_xor _ _ hn
  refine com_of (by omega) (fun t ht => ?_) fun _ => ?_
  · by_cases h1 : t < 8 * k
    · exact h t h1
    · rw [show t = 8 * k + (t - 8 * k) by omega, bitN_at _ _ _ (by omega), bitN_at _ _ _ (by omega)]
      exact l3 _ (by omega)
  · rw [bitN_at _ _ _ l1, bitN_at _ _ _ l1]; exact l4
set_option maxRecDepth 20000 in
theorem common_v (p q : List UInt8) (hp : p.length = 32) (hq : q.length = 32) : VC Try.prog 66 [.ba p, .ba q] [] (.v (.int .i64 (com p q))) := by
  refine v_enter Try.func66 rfl (by kernel_rfl) (by show 2 ≤ 28; decide) ?_
  intro N w0 a w hN hR H
  repeat (first | refine wp_seq ?_ | refine wp_block ?_ | refine wp_skip ?_ | refine wp_exit ?_ | ((first | refine v_some 5 tab_ok hN H (by rfl) ct_Way ?_ | refine v_more tab_ok hN H (by rfl) (by rfl) ct_Way ?_); clear H; intro a w H; replace H := nf_Way H; (try simp only [List.drop_succ_cons, List.drop_zero, List.drop_nil]); try refine wpList_nil ?_) | refine wp_region_lit ?_)
  refine v_cond H (by rfl) (fun hb => ?_) (fun hb => ?_)
  · have he : p = q := by simpa using hb
    subst he
    rw [com_self]
    repeat (first | refine wp_seq ?_ | refine wp_block ?_ | refine wp_skip ?_ | refine wp_exit ?_ | ((first | refine v_some 5 tab_ok hN H (by rfl) ct_Way ?_ | refine v_more tab_ok hN H (by rfl) (by rfl) ct_Way ?_); clear H; intro a w H; replace H := nf_Way H; (try simp only [List.drop_succ_cons, List.drop_zero, List.drop_nil]); try refine wpList_nil ?_) | refine wp_region_lit ?_)
    refine wp_ret ?_
    exact v_end [] [] tab_ok ⟨hN, hR⟩ (rs := [.tmp 4]) (ress := [_]) rfl H (by rfl) (by rfl) cb cw ca rfl
  · have hne : p ≠ q := by simpa using hb
    repeat (first | refine wp_seq ?_ | refine wp_block ?_ | refine wp_skip ?_ | refine wp_exit ?_ | ((first | refine v_some 5 tab_ok hN H (by rfl) ct_Way ?_ | refine v_more tab_ok hN H (by rfl) (by rfl) ct_Way ?_); clear H; intro a w H; replace H := nf_Way H; (try simp only [List.drop_succ_cons, List.drop_zero, List.drop_nil]); try refine wpList_nil ?_) | refine wp_region_lit ?_)
    refine v_loop (fun k : Nat => ⟨[(10, none, .v (.int .i64 (k : Int))), (4, none, .v (.int .i64 0)), (3, none, .ptr 1 []), (2, none, .ptr 0 [])], [(.ba 32, .ba p), (.ba 32, .ba q)], [], []⟩) (fun k => k ≤ 32 ∧ agree (8 * k) p q) (fun k => 32 - k) 0 ⟨Nat.zero_le _, fun t ht => by omega⟩ (H.to 2 0 ⟨Nat.le_trans hN (by decide), hR⟩ ⟨rfl, rfl, rfl, rfl, trivial⟩ rfl rfl rfl rfl rfl) ?_
    clear H
    rintro k a w ⟨hk, hag⟩ H
    repeat (first | refine wp_seq ?_ | refine wp_block ?_ | refine wp_skip ?_ | refine wp_exit ?_ | ((first | refine v_some 5 tab_ok hN H (by rfl) ct_Way ?_ | refine v_more tab_ok hN H (by rfl) (by rfl) ct_Way ?_); clear H; intro a w H; replace H := nf_Way H; (try simp only [List.drop_succ_cons, List.drop_zero, List.drop_nil]); try refine wpList_nil ?_) | refine wp_region_lit ?_)
    refine v_cond H (by rfl) (fun hb => ?_) (fun hb => ?_)
    · have hlt : k < 32 := by simp at hb; omega
      repeat (first | refine wp_seq ?_ | refine wp_block ?_ | refine wp_skip ?_ | refine wp_exit ?_ | ((first | refine v_some 5 tab_ok hN H (by rfl) ct_Way ?_ | refine v_more tab_ok hN H (by rfl) (by rfl) ct_Way ?_); clear H; intro a w H; replace H := nf_Way H; (try simp only [List.drop_succ_cons, List.drop_zero, List.drop_nil]); try refine wpList_nil ?_) | refine wp_region_lit ?_)
      repeat (first | refine wp_seq ?_ | refine wp_block ?_)
      refine v_draw 2 [] [] (by kernel_rfl) (by kernel_rfl) H (by rfl) (fun gS H => ?_); try replace H := nt_Way H
      repeat (refine v_someT 5 tab_ok hN H (by rfl) ct_Way ?_; clear H; intro a w H; replace H := nt_Way H; simp only [List.drop_succ_cons, List.drop_zero, List.drop_nil])
      refine v_moreT tab_ok hN H (by rfl) ct_Way ?_; clear H; intro a w H; try replace H := nt_Way H
      refine v_drawNil H (fun H => ?_)
      rw [xor8] at H
      have hlz := lz8_v (p.getD k 0 ^^^ q.getD k 0)
      have hc8 := (p.getD k 0 ^^^ q.getD k 0).toNat_lt
      repeat (first | refine wp_seq ?_ | refine wp_block ?_ | refine wp_skip ?_ | refine wp_exit ?_ | ((first | refine v_some 5 tab_ok hN H (by rfl) ct_Way ?_ | refine v_more tab_ok hN H (by rfl) (by rfl) ct_Way ?_); clear H; intro a w H; replace H := nf_Way H; (try simp only [List.drop_succ_cons, List.drop_zero, List.drop_nil]); try refine wpList_nil ?_) | refine wp_region_lit ?_)
      refine v_cond H (by rfl) (fun hb => ?_) (fun hb => ?_)
      · have hd : p.getD k 0 ≠ q.getD k 0 := fun e => by rw [e] at hb; simp at hb
        rw [com_part p q k hlt hag hd]
        have hl2 := (lead_xor _ _ hd).2.1
        repeat (first | refine wp_seq ?_ | refine wp_block ?_ | refine wp_skip ?_ | refine wp_exit ?_ | ((first | refine v_some 5 tab_ok hN H (by rfl) ct_Way ?_ | refine v_more tab_ok hN H (by rfl) (by rfl) ct_Way ?_); clear H; intro a w H; replace H := nf_Way H; (try simp only [List.drop_succ_cons, List.drop_zero, List.drop_nil]); try refine wpList_nil ?_) | refine wp_region_lit ?_)
        refine v_call [] [] (hlz) H rfl rfl (by rfl) cb cw ca ?_; clear H; intro a w H; replace H := nf_Way H; try refine wpList_nil ?_
        repeat (first | refine wp_seq ?_ | refine wp_block ?_ | refine wp_skip ?_ | refine wp_exit ?_ | ((first | refine v_some 5 tab_ok hN H (by rfl) ct_Way ?_ | refine v_more tab_ok hN H (by rfl) (by rfl) ct_Way ?_); clear H; intro a w H; replace H := nf_Way H; (try simp only [List.drop_succ_cons, List.drop_zero, List.drop_nil]); try refine wpList_nil ?_) | refine wp_region_lit ?_)
        have e1 : (8 * (k : Int) + (8 - (Lib.bitLen (p.getD k 0 ^^^ q.getD k 0).toNat : Int))) = ((8 * k + (8 - Lib.bitLen (p.getD k 0 ^^^ q.getD k 0).toNat) : Nat) : Int) := by omega
        rw [e1] at H
        refine wp_ret ?_
        exact v_end [] [] tab_ok ⟨hN, hR⟩ (rs := [.tmp 4]) (ress := [_]) rfl H (by rfl) (by rfl) cb cw ca rfl
      · have hd : p.getD k 0 = q.getD k 0 := by
          refine UInt8.xor_eq_zero_iff.1 (UInt8.toNat_inj.1 ?_)
          simpa using hb
        repeat (first | refine wp_seq ?_ | refine wp_block ?_ | refine wp_skip ?_ | refine wp_exit ?_ | ((first | refine v_some 5 tab_ok hN H (by rfl) ct_Way ?_ | refine v_more tab_ok hN H (by rfl) (by rfl) ct_Way ?_); clear H; intro a w H; replace H := nf_Way H; (try simp only [List.drop_succ_cons, List.drop_zero, List.drop_nil]); try refine wpList_nil ?_) | refine wp_region_lit ?_)
        exact ⟨k + 1, ⟨hlt, com_byte p q k hag hd⟩, by omega, H.to 2 0 ⟨Nat.le_trans hN (by decide), hR⟩ ⟨rfl, rfl, rfl, rfl, trivial⟩ rfl rfl rfl rfl rfl⟩
    · have hge : k = 32 := by simp at hb; omega
      subst hge
      exact absurd (agree_eq hp hq hag) hne
theorem under_v (p q : List UInt8) (hp : p.length = 32) (hq : q.length = 32) (d : Int) : VC Try.prog 38 [.ba p, .ba q, .v (.int .i64 d)] [] (.v (.bool (decide (0 ≤ d ∧ d ≤ 256 ∧ d ≤ com p q)))) := by
  have hc := common_v p q hp hq
  refine v_enter Try.func38 rfl (by kernel_rfl) (by show 3 ≤ 20; decide) ?_
  intro N w0 a w hN hR H
  repeat (first | refine wp_seq ?_ | refine wp_block ?_ | refine wp_skip ?_ | refine wp_exit ?_ | ((first | refine v_some 5 tab_ok hN H (by rfl) ct_Way ?_ | refine v_more tab_ok hN H (by rfl) (by rfl) ct_Way ?_); clear H; intro a w H; replace H := nf_Way H; (try simp only [List.drop_succ_cons, List.drop_zero, List.drop_nil]); try refine wpList_nil ?_) | refine wp_region_lit ?_)
  refine v_callG [] [] (hc) H (by rfl) rfl (by rfl) cb cw ca (by rfl) (by rfl) (by rfl) ?_; clear H; intro a w H; replace H := nf_Way H; try refine wpList_nil ?_
  repeat (first | refine wp_seq ?_ | refine wp_block ?_ | refine wp_skip ?_ | refine wp_exit ?_ | ((first | refine v_some 5 tab_ok hN H (by rfl) ct_Way ?_ | refine v_more tab_ok hN H (by rfl) (by rfl) ct_Way ?_); clear H; intro a w H; replace H := nf_Way H; (try simp only [List.drop_succ_cons, List.drop_zero, List.drop_nil]); try refine wpList_nil ?_) | refine wp_region_lit ?_)
  by_cases h0 : 0 ≤ d
  · by_cases h1 : d ≤ 256
    · have e : (decide (0 ≤ d ∧ d ≤ 256 ∧ d ≤ com p q)) = decide (d ≤ com p q) := by simp [h0, h1]
      rw [e]
      simp only [decide_eq_true h0, decide_eq_true h1, cond_true] at H
      refine wp_ret ?_
      exact v_end [] [] tab_ok ⟨hN, hR⟩ (rs := [.tmp 6]) (ress := [_]) rfl H (by rfl) (by rfl) cb cw ca rfl
    · have e : (decide (0 ≤ d ∧ d ≤ 256 ∧ d ≤ com p q)) = false := by simp [h1]
      rw [e]
      simp only [decide_eq_true h0, decide_eq_false h1, cond_true, cond_false] at H
      refine wp_ret ?_
      exact v_end [] [] tab_ok ⟨hN, hR⟩ (rs := [.tmp 6]) (ress := [_]) rfl H (by rfl) (by rfl) cb cw ca rfl
  · have e : (decide (0 ≤ d ∧ d ≤ 256 ∧ d ≤ com p q)) = false := by simp [h0]
    rw [e]
    simp only [decide_eq_false h0, cond_false] at H
    refine wp_ret ?_
    exact v_end [] [] tab_ok ⟨hN, hR⟩ (rs := [.tmp 6]) (ress := [_]) rfl H (by rfl) (by rfl) cb cw ca rfl
end Go.Proofs.Ytlagngkafllbiaa
/- Keys as ways down: the document's functions. -/
namespace Go.Proofs.Ytlagngkafllbiaa
open Go Go.RowKit
/-- The state made plain. -/
theorem nf_WayR {P : Program} {w0 w : World} {N : Gh} {nt : Nat} {st s2 : St} {a : Act} (H : Rel P w0 N nt st a w) (h : st = s2 := by (try simp only [pk, elemB, St.put, St.ev, St.tmp, St.keep, find, dropT, slots, AV.put, AV.loc, fitI, convI, IntKind.signed, IntKind.bits, strip, St.lose, mergeL, setAll, nth, renB, ren, idx?, sub, allP, low, bnd, Int.reduceEq, Nat.reduceAdd, Nat.reduceLT, reduceIte, reduceCtorEq, Nat.reduceEqDiff, Nat.reduceLeDiff, Nat.reduceBEq, Int.reducePow, Int.reduceToNat, ti24_t, ti24_z, ti5_t, ti5_z, ti22_t, ti22_z]); rfl) : Rel P w0 N nt s2 a w := h ▸ H
theorem nt_WayR {P : Program} {w0 w : World} {N gS : Gh} {nt : Nat} {q q2 st s2 : St} {a : Act} (H : RelT P w0 N nt gS q st a w) (h1 : q = q2 := by (try simp only [pk, elemB, St.put, St.ev, St.tmp, St.keep, find, dropT, slots, AV.put, AV.loc, fitI, convI, IntKind.signed, IntKind.bits, strip, St.lose, mergeL, setAll, nth, renB, ren, idx?, sub, allP, low, bnd, Int.reduceEq, Nat.reduceAdd, Nat.reduceLT, reduceIte, reduceCtorEq, Nat.reduceEqDiff, Nat.reduceLeDiff, Nat.reduceBEq, Int.reducePow, Int.reduceToNat, ti24_t, ti24_z, ti5_t, ti5_z, ti22_t, ti22_z]); rfl) (h : st = s2 := by (try simp only [pk, elemB, St.put, St.ev, St.tmp, St.keep, find, dropT, slots, AV.put, AV.loc, fitI, convI, IntKind.signed, IntKind.bits, strip, St.lose, mergeL, setAll, nth, renB, ren, idx?, sub, allP, low, bnd, Int.reduceEq, Nat.reduceAdd, Nat.reduceLT, reduceIte, reduceCtorEq, Nat.reduceEqDiff, Nat.reduceLeDiff, Nat.reduceBEq, Int.reducePow, Int.reduceToNat, ti24_t, ti24_z, ti5_t, ti5_z, ti22_t, ti22_z]); rfl) : RelT P w0 N nt gS q2 s2 a w := h1 ▸ h ▸ H
theorem ct_WayR {c : Prop} (h : c := by ((try simp only [pk, elemB, St.put, St.ev, St.tmp, St.keep, find, dropT, slots, AV.put, AV.loc, fitI, convI, IntKind.signed, IntKind.bits, strip, St.lose, mergeL, setAll, nth, renB, ren, idx?, sub, allP, low, bnd, Int.reduceEq, Nat.reduceAdd, Nat.reduceLT, reduceIte, reduceCtorEq, Nat.reduceEqDiff, Nat.reduceLeDiff, Nat.reduceBEq, Int.reducePow, Int.reduceToNat, ti24_t, ti24_z, ti5_t, ti5_z, ti22_t, ti22_z, ti24, ti5, ti22, fit, gcond, ilo, ihi]); first | done | exact cd | exact cd2 | skip)) : c := h
theorem half_bit (c : UInt8) (m : Nat) (hm : m < 8) : c.toNat / 2 ^ (7 - m) % 2 = if bitAt c m then 1 else 0 := by
  rw [bitAt_test c m hm, Nat.testBit_eq_decide_div_mod_eq]
  have := Nat.mod_two_eq_zero_or_one (c.toNat / 2 ^ (7 - m))
  rcases this with h | h <;> rw [h] <;> rfl
set_option maxRecDepth 20000 in
theorem bitR_v (p : List UInt8) (hp : p.length = 32) (d : Int) : VC Try.prog 64 [.ba p, .v (.int .i64 d)] [] (.v (.int .i64 (pbit p d))) := by
  refine v_enter Try.func64 rfl (by kernel_rfl) (by show 2 ≤ 29; decide) ?_
  intro N w0 a w hN hR H
  repeat (first | refine wp_seq ?_ | refine wp_block ?_ | refine wp_skip ?_ | refine wp_exit ?_ | ((first | refine v_some 5 tab_ok hN H (by rfl) ct_WayR ?_ | refine v_more tab_ok hN H (by rfl) (by rfl) ct_WayR ?_); clear H; intro a w H; replace H := nf_WayR H; (try simp only [List.drop_succ_cons, List.drop_zero, List.drop_nil]); try refine wpList_nil ?_) | refine wp_region_lit ?_)
  by_cases h : 0 ≤ d ∧ d < 256
  · have e8 := e8w d h.1
    skip
    refine v_cond H (by rfl) (fun hb => ?_) (fun hb => ?_)
    · exfalso; simp at hb; omega
    · obtain ⟨c, hc⟩ : ∃ c, c = p.getD (d.toNat / 8) 0 := ⟨_, rfl⟩
      have hc8 := c.toNat_lt
      repeat (first | refine wp_seq ?_ | refine wp_block ?_ | refine wp_skip ?_ | refine wp_exit ?_ | ((first | refine v_some 5 tab_ok hN H (by rfl) (by (try simp only [e8, ← hc, e8]); first | done | exact ct_WayR) ?_ | refine v_more tab_ok hN H (by rfl) (by rfl) (by (try simp only [e8, ← hc, e8]); first | done | exact ct_WayR) ?_); clear H; intro a w H; replace H := nf_WayR H; first | (simp only [e8, ← hc] at H; replace H := nf_WayR H) | skip; (try simp only [List.drop_succ_cons, List.drop_zero, List.drop_nil]); try refine wpList_nil ?_) | refine wp_region_lit ?_)
      refine v_loop (fun k : Nat => ⟨[(6, none, .v (.int .i64 (k : Int))), (5, none, .v (.int .i64 ((c.toNat / 2 ^ k : Nat) : Int))), (1, none, .v (.int .i64 d))], [(.ba 32, .ba p)], [], []⟩) (fun k => k ≤ 7 - d.toNat % 8) (fun k => 8 - k) 0 (Nat.zero_le _) (H.to 1 0 ⟨Nat.le_trans hN (by decide), hR⟩ ⟨rfl, by rw [Nat.pow_zero, Nat.div_one]; rfl, rfl, trivial⟩ rfl rfl rfl rfl rfl) ?_
      clear H
      intro k a w hk H
      have hlt2 : c.toNat / 2 ^ k < 256 := Nat.lt_of_le_of_lt (Nat.div_le_self _ _) hc8
      obtain ⟨v, hv⟩ : ∃ v, v = c.toNat / 2 ^ k := ⟨_, rfl⟩
      rw [← hv] at H hlt2
      have hv' : PLift (v = c.toNat / 2 ^ k) := ⟨hv⟩
      clear hv
      repeat (first | refine wp_seq ?_ | refine wp_block ?_ | refine wp_skip ?_ | refine wp_exit ?_ | ((first | refine v_some 5 tab_ok hN H (by rfl) ct_WayR ?_ | refine v_more tab_ok hN H (by rfl) (by rfl) ct_WayR ?_); clear H; intro a w H; replace H := nf_WayR H; (try simp only [List.drop_succ_cons, List.drop_zero, List.drop_nil]); try refine wpList_nil ?_) | refine wp_region_lit ?_)
      refine v_cond H (by rfl) (fun hb => ?_) (fun hb => ?_)
      · have hlt : k < 7 - d.toNat % 8 := by simp at hb; omega
        repeat (first | refine wp_seq ?_ | refine wp_block ?_ | refine wp_skip ?_ | refine wp_exit ?_ | ((first | refine v_some 5 tab_ok hN H (by rfl) ct_WayR ?_ | refine v_more tab_ok hN H (by rfl) (by rfl) ct_WayR ?_); clear H; intro a w H; replace H := nf_WayR H; (try simp only [List.drop_succ_cons, List.drop_zero, List.drop_nil]); try refine wpList_nil ?_) | refine wp_region_lit ?_)
        have e2 : (v : Int) / 2 = ((c.toNat / 2 ^ (k + 1) : Nat) : Int) := by
          have hv : v = c.toNat / 2 ^ k := hv'.down
          rw [Nat.pow_succ, ← Nat.div_div_eq_div_mul, ← hv]; omega
        rw [e2] at H
        exact ⟨k + 1, hlt, by omega, H.to 1 0 ⟨Nat.le_trans hN (by decide), hR⟩ ⟨rfl, rfl, rfl, trivial⟩ rfl rfl rfl rfl rfl⟩
      · have hge : k = 7 - d.toNat % 8 := by simp at hb; omega
        subst hge
        have hb2 := half_bit c (d.toNat % 8) (by omega)
        have hv : v = c.toNat / 2 ^ (7 - d.toNat % 8) := hv'.down
        rw [← hv] at hb2
        clear hv
        have e3 : pbit p d = ((v % 2 : Nat) : Int) := by
          rw [pbit, if_pos h, hb2, hc]; unfold bitN; split <;> rfl
        rw [e3]
        repeat (first | refine wp_seq ?_ | refine wp_block ?_ | refine wp_skip ?_ | refine wp_exit ?_ | ((first | refine v_some 5 tab_ok hN H (by rfl) ct_WayR ?_ | refine v_more tab_ok hN H (by rfl) (by rfl) ct_WayR ?_); clear H; intro a w H; replace H := nf_WayR H; (try simp only [List.drop_succ_cons, List.drop_zero, List.drop_nil]); try refine wpList_nil ?_) | refine wp_region_lit ?_)
        refine wp_ret ?_
        exact v_end [] [] tab_ok ⟨hN, hR⟩ (rs := [.tmp 4]) (ress := [_]) rfl H (by rfl) (by rfl) cb cw ca rfl
  · rw [pbit, if_neg h]
    refine v_cond H (by rfl) (fun hb => ?_) (fun hb => ?_)
    · repeat (first | refine wp_seq ?_ | refine wp_block ?_ | refine wp_skip ?_ | refine wp_exit ?_ | ((first | refine v_some 5 tab_ok hN H (by rfl) ct_WayR ?_ | refine v_more tab_ok hN H (by rfl) (by rfl) ct_WayR ?_); clear H; intro a w H; replace H := nf_WayR H; (try simp only [List.drop_succ_cons, List.drop_zero, List.drop_nil]); try refine wpList_nil ?_) | refine wp_region_lit ?_)
      refine wp_ret ?_
      exact v_end [] [] tab_ok ⟨hN, hR⟩ (rs := [.tmp 4]) (ress := [_]) rfl H (by rfl) (by rfl) cb cw ca rfl
    · exfalso; simp at hb; omega
theorem pbit_nat (p : List UInt8) (k : Nat) (hk : k < 256) : pbit p (k : Int) = if bitN p k then 1 else 0 := by
  rw [pbit, if_pos (by omega), Int.toNat_natCast]
set_option maxRecDepth 20000 in
theorem commonR_v (p q : List UInt8) (hp : p.length = 32) (hq : q.length = 32) : VC Try.prog 67 [.ba p, .ba q] [] (.v (.int .i64 (com p q))) := by
  refine v_enter Try.func67 rfl (by kernel_rfl) (by show 2 ≤ 20; decide) ?_
  intro N w0 a w hN hR H
  repeat (first | refine wp_seq ?_ | refine wp_block ?_ | refine wp_skip ?_ | refine wp_exit ?_ | ((first | refine v_some 5 tab_ok hN H (by rfl) ct_WayR ?_ | refine v_more tab_ok hN H (by rfl) (by rfl) ct_WayR ?_); clear H; intro a w H; replace H := nf_WayR H; (try simp only [List.drop_succ_cons, List.drop_zero, List.drop_nil]); try refine wpList_nil ?_) | refine wp_region_lit ?_)
  refine v_loop (fun k : Nat => ⟨[(5, none, .v (.int .i64 (k : Int))), (4, none, .v (.int .i64 0)), (3, none, .ptr 1 []), (2, none, .ptr 0 [])], [(.ba 32, .ba p), (.ba 32, .ba q)], [], []⟩) (fun k => k ≤ 256 ∧ agree k p q) (fun k => 256 - k) 0 ⟨Nat.zero_le _, fun t ht => by omega⟩ (H.to 2 0 ⟨Nat.le_trans hN (by decide), hR⟩ ⟨rfl, rfl, rfl, rfl, trivial⟩ rfl rfl rfl rfl rfl) ?_
  clear H
  rintro k a w ⟨hk, hag⟩ H
  have hp1 := bitR_v p hp (k : Int)
  have hq1 := bitR_v q hq (k : Int)
  repeat (first | refine wp_seq ?_ | refine wp_block ?_)
  refine v_draw 2 [5, 8] [6, 7] (by kernel_rfl) (by kernel_rfl) H (by rfl) (fun gS H => ?_); try replace H := nt_WayR H
  repeat (refine v_someT 5 tab_ok hN H (by rfl) ct_WayR ?_; clear H; intro a w H; replace H := nt_WayR H; simp only [List.drop_succ_cons, List.drop_zero, List.drop_nil])
  refine v_moreT tab_ok hN H (by rfl) ct_WayR ?_; clear H; intro a w H; try replace H := nt_WayR H
  refine v_callTG [] [] (hp1) H (by rfl) (by rfl) (by rfl) rfl (by rfl) cb cw ca (by rfl) (by rfl) (by rfl) ?_; clear H; intro a w H; try replace H := nt_WayR H
  repeat (refine v_someT 5 tab_ok hN H (by rfl) ct_WayR ?_; clear H; intro a w H; replace H := nt_WayR H; simp only [List.drop_succ_cons, List.drop_zero, List.drop_nil])
  refine v_moreT tab_ok hN H (by rfl) ct_WayR ?_; clear H; intro a w H; try replace H := nt_WayR H
  refine v_callTG [] [] (hq1) H (by rfl) (by rfl) (by rfl) rfl (by rfl) cb cw ca (by rfl) (by rfl) (by rfl) ?_; clear H; intro a w H; try replace H := nt_WayR H
  repeat (refine v_someT 5 tab_ok hN H (by rfl) ct_WayR ?_; clear H; intro a w H; replace H := nt_WayR H; simp only [List.drop_succ_cons, List.drop_zero, List.drop_nil])
  refine v_moreT tab_ok hN H (by rfl) ct_WayR ?_; clear H; intro a w H; try replace H := nt_WayR H
  refine v_drawNil H (fun H => ?_)
  by_cases hk2 : k < 256
  · rw [pbit_nat p k hk2, pbit_nat q k hk2] at H
    refine v_cond H (by rfl) (fun hb => ?_) (fun hb => ?_)
    · have he : bitN p k = bitN q k := by
        revert hb
        cases bitN p k <;> cases bitN q k <;> simp
      repeat (first | refine wp_seq ?_ | refine wp_block ?_ | refine wp_skip ?_ | refine wp_exit ?_ | ((first | refine v_some 5 tab_ok hN H (by rfl) ct_WayR ?_ | refine v_more tab_ok hN H (by rfl) (by rfl) ct_WayR ?_); clear H; intro a w H; replace H := nf_WayR H; (try simp only [List.drop_succ_cons, List.drop_zero, List.drop_nil]); try refine wpList_nil ?_) | refine wp_region_lit ?_)
      exact ⟨k + 1, ⟨hk2, fun t ht => by
        by_cases h1 : t < k
        · exact hag t h1
        · rw [show t = k by omega]; exact he⟩, by omega, H.to 2 0 ⟨Nat.le_trans hN (by decide), hR⟩ ⟨rfl, rfl, rfl, rfl, trivial⟩ rfl rfl rfl rfl rfl⟩
    · have hne : bitN p k ≠ bitN q k := fun e => by
        rw [e] at hb; simp at hb; omega
      have e := com_of hk hag fun _ => hne
      rw [e]
      repeat (first | refine wp_seq ?_ | refine wp_block ?_ | refine wp_skip ?_ | refine wp_exit ?_ | ((first | refine v_some 5 tab_ok hN H (by rfl) ct_WayR ?_ | refine v_more tab_ok hN H (by rfl) (by rfl) ct_WayR ?_); clear H; intro a w H; replace H := nf_WayR H; (try simp only [List.drop_succ_cons, List.drop_zero, List.drop_nil]); try refine wpList_nil ?_) | refine wp_region_lit ?_)
      refine wp_ret ?_
      exact v_end [] [] tab_ok ⟨hN, hR⟩ (rs := [.tmp 4]) (ress := [_]) rfl H (by rfl) (by rfl) cb cw ca rfl
  · have e := com_of hk hag fun h => absurd h hk2
    rw [e]
    refine v_cond H (by rfl) (fun hb => ?_) (fun hb => ?_)
    · exfalso; simp at hb; omega
    · repeat (first | refine wp_seq ?_ | refine wp_block ?_ | refine wp_skip ?_ | refine wp_exit ?_ | ((first | refine v_some 5 tab_ok hN H (by rfl) ct_WayR ?_ | refine v_more tab_ok hN H (by rfl) (by rfl) ct_WayR ?_); clear H; intro a w H; replace H := nf_WayR H; (try simp only [List.drop_succ_cons, List.drop_zero, List.drop_nil]); try refine wpList_nil ?_) | refine wp_region_lit ?_)
      refine wp_ret ?_
      exact v_end [] [] tab_ok ⟨hN, hR⟩ (rs := [.tmp 4]) (ress := [_]) rfl H (by rfl) (by rfl) cb cw ca rfl
theorem underR_v (p q : List UInt8) (hp : p.length = 32) (hq : q.length = 32) (d : Int) : VC Try.prog 39 [.ba p, .ba q, .v (.int .i64 d)] [] (.v (.bool (decide (0 ≤ d ∧ d ≤ 256 ∧ d ≤ com p q)))) := by
  have hc := commonR_v p q hp hq
  refine v_enter Try.func39 rfl (by kernel_rfl) (by show 3 ≤ 20; decide) ?_
  intro N w0 a w hN hR H
  repeat (first | refine wp_seq ?_ | refine wp_block ?_ | refine wp_skip ?_ | refine wp_exit ?_ | ((first | refine v_some 5 tab_ok hN H (by rfl) ct_WayR ?_ | refine v_more tab_ok hN H (by rfl) (by rfl) ct_WayR ?_); clear H; intro a w H; replace H := nf_WayR H; (try simp only [List.drop_succ_cons, List.drop_zero, List.drop_nil]); try refine wpList_nil ?_) | refine wp_region_lit ?_)
  refine v_callG [] [] (hc) H (by rfl) rfl (by rfl) cb cw ca (by rfl) (by rfl) (by rfl) ?_; clear H; intro a w H; replace H := nf_WayR H; try refine wpList_nil ?_
  repeat (first | refine wp_seq ?_ | refine wp_block ?_ | refine wp_skip ?_ | refine wp_exit ?_ | ((first | refine v_some 5 tab_ok hN H (by rfl) ct_WayR ?_ | refine v_more tab_ok hN H (by rfl) (by rfl) ct_WayR ?_); clear H; intro a w H; replace H := nf_WayR H; (try simp only [List.drop_succ_cons, List.drop_zero, List.drop_nil]); try refine wpList_nil ?_) | refine wp_region_lit ?_)
  by_cases h0 : 0 ≤ d
  · by_cases h1 : d ≤ 256
    · have e : (decide (0 ≤ d ∧ d ≤ 256 ∧ d ≤ com p q)) = decide (d ≤ com p q) := by simp [h0, h1]
      rw [e]
      simp only [decide_eq_true h0, decide_eq_true h1, cond_true] at H
      refine wp_ret ?_
      exact v_end [] [] tab_ok ⟨hN, hR⟩ (rs := [.tmp 6]) (ress := [_]) rfl H (by rfl) (by rfl) cb cw ca rfl
    · have e : (decide (0 ≤ d ∧ d ≤ 256 ∧ d ≤ com p q)) = false := by simp [h1]
      rw [e]
      simp only [decide_eq_true h0, decide_eq_false h1, cond_true, cond_false] at H
      refine wp_ret ?_
      exact v_end [] [] tab_ok ⟨hN, hR⟩ (rs := [.tmp 6]) (ress := [_]) rfl H (by rfl) (by rfl) cb cw ca rfl
  · have e : (decide (0 ≤ d ∧ d ≤ 256 ∧ d ≤ com p q)) = false := by simp [h0]
    rw [e]
    simp only [decide_eq_false h0, cond_false] at H
    refine wp_ret ?_
    exact v_end [] [] tab_ok ⟨hN, hR⟩ (rs := [.tmp 6]) (ress := [_]) rfl H (by rfl) (by rfl) cb cw ca rfl
end Go.Proofs.Ytlagngkafllbiaa
/- Digests of a byte and parts: the program's. -/
namespace Go.Proofs.Ytlagngkafllbiaa
open Go Go.RowKit
/-- The state made plain. -/
theorem nf_TagOf {P : Program} {w0 w : World} {N : Gh} {nt : Nat} {st s2 : St} {a : Act} (H : Rel P w0 N nt st a w) (h : st = s2 := by (try simp only [pk, elemB, St.put, St.ev, St.tmp, St.keep, find, dropT, slots, AV.put, AV.loc, fitI, convI, IntKind.signed, IntKind.bits, strip, St.lose, mergeL, setAll, nth, renB, ren, idx?, sub, allP, low, bnd, Int.reduceEq, Nat.reduceAdd, Nat.reduceLT, reduceIte, reduceCtorEq, Nat.reduceEqDiff, Nat.reduceLeDiff, Nat.reduceBEq, Int.reducePow, Int.reduceToNat, ti105_t, ti105_z, ti101_t, ti101_z, ti24_t, ti24_z, ti5_t, ti5_z, ti30_t, ti30_z, ti23_t, ti23_z]); rfl) : Rel P w0 N nt s2 a w := h ▸ H
theorem ct_TagOf {c : Prop} (h : c := by ((try simp only [pk, elemB, St.put, St.ev, St.tmp, St.keep, find, dropT, slots, AV.put, AV.loc, fitI, convI, IntKind.signed, IntKind.bits, strip, St.lose, mergeL, setAll, nth, renB, ren, idx?, sub, allP, low, bnd, Int.reduceEq, Nat.reduceAdd, Nat.reduceLT, reduceIte, reduceCtorEq, Nat.reduceEqDiff, Nat.reduceLeDiff, Nat.reduceBEq, Int.reducePow, Int.reduceToNat, ti105_t, ti105_z, ti101_t, ti101_z, ti24_t, ti24_z, ti5_t, ti5_z, ti30_t, ti30_z, ti23_t, ti23_z, ti105, ti101, ti24, ti5, ti30, ti23, fit, gcond, ilo, ihi]); first | done | exact cd | exact cd2 | skip)) : c := h
theorem of_v (t : UInt8) (ls : List (List UInt8)) (hb : ls.flatten.length ≤ 34359737000) (hl : ls.length ≤ 34359737000) : VC Try.prog 68 [.v (B8 t), .sl .sc (bss ls) none] [] (.ba (sum (t :: ls.flatten))) := by
  have hbl := bss_len ls
  have ht := t.toNat_lt
  refine v_enter Try.func68 rfl (by kernel_rfl) (by show 2 ≤ 25; decide) ?_
  intro N w0 a w hN hR H
  repeat (first | refine wp_seq ?_ | refine wp_block ?_ | refine wp_skip ?_ | refine wp_exit ?_ | ((first | refine v_some 5 tab_ok hN H (by rfl) (by (try simp only [ren_s8v, ren_shv, s8v, shv, W32, h0]); first | done | exact ct_TagOf) ?_ | refine v_more tab_ok hN H (by rfl) (by rfl) (by (try simp only [ren_s8v, ren_shv, s8v, shv, W32, h0]); first | done | exact ct_TagOf) ?_); clear H; intro a w H; replace H := nf_TagOf H; first | (simp only [ren_s8v, ren_shv] at H; replace H := nf_TagOf H) | skip; (try simp only [List.drop_succ_cons, List.drop_zero, List.drop_nil]); try refine wpList_nil ?_) | refine wp_region_lit ?_)
  refine v_call [] [] (new_v) H rfl rfl (by rfl) (by simp [pickB, bxs, ren, idx?, sub_refl, sub, allP, ren_s8v, ren_shv] <;> omega) (by first | rfl | (simp [ren_s8v, ren_shv] <;> omega)) (by first | exact trivial | exact ⟨sub_refl _ _, trivial⟩ | exact ⟨sub_refl _ _, sub_refl _ _, trivial⟩ | exact ⟨sub_refl _ _, sub_refl _ _, sub_refl _ _, trivial⟩ | exact ⟨⟨rfl, sub_refl _ _, trivial⟩, sub_refl _ _, trivial⟩ | (simp [cargs, cargsG, St.ev, St.tmp, find, ren, idx?, sub_refl, sub, allP, resv, resC, bss, ren_s8v, ren_shv] <;> omega)) ?_; clear H; intro a w H; replace H := nf_TagOf H; first | (simp only [ren_s8v, ren_shv] at H; replace H := nf_TagOf H) | skip; try refine wpList_nil ?_
  repeat (first | refine wp_seq ?_ | refine wp_block ?_ | refine wp_skip ?_ | refine wp_exit ?_ | ((first | refine v_some 5 tab_ok hN H (by rfl) (by (try simp only [ren_s8v, ren_shv, s8v, shv, W32, h0]); first | done | exact ct_TagOf) ?_ | refine v_more tab_ok hN H (by rfl) (by rfl) (by (try simp only [ren_s8v, ren_shv, s8v, shv, W32, h0]); first | done | exact ct_TagOf) ?_); clear H; intro a w H; replace H := nf_TagOf H; first | (simp only [ren_s8v, ren_shv] at H; replace H := nf_TagOf H) | skip; (try simp only [List.drop_succ_cons, List.drop_zero, List.drop_nil]); try refine wpList_nil ?_) | refine wp_region_lit ?_)
  obtain ⟨s1, b1, n1, h1, hw1⟩ := write_g [] [t] h0 (List.replicate 64 0) 0 good_nil (by simp) 0 (by decide)
  refine v_call [1] [] (hw1) H rfl rfl (by rfl) (by simp [pickB, bxs, ren, idx?, sub_refl, sub, allP, ren_s8v, ren_shv, Nat.zero_add] <;> omega) (by first | rfl | (simp [ren_s8v, ren_shv, Nat.zero_add] <;> omega)) (by first | exact trivial | exact ⟨sub_refl _ _, trivial⟩ | exact ⟨sub_refl _ _, sub_refl _ _, trivial⟩ | exact ⟨sub_refl _ _, sub_refl _ _, sub_refl _ _, trivial⟩ | exact ⟨⟨rfl, sub_refl _ _, trivial⟩, sub_refl _ _, trivial⟩ | (simp [cargs, cargsG, St.ev, St.tmp, find, ren, idx?, sub_refl, sub, allP, resv, resC, bss, ren_s8v, ren_shv, Nat.zero_add] <;> omega)) ?_; clear H; intro a w H; replace H := nf_TagOf H; first | (simp only [ren_s8v, ren_shv, Nat.zero_add] at H; replace H := nf_TagOf H) | skip; try refine wpList_nil ?_
  repeat (first | refine wp_seq ?_ | refine wp_block ?_ | refine wp_skip ?_ | refine wp_exit ?_ | ((first | refine v_some 5 tab_ok hN H (by rfl) (by (try simp only [ren_s8v, ren_shv, Nat.zero_add, s8v, shv, W32, h0]); first | done | exact ct_TagOf) ?_ | refine v_more tab_ok hN H (by rfl) (by rfl) (by (try simp only [ren_s8v, ren_shv, Nat.zero_add, s8v, shv, W32, h0]); first | done | exact ct_TagOf) ?_); clear H; intro a w H; replace H := nf_TagOf H; first | (simp only [ren_s8v, ren_shv, Nat.zero_add] at H; replace H := nf_TagOf H) | skip; (try simp only [List.drop_succ_cons, List.drop_zero, List.drop_nil]); try refine wpList_nil ?_) | refine wp_region_lit ?_)
  refine v_loop (fun i : S8 × List UInt8 × Nat × Nat => ⟨[(4, none, .ptr 0 []), (5, none, .ptr 1 []), (15, none, .v (.int .i64 (i.2.2.2 : Int))), (14, none, .v (.int .i64 (ls.length : Int))), (13, none, .sl .sc (bss ls) none)], [(.ba 32, .ba (List.replicate 32 0)), (ti105.ty, shv i.1 i.2.1 i.2.2.1 (1 + (ls.take i.2.2.2).flatten.length))], [], []⟩)
    (fun i => Good (t :: (ls.take i.2.2.2).flatten) i.1 i.2.1 i.2.2.1 ∧ i.2.2.2 ≤ ls.length) (fun i => ls.length - i.2.2.2) (s1, b1, n1, 0) ⟨by simpa using h1, Nat.zero_le _⟩
    (H.to 2 0 ⟨Nat.le_trans hN (by decide), hR⟩ ⟨rfl, rfl, rfl, by rw [hbl]; rfl, rfl, trivial⟩ rfl rfl rfl rfl rfl) ?_
  clear H
  rintro ⟨s2, b2, n2, k⟩ a w ⟨h2, hk⟩ H
  dsimp only at h2 hk H
  repeat (first | refine wp_seq ?_ | refine wp_block ?_ | refine wp_skip ?_ | refine wp_exit ?_ | ((first | refine v_some 5 tab_ok hN H (by rfl) (by (try simp only [ren_s8v, ren_shv, Nat.zero_add, s8v, shv, W32, h0]); first | done | exact ct_TagOf) ?_ | refine v_more tab_ok hN H (by rfl) (by rfl) (by (try simp only [ren_s8v, ren_shv, Nat.zero_add, s8v, shv, W32, h0]); first | done | exact ct_TagOf) ?_); clear H; intro a w H; replace H := nf_TagOf H; first | (simp only [ren_s8v, ren_shv, Nat.zero_add] at H; replace H := nf_TagOf H) | skip; (try simp only [List.drop_succ_cons, List.drop_zero, List.drop_nil]); try refine wpList_nil ?_) | refine wp_region_lit ?_)
  refine v_cond H (by rfl) (fun hb => ?_) (fun hb => ?_)
  · have hlt : k < ls.length := by simpa using hb
    have hf := flat_take_le ls (k + 1)
    rw [flat_take ls k hlt, List.length_append] at hf
    refine wp_skip ?_
    refine wp_seq ?_
    refine wp_block ?_
    refine wp_seq ?_
    (try refine wp_region_lit ?_); refine v_steps 2 tab_ok hN H (by rfl) (by (try simp only [ren_s8v, ren_shv, Nat.zero_add, s8v, shv, W32, h0]); first | done | exact ct_TagOf) ?_; clear H; intro a w H; replace H := nf_TagOf H; first | (simp only [ren_s8v, ren_shv, Nat.zero_add] at H; replace H := nf_TagOf H) | skip
    rw [bss_get ls k hlt] at H
    repeat (first | refine wp_seq ?_ | refine wp_block ?_ | refine wp_skip ?_ | refine wp_exit ?_ | ((first | refine v_some 5 tab_ok hN H (by rfl) (by (try simp only [ren_s8v, ren_shv, Nat.zero_add, s8v, shv, W32, h0]); first | done | exact ct_TagOf) ?_ | refine v_more tab_ok hN H (by rfl) (by rfl) (by (try simp only [ren_s8v, ren_shv, Nat.zero_add, s8v, shv, W32, h0]); first | done | exact ct_TagOf) ?_); clear H; intro a w H; replace H := nf_TagOf H; first | (simp only [ren_s8v, ren_shv, Nat.zero_add] at H; replace H := nf_TagOf H) | skip; (try simp only [List.drop_succ_cons, List.drop_zero, List.drop_nil]); try refine wpList_nil ?_) | refine wp_region_lit ?_)
    obtain ⟨s3, b3, n3, h3, hw3⟩ := write_g _ ls[k] s2 b2 n2 h2 (by omega) (1 + (ls.take k).flatten.length) (by omega)
    refine v_call [1] [] (hw3) H rfl rfl (by rfl) (by simp [pickB, bxs, ren, idx?, sub_refl, sub, allP, ren_s8v, ren_shv, Nat.zero_add] <;> omega) (by first | rfl | (simp [ren_s8v, ren_shv, Nat.zero_add] <;> omega)) (by first | exact trivial | exact ⟨sub_refl _ _, trivial⟩ | exact ⟨sub_refl _ _, sub_refl _ _, trivial⟩ | exact ⟨sub_refl _ _, sub_refl _ _, sub_refl _ _, trivial⟩ | exact ⟨⟨rfl, sub_refl _ _, trivial⟩, sub_refl _ _, trivial⟩ | (simp [cargs, cargsG, St.ev, St.tmp, find, ren, idx?, sub_refl, sub, allP, resv, resC, bss, ren_s8v, ren_shv, Nat.zero_add] <;> omega)) ?_; clear H; intro a w H; replace H := nf_TagOf H; first | (simp only [ren_s8v, ren_shv, Nat.zero_add] at H; replace H := nf_TagOf H) | skip; try refine wpList_nil ?_
    repeat (first | refine wp_seq ?_ | refine wp_block ?_ | refine wp_skip ?_ | refine wp_exit ?_ | ((first | refine v_some 5 tab_ok hN H (by rfl) (by (try simp only [ren_s8v, ren_shv, Nat.zero_add, s8v, shv, W32, h0]); first | done | exact ct_TagOf) ?_ | refine v_more tab_ok hN H (by rfl) (by rfl) (by (try simp only [ren_s8v, ren_shv, Nat.zero_add, s8v, shv, W32, h0]); first | done | exact ct_TagOf) ?_); clear H; intro a w H; replace H := nf_TagOf H; first | (simp only [ren_s8v, ren_shv, Nat.zero_add] at H; replace H := nf_TagOf H) | skip; (try simp only [List.drop_succ_cons, List.drop_zero, List.drop_nil]); try refine wpList_nil ?_) | refine wp_region_lit ?_)
    refine ⟨(s3, b3, n3, k + 1), ⟨by rw [flat_take ls k hlt]; simpa using h3, hlt⟩, by dsimp only; omega, H.to 2 0 ⟨Nat.le_trans hN (by decide), hR⟩ ⟨rfl, rfl, rfl, rfl, rfl, trivial⟩ (by rw [flat_take ls k hlt, List.length_append]; simp only [List.take_succ_cons, List.take_zero]; rw [Nat.add_assoc]; rfl) rfl rfl rfl rfl⟩
  · have hge : k = ls.length := by simp at hb; omega
    subst hge
    rw [List.take_length] at h2 H
    have hsl := sum_length (t :: ls.flatten)
    have h1l : (t :: ls.flatten).length = 1 + ls.flatten.length := by simp; omega
    have hsum := sumS_v (t :: ls.flatten) s2 b2 n2 h2 (by rw [h1l]; omega)
    rw [h1l] at hsum
    repeat (first | refine wp_seq ?_ | refine wp_block ?_ | refine wp_skip ?_ | refine wp_exit ?_ | ((first | refine v_some 5 tab_ok hN H (by rfl) (by (try simp only [ren_s8v, ren_shv, Nat.zero_add, s8v, shv, W32, h0]); first | done | exact ct_TagOf) ?_ | refine v_more tab_ok hN H (by rfl) (by rfl) (by (try simp only [ren_s8v, ren_shv, Nat.zero_add, s8v, shv, W32, h0]); first | done | exact ct_TagOf) ?_); clear H; intro a w H; replace H := nf_TagOf H; first | (simp only [ren_s8v, ren_shv, Nat.zero_add] at H; replace H := nf_TagOf H) | skip; (try simp only [List.drop_succ_cons, List.drop_zero, List.drop_nil]); try refine wpList_nil ?_) | refine wp_region_lit ?_)
    refine v_call [1] [] (hsum) H rfl rfl (by rfl) (by simp [pickB, bxs, ren, idx?, sub_refl, sub, allP, ren_s8v, ren_shv, Nat.zero_add] <;> omega) (by first | rfl | (simp [ren_s8v, ren_shv, Nat.zero_add] <;> omega)) (by first | exact trivial | exact ⟨sub_refl _ _, trivial⟩ | exact ⟨sub_refl _ _, sub_refl _ _, trivial⟩ | exact ⟨sub_refl _ _, sub_refl _ _, sub_refl _ _, trivial⟩ | exact ⟨⟨rfl, sub_refl _ _, trivial⟩, sub_refl _ _, trivial⟩ | (simp [cargs, cargsG, St.ev, St.tmp, find, ren, idx?, sub_refl, sub, allP, resv, resC, bss, ren_s8v, ren_shv, Nat.zero_add] <;> omega)) ?_; clear H; intro a w H; replace H := nf_TagOf H; first | (simp only [ren_s8v, ren_shv, Nat.zero_add] at H; replace H := nf_TagOf H) | skip; try refine wpList_nil ?_
    repeat (first | refine wp_seq ?_ | refine wp_block ?_ | refine wp_skip ?_ | refine wp_exit ?_ | ((first | refine v_some 5 tab_ok hN H (by rfl) (by (try simp only [ren_s8v, ren_shv, Nat.zero_add, s8v, shv, W32, h0]); first | done | exact ct_TagOf) ?_ | refine v_more tab_ok hN H (by rfl) (by rfl) (by (try simp only [ren_s8v, ren_shv, Nat.zero_add, s8v, shv, W32, h0]); first | done | exact ct_TagOf) ?_); clear H; intro a w H; replace H := nf_TagOf H; first | (simp only [ren_s8v, ren_shv, Nat.zero_add] at H; replace H := nf_TagOf H) | skip; (try simp only [List.drop_succ_cons, List.drop_zero, List.drop_nil]); try refine wpList_nil ?_) | refine wp_region_lit ?_)
    refine wp_ret ?_
    exact v_end [] [] tab_ok ⟨hN, hR⟩ (rs := [.cell 4 30]) (ress := [_]) rfl H (by rfl) (by rfl) (by simp [pickB, bxs, ren, idx?, sub_refl, sub, allP, ren_s8v, ren_shv, Nat.zero_add] <;> omega) (by first | rfl | (simp [ren_s8v, ren_shv, Nat.zero_add] <;> omega)) (by first | exact trivial | exact ⟨sub_refl _ _, trivial⟩ | exact ⟨sub_refl _ _, sub_refl _ _, trivial⟩ | exact ⟨sub_refl _ _, sub_refl _ _, sub_refl _ _, trivial⟩ | exact ⟨⟨rfl, sub_refl _ _, trivial⟩, sub_refl _ _, trivial⟩ | (simp [cargs, cargsG, St.ev, St.tmp, find, ren, idx?, sub_refl, sub, allP, resv, resC, bss, ren_s8v, ren_shv, Nat.zero_add] <;> omega)) rfl
theorem empty_v : VC Try.prog 76 [] [] (.ba (sum [0])) := by
  have hsl := sum_length [0]
  refine v_enter Try.func76 rfl (by kernel_rfl) (by show 0 ≤ 2; decide) ?_
  intro N w0 a w hN hR H
  repeat (first | refine wp_seq ?_ | refine wp_block ?_ | refine wp_skip ?_ | refine wp_exit ?_ | ((first | refine v_some 5 tab_ok hN H (by rfl) (by (try simp only [ren_s8v, ren_shv, Nat.zero_add, s8v, shv, W32, h0]); first | done | exact ct_TagOf) ?_ | refine v_more tab_ok hN H (by rfl) (by rfl) (by (try simp only [ren_s8v, ren_shv, Nat.zero_add, s8v, shv, W32, h0]); first | done | exact ct_TagOf) ?_); clear H; intro a w H; replace H := nf_TagOf H; first | (simp only [ren_s8v, ren_shv, Nat.zero_add] at H; replace H := nf_TagOf H) | skip; (try simp only [List.drop_succ_cons, List.drop_zero, List.drop_nil]); try refine wpList_nil ?_) | refine wp_region_lit ?_)
  refine v_call [] [] (of_v 0 [] (by simp) (by simp)) H rfl rfl (by rfl) (by simp [pickB, bxs, ren, idx?, sub_refl, sub, allP, ren_s8v, ren_shv, Nat.zero_add] <;> omega) (by first | rfl | (simp [ren_s8v, ren_shv, Nat.zero_add] <;> omega)) (by first | exact trivial | exact ⟨sub_refl _ _, trivial⟩ | exact ⟨sub_refl _ _, sub_refl _ _, trivial⟩ | exact ⟨sub_refl _ _, sub_refl _ _, sub_refl _ _, trivial⟩ | exact ⟨⟨rfl, sub_refl _ _, trivial⟩, sub_refl _ _, trivial⟩ | (simp [cargs, cargsG, St.ev, St.tmp, find, ren, idx?, sub_refl, sub, allP, resv, resC, bss, ren_s8v, ren_shv, Nat.zero_add] <;> omega)) ?_; clear H; intro a w H; replace H := nf_TagOf H; first | (simp only [ren_s8v, ren_shv, Nat.zero_add] at H; replace H := nf_TagOf H) | skip; try refine wpList_nil ?_
  repeat (first | refine wp_seq ?_ | refine wp_block ?_ | refine wp_skip ?_ | refine wp_exit ?_ | ((first | refine v_some 5 tab_ok hN H (by rfl) (by (try simp only [ren_s8v, ren_shv, Nat.zero_add, s8v, shv, W32, h0]); first | done | exact ct_TagOf) ?_ | refine v_more tab_ok hN H (by rfl) (by rfl) (by (try simp only [ren_s8v, ren_shv, Nat.zero_add, s8v, shv, W32, h0]); first | done | exact ct_TagOf) ?_); clear H; intro a w H; replace H := nf_TagOf H; first | (simp only [ren_s8v, ren_shv, Nat.zero_add] at H; replace H := nf_TagOf H) | skip; (try simp only [List.drop_succ_cons, List.drop_zero, List.drop_nil]); try refine wpList_nil ?_) | refine wp_region_lit ?_)
  refine wp_ret ?_
  exact v_end [] [] tab_ok ⟨hN, hR⟩ (rs := [.cell 0 30]) (ress := [_]) rfl H (by rfl) (by rfl) (by simp [pickB, bxs, ren, idx?, sub_refl, sub, allP, ren_s8v, ren_shv, Nat.zero_add] <;> omega) (by first | rfl | (simp [ren_s8v, ren_shv, Nat.zero_add] <;> omega)) (by first | exact trivial | exact ⟨sub_refl _ _, trivial⟩ | exact ⟨sub_refl _ _, sub_refl _ _, trivial⟩ | exact ⟨sub_refl _ _, sub_refl _ _, sub_refl _ _, trivial⟩ | exact ⟨⟨rfl, sub_refl _ _, trivial⟩, sub_refl _ _, trivial⟩ | (simp [cargs, cargsG, St.ev, St.tmp, find, ren, idx?, sub_refl, sub, allP, resv, resC, bss, ren_s8v, ren_shv, Nat.zero_add] <;> omega)) rfl
end Go.Proofs.Ytlagngkafllbiaa
/- Nodes: what is read. -/
namespace Go.Proofs.Ytlagngkafllbiaa
open Go Go.RowKit
/-- The state made plain. -/
theorem nf_Node2 {P : Program} {w0 w : World} {N : Gh} {nt : Nat} {st s2 : St} {a : Act} (H : Rel P w0 N nt st a w) (h : st = s2 := by (try simp only [pk, elemB, St.put, St.ev, St.tmp, St.keep, find, dropT, slots, AV.put, AV.loc, fitI, convI, IntKind.signed, IntKind.bits, strip, St.lose, mergeL, setAll, nth, renB, ren, idx?, sub, allP, low, bnd, Int.reduceEq, Nat.reduceAdd, Nat.reduceLT, reduceIte, reduceCtorEq, Nat.reduceEqDiff, Nat.reduceLeDiff, Nat.reduceBEq, Int.reducePow, Int.reduceToNat, ti24_t, ti24_z, ti5_t, ti5_z, ti62_t, ti62_z, ti30_t, ti30_z, ti23_t, ti23_z]); rfl) : Rel P w0 N nt s2 a w := h ▸ H
theorem nt_Node2 {P : Program} {w0 w : World} {N gS : Gh} {nt : Nat} {q q2 st s2 : St} {a : Act} (H : RelT P w0 N nt gS q st a w) (h1 : q = q2 := by (try simp only [pk, elemB, St.put, St.ev, St.tmp, St.keep, find, dropT, slots, AV.put, AV.loc, fitI, convI, IntKind.signed, IntKind.bits, strip, St.lose, mergeL, setAll, nth, renB, ren, idx?, sub, allP, low, bnd, Int.reduceEq, Nat.reduceAdd, Nat.reduceLT, reduceIte, reduceCtorEq, Nat.reduceEqDiff, Nat.reduceLeDiff, Nat.reduceBEq, Int.reducePow, Int.reduceToNat, ti24_t, ti24_z, ti5_t, ti5_z, ti62_t, ti62_z, ti30_t, ti30_z, ti23_t, ti23_z]); rfl) (h : st = s2 := by (try simp only [pk, elemB, St.put, St.ev, St.tmp, St.keep, find, dropT, slots, AV.put, AV.loc, fitI, convI, IntKind.signed, IntKind.bits, strip, St.lose, mergeL, setAll, nth, renB, ren, idx?, sub, allP, low, bnd, Int.reduceEq, Nat.reduceAdd, Nat.reduceLT, reduceIte, reduceCtorEq, Nat.reduceEqDiff, Nat.reduceLeDiff, Nat.reduceBEq, Int.reducePow, Int.reduceToNat, ti24_t, ti24_z, ti5_t, ti5_z, ti62_t, ti62_z, ti30_t, ti30_z, ti23_t, ti23_z]); rfl) : RelT P w0 N nt gS q2 s2 a w := h1 ▸ h ▸ H
theorem ct_Node2 {c : Prop} (h : c := by ((try simp only [pk, elemB, St.put, St.ev, St.tmp, St.keep, find, dropT, slots, AV.put, AV.loc, fitI, convI, IntKind.signed, IntKind.bits, strip, St.lose, mergeL, setAll, nth, renB, ren, idx?, sub, allP, low, bnd, Int.reduceEq, Nat.reduceAdd, Nat.reduceLT, reduceIte, reduceCtorEq, Nat.reduceEqDiff, Nat.reduceLeDiff, Nat.reduceBEq, Int.reducePow, Int.reduceToNat, ti24_t, ti24_z, ti5_t, ti5_z, ti62_t, ti62_z, ti30_t, ti30_z, ti23_t, ti23_z, ti24, ti5, ti62, ti30, ti23, fit, gcond, ilo, ihi]); first | done | exact cd | exact cd2 | skip)) : c := h
def Nd.one (a b : List UInt8) : Nd := ⟨1, a, b, z32, z32⟩
def Nd.two (a b : List UInt8) : Nd := ⟨2, z32, z32, a, b⟩
theorem decode_zero : VC Try.prog 78 [.bs [0] none] [] (.tup [Nd.zero.av, errv 0]) := by
  refine v_enter Try.func78 rfl (by kernel_rfl) (by show 1 ≤ 54; decide) ?_
  intro N w0 a w hN hR H
  repeat (first | refine wp_seq ?_ | refine wp_block ?_ | refine wp_skip ?_ | refine wp_exit ?_ | ((first | refine v_some 5 tab_ok hN H (by rfl) ct_Node2 ?_ | refine v_more tab_ok hN H (by rfl) (by rfl) ct_Node2 ?_); clear H; intro a w H; replace H := nf_Node2 H; (try simp only [List.drop_succ_cons, List.drop_zero, List.drop_nil]); try refine wpList_nil ?_) | refine wp_region_lit ?_)
  refine v_cond H (by rfl) (fun hb => ?_) (fun hb => ?_)
  · repeat (first | refine wp_seq ?_ | refine wp_block ?_ | refine wp_skip ?_ | refine wp_exit ?_ | ((first | refine v_some 5 tab_ok hN H (by rfl) ct_Node2 ?_ | refine v_more tab_ok hN H (by rfl) (by rfl) ct_Node2 ?_); clear H; intro a w H; replace H := nf_Node2 H; (try simp only [List.drop_succ_cons, List.drop_zero, List.drop_nil]); try refine wpList_nil ?_) | refine wp_region_lit ?_)
    refine wp_ret ?_
    exact v_end [] [] tab_ok ⟨hN, hR⟩ (rs := [.cell 2 62, .tmp 3]) (ress := [_, _]) rfl H (by rfl) (by rfl) cb cw ca rfl
  · simp at hb
theorem decode_one (m : List UInt8) (hm : m.length = 64) : VC Try.prog 78 [.bs (1 :: m) none] [] (.tup [(Nd.one (m.take 32) (m.drop 32)).av, errv 0]) := by
  have e1 : (m.drop 32).take 32 = m.drop 32 := List.take_of_length_le (by simp; omega)
  refine v_enter Try.func78 rfl (by kernel_rfl) (by show 1 ≤ 54; decide) ?_
  intro N w0 a w hN hR H
  repeat (first | refine wp_seq ?_ | refine wp_block ?_ | refine wp_skip ?_ | refine wp_exit ?_ | ((first | refine v_some 5 tab_ok hN H (by rfl) ct_Node2 ?_ | refine v_more tab_ok hN H (by rfl) (by rfl) ct_Node2 ?_); clear H; intro a w H; replace H := nf_Node2 H; (try simp only [List.drop_succ_cons, List.drop_zero, List.drop_nil]); try refine wpList_nil ?_) | refine wp_region_lit ?_)
  refine v_cond H (by rfl) (fun hb => ?_) (fun hb => ?_)
  · simp [hm] at hb
  · repeat (first | refine wp_seq ?_ | refine wp_block ?_ | refine wp_skip ?_ | refine wp_exit ?_ | ((first | refine v_some 5 tab_ok hN H (by rfl) ct_Node2 ?_ | refine v_more tab_ok hN H (by rfl) (by rfl) ct_Node2 ?_); clear H; intro a w H; replace H := nf_Node2 H; (try simp only [List.drop_succ_cons, List.drop_zero, List.drop_nil]); try refine wpList_nil ?_) | refine wp_region_lit ?_)
    refine v_cond H (by rfl) (fun hb => ?_) (fun hb => ?_)
    · replace H := H.keep [0, 2, 3] 1 0 ⟨Nat.le_trans hN (by show _ ≤ 1; decide), Nat.le_trans hR (by show _ ≤ 0; decide)⟩ (by rfl) (by rfl)
      replace H := nf_Node2 H; first | (simp only [List.take_take, Nat.min_self, e1] at H; replace H := nf_Node2 H) | skip
      repeat (first | refine wp_seq ?_ | refine wp_block ?_)
      refine v_draw 0 [9] [] (by kernel_rfl) (by kernel_rfl) H (by rfl) (fun gS H => ?_); try replace H := nt_Node2 H; first | (simp only [List.take_take, Nat.min_self, e1] at H; replace H := nt_Node2 H) | skip
      refine v_moreT tab_ok hN H (by rfl) (by (try simp only [List.take_take, Nat.min_self, e1]); first | done | exact ct_Node2) ?_; clear H; intro a w H; try replace H := nt_Node2 H; first | (simp only [List.take_take, Nat.min_self, e1] at H; replace H := nt_Node2 H) | skip
      refine v_drawNil H (fun H => ?_)
      repeat (first | refine wp_seq ?_ | refine wp_block ?_ | refine wp_skip ?_ | refine wp_exit ?_ | ((first | refine v_some 5 tab_ok hN H (by rfl) (by (try simp only [List.take_take, Nat.min_self, e1]); first | done | exact ct_Node2) ?_ | refine v_more tab_ok hN H (by rfl) (by rfl) (by (try simp only [List.take_take, Nat.min_self, e1]); first | done | exact ct_Node2) ?_); clear H; intro a w H; replace H := nf_Node2 H; first | (simp only [List.take_take, Nat.min_self, e1] at H; replace H := nf_Node2 H) | skip; (try simp only [List.drop_succ_cons, List.drop_zero, List.drop_nil]); try refine wpList_nil ?_) | refine wp_region_lit ?_)
      refine wp_ret ?_
      exact v_end [] [] tab_ok ⟨hN, hR⟩ (rs := [.cell 2 62, .tmp 3]) (ress := [_, _]) rfl H (by rfl) (by rfl) (by simp [pickB, bxs, ren, idx?, sub_refl, sub, allP, List.take_take, Nat.min_self, e1] <;> omega) (by first | rfl | (simp [List.take_take, Nat.min_self, e1] <;> omega)) (by first | exact trivial | exact ⟨sub_refl _ _, trivial⟩ | exact ⟨sub_refl _ _, sub_refl _ _, trivial⟩ | exact ⟨sub_refl _ _, sub_refl _ _, sub_refl _ _, trivial⟩ | exact ⟨⟨rfl, sub_refl _ _, trivial⟩, sub_refl _ _, trivial⟩ | (simp [cargs, cargsG, St.ev, St.tmp, find, ren, idx?, sub_refl, sub, allP, resv, resC, bss, List.take_take, Nat.min_self, e1] <;> omega)) rfl
    · simp [hm] at hb
theorem decode_two (m : List UInt8) (hm : m.length = 64) : VC Try.prog 78 [.bs (2 :: m) none] [] (.tup [(Nd.two (m.take 32) (m.drop 32)).av, errv 0]) := by
  have e1 : (m.drop 32).take 32 = m.drop 32 := List.take_of_length_le (by simp; omega)
  refine v_enter Try.func78 rfl (by kernel_rfl) (by show 1 ≤ 54; decide) ?_
  intro N w0 a w hN hR H
  repeat (first | refine wp_seq ?_ | refine wp_block ?_ | refine wp_skip ?_ | refine wp_exit ?_ | ((first | refine v_some 5 tab_ok hN H (by rfl) ct_Node2 ?_ | refine v_more tab_ok hN H (by rfl) (by rfl) ct_Node2 ?_); clear H; intro a w H; replace H := nf_Node2 H; (try simp only [List.drop_succ_cons, List.drop_zero, List.drop_nil]); try refine wpList_nil ?_) | refine wp_region_lit ?_)
  refine v_cond H (by rfl) (fun hb => ?_) (fun hb => ?_)
  · simp [hm] at hb
  · repeat (first | refine wp_seq ?_ | refine wp_block ?_ | refine wp_skip ?_ | refine wp_exit ?_ | ((first | refine v_some 5 tab_ok hN H (by rfl) ct_Node2 ?_ | refine v_more tab_ok hN H (by rfl) (by rfl) ct_Node2 ?_); clear H; intro a w H; replace H := nf_Node2 H; (try simp only [List.drop_succ_cons, List.drop_zero, List.drop_nil]); try refine wpList_nil ?_) | refine wp_region_lit ?_)
    refine v_cond H (by rfl) (fun hb => ?_) (fun hb => ?_)
    · simp at hb
    · repeat (first | refine wp_seq ?_ | refine wp_block ?_ | refine wp_skip ?_ | refine wp_exit ?_ | ((first | refine v_some 5 tab_ok hN H (by rfl) ct_Node2 ?_ | refine v_more tab_ok hN H (by rfl) (by rfl) ct_Node2 ?_); clear H; intro a w H; replace H := nf_Node2 H; (try simp only [List.drop_succ_cons, List.drop_zero, List.drop_nil]); try refine wpList_nil ?_) | refine wp_region_lit ?_)
      refine v_cond H (by rfl) (fun hb => ?_) (fun hb => ?_)
      · replace H := H.keep [0, 2, 3] 1 0 ⟨Nat.le_trans hN (by show _ ≤ 1; decide), Nat.le_trans hR (by show _ ≤ 0; decide)⟩ (by rfl) (by rfl)
        replace H := nf_Node2 H; first | (simp only [List.take_take, Nat.min_self, e1] at H; replace H := nf_Node2 H) | skip
        repeat (first | refine wp_seq ?_ | refine wp_block ?_)
        refine v_draw 0 [9] [] (by kernel_rfl) (by kernel_rfl) H (by rfl) (fun gS H => ?_); try replace H := nt_Node2 H; first | (simp only [List.take_take, Nat.min_self, e1] at H; replace H := nt_Node2 H) | skip
        refine v_moreT tab_ok hN H (by rfl) (by (try simp only [List.take_take, Nat.min_self, e1]); first | done | exact ct_Node2) ?_; clear H; intro a w H; try replace H := nt_Node2 H; first | (simp only [List.take_take, Nat.min_self, e1] at H; replace H := nt_Node2 H) | skip
        refine v_drawNil H (fun H => ?_)
        repeat (first | refine wp_seq ?_ | refine wp_block ?_ | refine wp_skip ?_ | refine wp_exit ?_ | ((first | refine v_some 5 tab_ok hN H (by rfl) (by (try simp only [List.take_take, Nat.min_self, e1]); first | done | exact ct_Node2) ?_ | refine v_more tab_ok hN H (by rfl) (by rfl) (by (try simp only [List.take_take, Nat.min_self, e1]); first | done | exact ct_Node2) ?_); clear H; intro a w H; replace H := nf_Node2 H; first | (simp only [List.take_take, Nat.min_self, e1] at H; replace H := nf_Node2 H) | skip; (try simp only [List.drop_succ_cons, List.drop_zero, List.drop_nil]); try refine wpList_nil ?_) | refine wp_region_lit ?_)
        refine wp_ret ?_
        exact v_end [] [] tab_ok ⟨hN, hR⟩ (rs := [.cell 2 62, .tmp 3]) (ress := [_, _]) rfl H (by rfl) (by rfl) (by simp [pickB, bxs, ren, idx?, sub_refl, sub, allP, List.take_take, Nat.min_self, e1] <;> omega) (by first | rfl | (simp [List.take_take, Nat.min_self, e1] <;> omega)) (by first | exact trivial | exact ⟨sub_refl _ _, trivial⟩ | exact ⟨sub_refl _ _, sub_refl _ _, trivial⟩ | exact ⟨sub_refl _ _, sub_refl _ _, sub_refl _ _, trivial⟩ | exact ⟨⟨rfl, sub_refl _ _, trivial⟩, sub_refl _ _, trivial⟩ | (simp [cargs, cargsG, St.ev, St.tmp, find, ren, idx?, sub_refl, sub, allP, resv, resC, bss, List.take_take, Nat.min_self, e1] <;> omega)) rfl
      · simp [hm] at hb
theorem decode_bad (l : List UInt8) (h0 : l ≠ [0]) (h1 : ¬ (l.length = 65 ∧ (l.getD 0 0 = 1 ∨ l.getD 0 0 = 2))) : VC Try.prog 78 [.bs l none] [] (.tup [Nd.zero.av, errv 10]) := by
  have hx : ∀ k : Nat, k < 256 → ((((l.getD 0 0).toNat : Nat) : Int) = (k : Int) → l.getD 0 0 = UInt8.ofNat k) := fun k hk h => UInt8.toNat_inj.1 (by rw [UInt8.toNat_ofNat']; omega)
  refine v_enter Try.func78 rfl (by kernel_rfl) (by show 1 ≤ 54; decide) ?_
  intro N w0 a w hN hR H
  repeat (first | refine wp_seq ?_ | refine wp_block ?_ | refine wp_skip ?_ | refine wp_exit ?_ | ((first | refine v_some 5 tab_ok hN H (by rfl) ct_Node2 ?_ | refine v_more tab_ok hN H (by rfl) (by rfl) ct_Node2 ?_); clear H; intro a w H; replace H := nf_Node2 H; (try simp only [List.drop_succ_cons, List.drop_zero, List.drop_nil]); try refine wpList_nil ?_) | refine wp_region_lit ?_)
  refine v_cond H (by rfl) (fun hb => ?_) (fun hb => ?_)
  · exfalso; apply h0
    rcases l with _ | ⟨c, _ | ⟨d, l⟩⟩
    · simp at hb
    · have := hx 0 (by decide); simp at hb this; simp [this hb]
    · simp at hb; omega
  · repeat (first | refine wp_seq ?_ | refine wp_block ?_ | refine wp_skip ?_ | refine wp_exit ?_ | ((first | refine v_some 5 tab_ok hN H (by rfl) ct_Node2 ?_ | refine v_more tab_ok hN H (by rfl) (by rfl) ct_Node2 ?_); clear H; intro a w H; replace H := nf_Node2 H; (try simp only [List.drop_succ_cons, List.drop_zero, List.drop_nil]); try refine wpList_nil ?_) | refine wp_region_lit ?_)
    refine v_cond H (by rfl) (fun hb => ?_) (fun hb => ?_)
    · exfalso; apply h1
      have h2 := hx 1 (by decide)
      simp at hb h2
      exact ⟨by omega, .inl (by simpa using h2 hb.2)⟩
    · repeat (first | refine wp_seq ?_ | refine wp_block ?_ | refine wp_skip ?_ | refine wp_exit ?_ | ((first | refine v_some 5 tab_ok hN H (by rfl) ct_Node2 ?_ | refine v_more tab_ok hN H (by rfl) (by rfl) ct_Node2 ?_); clear H; intro a w H; replace H := nf_Node2 H; (try simp only [List.drop_succ_cons, List.drop_zero, List.drop_nil]); try refine wpList_nil ?_) | refine wp_region_lit ?_)
      refine v_cond H (by rfl) (fun hb => ?_) (fun hb => ?_)
      · exfalso; apply h1
        have h2 := hx 2 (by decide)
        simp at hb h2
        exact ⟨by omega, .inr (by simpa using h2 hb.2)⟩
      · repeat (first | refine wp_seq ?_ | refine wp_block ?_ | refine wp_skip ?_ | refine wp_exit ?_ | ((first | refine v_some 5 tab_ok hN H (by rfl) ct_Node2 ?_ | refine v_more tab_ok hN H (by rfl) (by rfl) ct_Node2 ?_); clear H; intro a w H; replace H := nf_Node2 H; (try simp only [List.drop_succ_cons, List.drop_zero, List.drop_nil]); try refine wpList_nil ?_) | refine wp_region_lit ?_)
        refine wp_ret ?_
        exact v_end [] [] tab_ok ⟨hN, hR⟩ (rs := [.cell 2 62, .tmp 3]) (ress := [_, _]) rfl H (by rfl) (by rfl) cb cw ca rfl
def decOk (l : List UInt8) : Prop := l = [0] ∨ (l.length = 65 ∧ (l.getD 0 0 = 1 ∨ l.getD 0 0 = 2))
instance (l : List UInt8) : Decidable (decOk l) := inferInstanceAs (Decidable (_ ∨ _))
def dec (l : List UInt8) : Nd := if l.length = 65 ∧ l.getD 0 0 = 1 then .one ((l.drop 1).take 32) (l.drop 33) else if l.length = 65 ∧ l.getD 0 0 = 2 then .two ((l.drop 1).take 32) (l.drop 33) else .zero
theorem z32_len : z32.length = 32 := by simp [z32]
theorem dec_one (m : List UInt8) (hm : m.length = 64) : dec (1 :: m) = .one (m.take 32) (m.drop 32) := by simp [dec, hm]
theorem dec_two (m : List UInt8) (hm : m.length = 64) : dec (2 :: m) = .two (m.take 32) (m.drop 32) := by simp [dec, hm]
theorem dec_zero : dec [0] = .zero := by simp [dec]
theorem decOk_cases {l : List UInt8} (h : decOk l) : l = [0] ∨ (∃ m, m.length = 64 ∧ l = 1 :: m) ∨ ∃ m, m.length = 64 ∧ l = 2 :: m := by
  rcases h with h | ⟨h1, h2⟩
  · exact .inl h
  · right
    cases l with
    | nil => simp at h1
    | cons c m =>
      simp at h1 h2
      rcases h2 with rfl | rfl
      · exact .inl ⟨m, h1, rfl⟩
      · exact .inr ⟨m, h1, rfl⟩
theorem dec_bad {l : List UInt8} (h : ¬ decOk l) : dec l = .zero := by
  unfold decOk at h; unfold dec
  rw [if_neg (fun e => h (.inr ⟨e.1, .inl e.2⟩)), if_neg (fun e => h (.inr ⟨e.1, .inr e.2⟩))]
theorem decode_v (l : List UInt8) : VC Try.prog 78 [.bs l none] [] (.tup [(dec l).av, errv (if decOk l then 0 else 10)]) := by
  by_cases h : decOk l
  · rw [if_pos h]
    rcases decOk_cases h with rfl | ⟨m, hm, rfl⟩ | ⟨m, hm, rfl⟩
    · rw [dec_zero]; exact decode_zero
    · rw [dec_one m hm]; exact decode_one m hm
    · rw [dec_two m hm]; exact decode_two m hm
  · rw [if_neg h, dec_bad h]
    exact decode_bad l (fun e => h (.inl e)) (fun e => h (.inr e))
theorem zero_wf : Nd.zero.wf := ⟨z32_len, z32_len, z32_len, z32_len⟩
theorem zero_text : Nd.zero.text = [0] := by simp [Nd.text, Nd.zero]
theorem dec_wf (l : List UInt8) : (dec l).wf := by
  by_cases h : decOk l
  · rcases decOk_cases h with rfl | ⟨m, hm, rfl⟩ | ⟨m, hm, rfl⟩
    · rw [dec_zero]; exact zero_wf
    · rw [dec_one m hm]; exact ⟨by simp [Nd.one]; omega, by simp [Nd.one]; omega, z32_len, z32_len⟩
    · rw [dec_two m hm]; exact ⟨z32_len, z32_len, by simp [Nd.two]; omega, by simp [Nd.two]; omega⟩
  · rw [dec_bad h]; exact zero_wf
theorem Nd.ok_cases {n : Nd} (h : n.ok) : n = .zero ∨ (∃ a b, n = .one a b) ∨ ∃ a b, n = .two a b := by
  unfold Nd.ok Nd.bare at h
  split at h
  · exact .inr (.inl ⟨_, _, h⟩)
  · split at h
    · exact .inr (.inr ⟨_, _, h⟩)
    · exact .inl h
theorem text_dec {n : Nd} (hw : n.wf) (h : n.ok) : decOk n.text ∧ dec n.text = n := by
  rcases n.ok_cases h with rfl | ⟨p, q, rfl⟩ | ⟨p, q, rfl⟩
  · rw [zero_text]; exact ⟨.inl rfl, dec_zero⟩
  · have h1 : p.length = 32 := hw.key
    have h2 : q.length = 32 := hw.v
    rw [show (Nd.one p q).text = 1 :: (p ++ q) by simp [Nd.text, Nd.one]]
    refine ⟨.inr ⟨by simp; omega, .inl rfl⟩, ?_⟩
    rw [dec_one _ (by simp; omega), ← h1, List.take_left, List.drop_left]
  · have h1 : p.length = 32 := hw.l
    have h2 : q.length = 32 := hw.r
    rw [show (Nd.two p q).text = 2 :: (p ++ q) by simp [Nd.text, Nd.two]]
    refine ⟨.inr ⟨by simp; omega, .inr rfl⟩, ?_⟩
    rw [dec_two _ (by simp; omega), ← h1, List.take_left, List.drop_left]
theorem text_len {n : Nd} (hw : n.wf) : n.text.length ≤ 65 := by
  obtain ⟨h1, h2, h3, h4⟩ := hw
  unfold Nd.text
  split
  · simp; omega
  · split
    · simp; omega
    · simp
end Go.Proofs.Ytlagngkafllbiaa
/- What the statements share: bytes that are lent, and kept. -/
namespace Go.Proofs.Ytlagngkafllbiaa
open Go Go.RowKit
/-- The state made plain. -/
theorem nf_Lent {P : Program} {w0 w : World} {N : Gh} {nt : Nat} {st s2 : St} {a : Act} (H : Rel P w0 N nt st a w) (h : st = s2 := by (try simp only [pk, elemB, St.put, St.ev, St.tmp, St.keep, find, dropT, slots, AV.put, AV.loc, fitI, convI, IntKind.signed, IntKind.bits, strip, St.lose, mergeL, setAll, nth, renB, ren, idx?, sub, allP, low, bnd, Int.reduceEq, Nat.reduceAdd, Nat.reduceLT, reduceIte, reduceCtorEq, Nat.reduceEqDiff, Nat.reduceLeDiff, Nat.reduceBEq, Int.reducePow, Int.reduceToNat, ti24_t, ti24_z, ti5_t, ti5_z]); rfl) : Rel P w0 N nt s2 a w := h ▸ H
theorem ct_Lent {c : Prop} (h : c := by ((try simp only [pk, elemB, St.put, St.ev, St.tmp, St.keep, find, dropT, slots, AV.put, AV.loc, fitI, convI, IntKind.signed, IntKind.bits, strip, St.lose, mergeL, setAll, nth, renB, ren, idx?, sub, allP, low, bnd, Int.reduceEq, Nat.reduceAdd, Nat.reduceLT, reduceIte, reduceCtorEq, Nat.reduceEqDiff, Nat.reduceLeDiff, Nat.reduceBEq, Int.reducePow, Int.reduceToNat, ti24_t, ti24_z, ti5_t, ti5_z, ti24, ti5, fit, gcond, ilo, ihi]); first | done | exact cd | exact cd2 | skip)) : c := h
/-- The marks in the spare room. -/
def marks (n : Nat) : Nat → List UInt8
  | 0 => []
  | k + 1 => marks n k ++ [UInt8.ofNat (200 + (n + k) % 50)]
theorem marks_len (n k : Nat) : (marks n k).length = k := by
  induction k with
  | zero => rfl
  | succ k ih => simp [marks, ih]
theorem set_end (pre : List UInt8) (m : Nat) (z x : UInt8) (hm : 0 < m) : (pre ++ List.replicate m z).set pre.length x = pre ++ [x] ++ List.replicate (m - 1) z := by
  obtain ⟨m, rfl⟩ : ∃ k, m = k + 1 := ⟨m - 1, by omega⟩
  rw [List.set_append_right _ _ (Nat.le_refl _), Nat.sub_self, List.replicate_succ]
  simp
def lentOf (l : List UInt8) : List UInt8 := l ++ marks l.length 5
theorem lent_len (l : List UInt8) : (lentOf l).length = l.length + 5 := by simp [lentOf, marks_len]
theorem lent_v (l : List UInt8) (hl : l.length ≤ 34359738000) : VX Try.prog 13 [] [] [] [.bs l none] [(.ba (l.length + 5), .ba (lentOf l))] [0] [] (.bc (lentOf l) l.length (some 0)) := by
  have hml := fun k => marks_len l.length k
  refine v_enter Try.func13 rfl (by kernel_rfl) (by show 1 ≤ 31; decide) ?_
  intro N w0 a w hN hR H
  have h5 : ((l.length : Int) + 5).toNat = l.length + 5 := by omega
  have ht : List.take (l.length + 5) l = l := List.take_of_length_le (by omega)
  have hd : List.drop l.length (List.replicate (l.length + 5) (0 : UInt8)) = List.replicate 5 0 := by rw [List.drop_replicate]; congr 1; omega
  repeat (first | refine wp_seq ?_ | refine wp_block ?_ | refine wp_skip ?_ | refine wp_exit ?_ | ((first | refine v_some 5 tab_ok hN H (by rfl) (by (try simp only [h5, ht, hd]); first | done | exact ct_Lent) ?_ | refine v_more tab_ok hN H (by rfl) (by rfl) (by (try simp only [h5, ht, hd]); first | done | exact ct_Lent) ?_); clear H; intro a w H; replace H := nf_Lent H; first | (simp only [h5, ht, hd] at H; replace H := nf_Lent H) | skip; (try simp only [List.drop_succ_cons, List.drop_zero, List.drop_nil]); try refine wpList_nil ?_) | refine wp_region_lit ?_)
  refine v_loop (fun k : Nat => ⟨[(0, none, .bs l none), (3, none, .win 0 [] 0 (l.length + 5)), (4, none, .v (.int .i64 ((l.length + k : Nat) : Int)))], [(.ba (l.length + 5), .ba (l ++ marks l.length k ++ List.replicate (5 - k) 0))], [], []⟩) (fun k => k ≤ 5) (fun k => 5 - k) 0 (by decide) (H.to 1 0 ⟨Nat.le_trans hN (by decide), hR⟩ ⟨rfl, rfl, rfl, trivial⟩ (by simp [marks]) rfl rfl rfl rfl) ?_
  clear H
  intro k a w hk H
  repeat (first | refine wp_seq ?_ | refine wp_block ?_ | refine wp_skip ?_ | refine wp_exit ?_ | ((first | refine v_some 5 tab_ok hN H (by rfl) ct_Lent ?_ | refine v_more tab_ok hN H (by rfl) (by rfl) ct_Lent ?_); clear H; intro a w H; replace H := nf_Lent H; (try simp only [List.drop_succ_cons, List.drop_zero, List.drop_nil]); try refine wpList_nil ?_) | refine wp_region_lit ?_)
  refine v_cond H (by rfl) (fun hb => ?_) (fun hb => ?_)
  · have hlt : k < 5 := by simp at hb; omega
    have hpl : (l ++ marks l.length k).length = l.length + k := by rw [List.length_append, hml]
    have hs := set_end (l ++ marks l.length k) (5 - k) 0 (UInt8.ofNat (200 + (l.length + k) % 50)) (by omega)
    rw [hpl] at hs
    have hx : UInt8.ofNat ((200 + ((l.length + k : Nat) : Int) % 50) % 256).toNat = UInt8.ofNat (200 + (l.length + k) % 50) := by congr 1; omega
    repeat (first | refine wp_seq ?_ | refine wp_block ?_ | refine wp_skip ?_ | refine wp_exit ?_ | ((first | refine v_some 5 tab_ok hN H (by rfl) ct_Lent ?_ | refine v_more tab_ok hN H (by rfl) (by rfl) ct_Lent ?_); clear H; intro a w H; replace H := nf_Lent H; (try simp only [List.drop_succ_cons, List.drop_zero, List.drop_nil]); try refine wpList_nil ?_) | refine wp_region_lit ?_)
    rw [hx, hs] at H
    exact ⟨k + 1, by omega, by omega, H.to 1 0 ⟨Nat.le_trans hN (by decide), hR⟩ ⟨rfl, rfl, by simp only [find]; rfl, trivial⟩ (by simp only [List.take_succ_cons, List.take_zero, marks, List.append_assoc, Nat.sub_sub]) rfl rfl rfl rfl⟩
  · have : k = 5 := by simp at hb; omega
    subst this
    rw [Nat.sub_self, List.replicate_zero, List.append_nil] at H
    repeat (first | refine wp_seq ?_ | refine wp_block ?_ | refine wp_skip ?_ | refine wp_exit ?_ | ((first | refine v_some 5 tab_ok hN H (by rfl) ct_Lent ?_ | refine v_more tab_ok hN H (by rfl) (by rfl) ct_Lent ?_); clear H; intro a w H; replace H := nf_Lent H; (try simp only [List.drop_succ_cons, List.drop_zero, List.drop_nil]); try refine wpList_nil ?_) | refine wp_region_lit ?_)
    have H := v_bc H 2 0 hN rfl (by omega) rfl
    simp only [nilT, reduceIte, Nat.reduceEqDiff] at H
    refine wp_ret ?_
    exact v_end [0] [] tab_ok ⟨hN, hR⟩ (rs := [.tmp 2]) (ress := [_]) rfl H (by rfl) (by rfl) (by simp [pickB, bxs, ren, idx?, sub_refl, sub, allP, lentOf] <;> omega) (by first | rfl | (simp [lentOf] <;> omega)) (by first | exact trivial | exact ⟨sub_refl _ _, trivial⟩ | exact ⟨sub_refl _ _, sub_refl _ _, trivial⟩ | exact ⟨sub_refl _ _, sub_refl _ _, sub_refl _ _, trivial⟩ | exact ⟨⟨rfl, sub_refl _ _, trivial⟩, sub_refl _ _, trivial⟩ | (simp [cargs, cargsG, St.ev, St.tmp, find, ren, idx?, sub_refl, sub, allP, resv, resC, bss, lentOf] <;> omega)) rfl
end Go.Proofs.Ytlagngkafllbiaa
