/- Nodes: what is read. -/
import Derived.Test.YtlagngkafllbiaaNode
set_option linter.unusedSimpArgs false
set_option linter.unusedVariables false
namespace Go.Proofs.Ytlagngkafllbiaa
open Go Go.RowKit
/-- The state made plain. -/
theorem nf_Node2 {P : Program} {w0 w : World} {N : Gh} {nt : Nat} {st s2 : St} {a : Act} (H : Rel P w0 N nt st a w) (h : st = s2 := by (try simp only [pk, elemB, St.put, St.ev, St.tmp, St.keep, find, dropT, slots, AV.put, AV.loc, fitI, convI, IntKind.signed, IntKind.bits, strip, St.lose, mergeL, setAll, nth, renB, ren, idx?, sub, allP, low, bnd, Int.reduceEq, Nat.reduceAdd, Nat.reduceLT, reduceIte, reduceCtorEq, Nat.reduceEqDiff, Nat.reduceLeDiff, Nat.reduceBEq, Int.reducePow, Int.reduceToNat, ti24_t, ti24_z, ti5_t, ti5_z, ti62_t, ti62_z, ti30_t, ti30_z, ti23_t, ti23_z]); rfl) : Rel P w0 N nt s2 a w := h ▸ H
theorem nt_Node2 {P : Program} {w0 w : World} {N gS : Gh} {nt : Nat} {q q2 st s2 : St} {a : Act} (H : RelT P w0 N nt gS q st a w) (h1 : q = q2 := by (try simp only [pk, elemB, St.put, St.ev, St.tmp, St.keep, find, dropT, slots, AV.put, AV.loc, fitI, convI, IntKind.signed, IntKind.bits, strip, St.lose, mergeL, setAll, nth, renB, ren, idx?, sub, allP, low, bnd, Int.reduceEq, Nat.reduceAdd, Nat.reduceLT, reduceIte, reduceCtorEq, Nat.reduceEqDiff, Nat.reduceLeDiff, Nat.reduceBEq, Int.reducePow, Int.reduceToNat, ti24_t, ti24_z, ti5_t, ti5_z, ti62_t, ti62_z, ti30_t, ti30_z, ti23_t, ti23_z]); rfl) (h : st = s2 := by (try simp only [pk, elemB, St.put, St.ev, St.tmp, St.keep, find, dropT, slots, AV.put, AV.loc, fitI, convI, IntKind.signed, IntKind.bits, strip, St.lose, mergeL, setAll, nth, renB, ren, idx?, sub, allP, low, bnd, Int.reduceEq, Nat.reduceAdd, Nat.reduceLT, reduceIte, reduceCtorEq, Nat.reduceEqDiff, Nat.reduceLeDiff, Nat.reduceBEq, Int.reducePow, Int.reduceToNat, ti24_t, ti24_z, ti5_t, ti5_z, ti62_t, ti62_z, ti30_t, ti30_z, ti23_t, ti23_z]); rfl) : RelT P w0 N nt gS q2 s2 a w := h1 ▸ h ▸ H
theorem ct_Node2 {c : Prop} (h : c := by ((try simp only [pk, elemB, St.put, St.ev, St.tmp, St.keep, find, dropT, slots, AV.put, AV.loc, fitI, convI, IntKind.signed, IntKind.bits, strip, St.lose, mergeL, setAll, nth, renB, ren, idx?, sub, allP, low, bnd, Int.reduceEq, Nat.reduceAdd, Nat.reduceLT, reduceIte, reduceCtorEq, Nat.reduceEqDiff, Nat.reduceLeDiff, Nat.reduceBEq, Int.reducePow, Int.reduceToNat, ti24_t, ti24_z, ti5_t, ti5_z, ti62_t, ti62_z, ti30_t, ti30_z, ti23_t, ti23_z, ti24, ti5, ti62, ti30, ti23, fit, gcond, ilo, ihi]); first | done | exact cd | exact cd2 | skip)) : c := h
def Nd.one (a b : List UInt8) : Nd := ⟨1, a, b, z32, z32⟩
def Nd.two (a b : List UInt8) : Nd := ⟨2, z32, z32, a, b⟩
theorem decode_zero : VC Try.prog 78 [.bs [0] none] [] (.tup [Nd.zero.av, errv 0]) := by
  refine v_enter Try.func78 rfl (by kernel_rfl) (by show 1 ≤ 54; decide) ?_
  intro N w0 a w hN hR H
  repeat (first | refine wp_seq ?_ | refine wp_block ?_ | refine wp_skip ?_ | refine wp_exit ?_ | ((first | refine v_some 5 tab_ok hN H (by rfl) ct_Node2 ?_ | refine v_more tab_ok hN H (by rfl) (by rfl) ct_Node2 ?_); clear H; intro a w H; replace H := nf_Node2 H; (try simp only [List.drop_succ_cons, List.drop_zero, List.drop_nil]); try refine wpList_nil ?_) | refine wp_region_lit ?_)
  refine v_cond H (by rfl) (fun hb => ?_) (fun hb => ?_)
  · repeat (first | refine wp_seq ?_ | refine wp_block ?_ | refine wp_skip ?_ | refine wp_exit ?_ | ((first | refine v_some 5 tab_ok hN H (by rfl) ct_Node2 ?_ | refine v_more tab_ok hN H (by rfl) (by rfl) ct_Node2 ?_); clear H; intro a w H; replace H := nf_Node2 H; (try simp only [List.drop_succ_cons, List.drop_zero, List.drop_nil]); try refine wpList_nil ?_) | refine wp_region_lit ?_)
    refine wp_ret ?_
    exact v_end [] [] tab_ok ⟨hN, hR⟩ (rs := [.cell 2 62, .tmp 3]) (ress := [_, _]) rfl H (by rfl) (by rfl) cb cw ca rfl
  · simp at hb
theorem decode_one (m : List UInt8) (hm : m.length = 64) : VC Try.prog 78 [.bs (1 :: m) none] [] (.tup [(Nd.one (m.take 32) (m.drop 32)).av, errv 0]) := by
  have e1 : (m.drop 32).take 32 = m.drop 32 := List.take_of_length_le (by simp; omega)
  refine v_enter Try.func78 rfl (by kernel_rfl) (by show 1 ≤ 54; decide) ?_
  intro N w0 a w hN hR H
  repeat (first | refine wp_seq ?_ | refine wp_block ?_ | refine wp_skip ?_ | refine wp_exit ?_ | ((first | refine v_some 5 tab_ok hN H (by rfl) ct_Node2 ?_ | refine v_more tab_ok hN H (by rfl) (by rfl) ct_Node2 ?_); clear H; intro a w H; replace H := nf_Node2 H; (try simp only [List.drop_succ_cons, List.drop_zero, List.drop_nil]); try refine wpList_nil ?_) | refine wp_region_lit ?_)
  refine v_cond H (by rfl) (fun hb => ?_) (fun hb => ?_)
  · simp [hm] at hb
  · repeat (first | refine wp_seq ?_ | refine wp_block ?_ | refine wp_skip ?_ | refine wp_exit ?_ | ((first | refine v_some 5 tab_ok hN H (by rfl) ct_Node2 ?_ | refine v_more tab_ok hN H (by rfl) (by rfl) ct_Node2 ?_); clear H; intro a w H; replace H := nf_Node2 H; (try simp only [List.drop_succ_cons, List.drop_zero, List.drop_nil]); try refine wpList_nil ?_) | refine wp_region_lit ?_)
    refine v_cond H (by rfl) (fun hb => ?_) (fun hb => ?_)
    · replace H := H.keep [0, 2, 3] 1 0 ⟨Nat.le_trans hN (by show _ ≤ 1; decide), Nat.le_trans hR (by show _ ≤ 0; decide)⟩ (by rfl) (by rfl)
      replace H := nf_Node2 H; first | (simp only [List.take_take, Nat.min_self, e1] at H; replace H := nf_Node2 H) | skip
      repeat (first | refine wp_seq ?_ | refine wp_block ?_)
      refine v_draw 0 [9] [] (by kernel_rfl) (by kernel_rfl) H (by rfl) (fun gS H => ?_); try replace H := nt_Node2 H; first | (simp only [List.take_take, Nat.min_self, e1] at H; replace H := nt_Node2 H) | skip
      refine v_moreT tab_ok hN H (by rfl) (by (try simp only [List.take_take, Nat.min_self, e1]); first | done | exact ct_Node2) ?_; clear H; intro a w H; try replace H := nt_Node2 H; first | (simp only [List.take_take, Nat.min_self, e1] at H; replace H := nt_Node2 H) | skip
      refine v_drawNil H (fun H => ?_)
      repeat (first | refine wp_seq ?_ | refine wp_block ?_ | refine wp_skip ?_ | refine wp_exit ?_ | ((first | refine v_some 5 tab_ok hN H (by rfl) (by (try simp only [List.take_take, Nat.min_self, e1]); first | done | exact ct_Node2) ?_ | refine v_more tab_ok hN H (by rfl) (by rfl) (by (try simp only [List.take_take, Nat.min_self, e1]); first | done | exact ct_Node2) ?_); clear H; intro a w H; replace H := nf_Node2 H; first | (simp only [List.take_take, Nat.min_self, e1] at H; replace H := nf_Node2 H) | skip; (try simp only [List.drop_succ_cons, List.drop_zero, List.drop_nil]); try refine wpList_nil ?_) | refine wp_region_lit ?_)
      refine wp_ret ?_
      exact v_end [] [] tab_ok ⟨hN, hR⟩ (rs := [.cell 2 62, .tmp 3]) (ress := [_, _]) rfl H (by rfl) (by rfl) (by simp [pickB, bxs, ren, idx?, sub_refl, sub, allP, List.take_take, Nat.min_self, e1] <;> omega) (by first | rfl | (simp [List.take_take, Nat.min_self, e1] <;> omega)) (by first | exact trivial | exact ⟨sub_refl _ _, trivial⟩ | exact ⟨sub_refl _ _, sub_refl _ _, trivial⟩ | exact ⟨sub_refl _ _, sub_refl _ _, sub_refl _ _, trivial⟩ | exact ⟨⟨rfl, sub_refl _ _, trivial⟩, sub_refl _ _, trivial⟩ | (simp [cargs, cargsG, St.ev, St.tmp, find, ren, idx?, sub_refl, sub, allP, resv, resC, bss, List.take_take, Nat.min_self, e1] <;> omega)) rfl
    · simp [hm] at hb
theorem decode_two (m : List UInt8) (hm : m.length = 64) : VC Try.prog 78 [.bs (2 :: m) none] [] (.tup [(Nd.two (m.take 32) (m.drop 32)).av, errv 0]) := by
  have e1 : (m.drop 32).take 32 = m.drop 32 := List.take_of_length_le (by simp; omega)
  refine v_enter Try.func78 rfl (by kernel_rfl) (by show 1 ≤ 54; decide) ?_
  intro N w0 a w hN hR H
  repeat (first | refine wp_seq ?_ | refine wp_block ?_ | refine wp_skip ?_ | refine wp_exit ?_ | ((first | refine v_some 5 tab_ok hN H (by rfl) ct_Node2 ?_ | refine v_more tab_ok hN H (by rfl) (by rfl) ct_Node2 ?_); clear H; intro a w H; replace H := nf_Node2 H; (try simp only [List.drop_succ_cons, List.drop_zero, List.drop_nil]); try refine wpList_nil ?_) | refine wp_region_lit ?_)
  refine v_cond H (by rfl) (fun hb => ?_) (fun hb => ?_)
  · simp [hm] at hb
  · repeat (first | refine wp_seq ?_ | refine wp_block ?_ | refine wp_skip ?_ | refine wp_exit ?_ | ((first | refine v_some 5 tab_ok hN H (by rfl) ct_Node2 ?_ | refine v_more tab_ok hN H (by rfl) (by rfl) ct_Node2 ?_); clear H; intro a w H; replace H := nf_Node2 H; (try simp only [List.drop_succ_cons, List.drop_zero, List.drop_nil]); try refine wpList_nil ?_) | refine wp_region_lit ?_)
    refine v_cond H (by rfl) (fun hb => ?_) (fun hb => ?_)
    · simp at hb
    · repeat (first | refine wp_seq ?_ | refine wp_block ?_ | refine wp_skip ?_ | refine wp_exit ?_ | ((first | refine v_some 5 tab_ok hN H (by rfl) ct_Node2 ?_ | refine v_more tab_ok hN H (by rfl) (by rfl) ct_Node2 ?_); clear H; intro a w H; replace H := nf_Node2 H; (try simp only [List.drop_succ_cons, List.drop_zero, List.drop_nil]); try refine wpList_nil ?_) | refine wp_region_lit ?_)
      refine v_cond H (by rfl) (fun hb => ?_) (fun hb => ?_)
      · replace H := H.keep [0, 2, 3] 1 0 ⟨Nat.le_trans hN (by show _ ≤ 1; decide), Nat.le_trans hR (by show _ ≤ 0; decide)⟩ (by rfl) (by rfl)
        replace H := nf_Node2 H; first | (simp only [List.take_take, Nat.min_self, e1] at H; replace H := nf_Node2 H) | skip
        repeat (first | refine wp_seq ?_ | refine wp_block ?_)
        refine v_draw 0 [9] [] (by kernel_rfl) (by kernel_rfl) H (by rfl) (fun gS H => ?_); try replace H := nt_Node2 H; first | (simp only [List.take_take, Nat.min_self, e1] at H; replace H := nt_Node2 H) | skip
        refine v_moreT tab_ok hN H (by rfl) (by (try simp only [List.take_take, Nat.min_self, e1]); first | done | exact ct_Node2) ?_; clear H; intro a w H; try replace H := nt_Node2 H; first | (simp only [List.take_take, Nat.min_self, e1] at H; replace H := nt_Node2 H) | skip
        refine v_drawNil H (fun H => ?_)
        repeat (first | refine wp_seq ?_ | refine wp_block ?_ | refine wp_skip ?_ | refine wp_exit ?_ | ((first | refine v_some 5 tab_ok hN H (by rfl) (by (try simp only [List.take_take, Nat.min_self, e1]); first | done | exact ct_Node2) ?_ | refine v_more tab_ok hN H (by rfl) (by rfl) (by (try simp only [List.take_take, Nat.min_self, e1]); first | done | exact ct_Node2) ?_); clear H; intro a w H; replace H := nf_Node2 H; first | (simp only [List.take_take, Nat.min_self, e1] at H; replace H := nf_Node2 H) | skip; (try simp only [List.drop_succ_cons, List.drop_zero, List.drop_nil]); try refine wpList_nil ?_) | refine wp_region_lit ?_)
        refine wp_ret ?_
        exact v_end [] [] tab_ok ⟨hN, hR⟩ (rs := [.cell 2 62, .tmp 3]) (ress := [_, _]) rfl H (by rfl) (by rfl) (by simp [pickB, bxs, ren, idx?, sub_refl, sub, allP, List.take_take, Nat.min_self, e1] <;> omega) (by first | rfl | (simp [List.take_take, Nat.min_self, e1] <;> omega)) (by first | exact trivial | exact ⟨sub_refl _ _, trivial⟩ | exact ⟨sub_refl _ _, sub_refl _ _, trivial⟩ | exact ⟨sub_refl _ _, sub_refl _ _, sub_refl _ _, trivial⟩ | exact ⟨⟨rfl, sub_refl _ _, trivial⟩, sub_refl _ _, trivial⟩ | (simp [cargs, cargsG, St.ev, St.tmp, find, ren, idx?, sub_refl, sub, allP, resv, resC, bss, List.take_take, Nat.min_self, e1] <;> omega)) rfl
      · simp [hm] at hb
theorem decode_bad (l : List UInt8) (h0 : l ≠ [0]) (h1 : ¬ (l.length = 65 ∧ (l.getD 0 0 = 1 ∨ l.getD 0 0 = 2))) : VC Try.prog 78 [.bs l none] [] (.tup [Nd.zero.av, errv 10]) := by
  have hx : ∀ k : Nat, k < 256 → ((((l.getD 0 0).toNat : Nat) : Int) = (k : Int) → l.getD 0 0 = UInt8.ofNat k) := fun k hk h => UInt8.toNat_inj.1 (by rw [UInt8.toNat_ofNat']; omega)
  refine v_enter Try.func78 rfl (by kernel_rfl) (by show 1 ≤ 54; decide) ?_
  intro N w0 a w hN hR H
  repeat (first | refine wp_seq ?_ | refine wp_block ?_ | refine wp_skip ?_ | refine wp_exit ?_ | ((first | refine v_some 5 tab_ok hN H (by rfl) ct_Node2 ?_ | refine v_more tab_ok hN H (by rfl) (by rfl) ct_Node2 ?_); clear H; intro a w H; replace H := nf_Node2 H; (try simp only [List.drop_succ_cons, List.drop_zero, List.drop_nil]); try refine wpList_nil ?_) | refine wp_region_lit ?_)
  refine v_cond H (by rfl) (fun hb => ?_) (fun hb => ?_)
  · exfalso; apply h0
    rcases l with _ | ⟨c, _ | ⟨d, l⟩⟩
    · simp at hb
    · have := hx 0 (by decide); simp at hb this; simp [this hb]
    · simp at hb; omega
  · repeat (first | refine wp_seq ?_ | refine wp_block ?_ | refine wp_skip ?_ | refine wp_exit ?_ | ((first | refine v_some 5 tab_ok hN H (by rfl) ct_Node2 ?_ | refine v_more tab_ok hN H (by rfl) (by rfl) ct_Node2 ?_); clear H; intro a w H; replace H := nf_Node2 H; (try simp only [List.drop_succ_cons, List.drop_zero, List.drop_nil]); try refine wpList_nil ?_) | refine wp_region_lit ?_)
    refine v_cond H (by rfl) (fun hb => ?_) (fun hb => ?_)
    · exfalso; apply h1
      have h2 := hx 1 (by decide)
      simp at hb h2
      exact ⟨by omega, .inl (by simpa using h2 hb.2)⟩
    · repeat (first | refine wp_seq ?_ | refine wp_block ?_ | refine wp_skip ?_ | refine wp_exit ?_ | ((first | refine v_some 5 tab_ok hN H (by rfl) ct_Node2 ?_ | refine v_more tab_ok hN H (by rfl) (by rfl) ct_Node2 ?_); clear H; intro a w H; replace H := nf_Node2 H; (try simp only [List.drop_succ_cons, List.drop_zero, List.drop_nil]); try refine wpList_nil ?_) | refine wp_region_lit ?_)
      refine v_cond H (by rfl) (fun hb => ?_) (fun hb => ?_)
      · exfalso; apply h1
        have h2 := hx 2 (by decide)
        simp at hb h2
        exact ⟨by omega, .inr (by simpa using h2 hb.2)⟩
      · repeat (first | refine wp_seq ?_ | refine wp_block ?_ | refine wp_skip ?_ | refine wp_exit ?_ | ((first | refine v_some 5 tab_ok hN H (by rfl) ct_Node2 ?_ | refine v_more tab_ok hN H (by rfl) (by rfl) ct_Node2 ?_); clear H; intro a w H; replace H := nf_Node2 H; (try simp only [List.drop_succ_cons, List.drop_zero, List.drop_nil]); try refine wpList_nil ?_) | refine wp_region_lit ?_)
        refine wp_ret ?_
        exact v_end [] [] tab_ok ⟨hN, hR⟩ (rs := [.cell 2 62, .tmp 3]) (ress := [_, _]) rfl H (by rfl) (by rfl) cb cw ca rfl
def decOk (l : List UInt8) : Prop := l = [0] ∨ (l.length = 65 ∧ (l.getD 0 0 = 1 ∨ l.getD 0 0 = 2))
instance (l : List UInt8) : Decidable (decOk l) := inferInstanceAs (Decidable (_ ∨ _))
def dec (l : List UInt8) : Nd := if l.length = 65 ∧ l.getD 0 0 = 1 then .one ((l.drop 1).take 32) (l.drop 33) else if l.length = 65 ∧ l.getD 0 0 = 2 then .two ((l.drop 1).take 32) (l.drop 33) else .zero
theorem z32_len : z32.length = 32 := by simp [z32]
theorem dec_one (m : List UInt8) (hm : m.length = 64) : dec (1 :: m) = .one (m.take 32) (m.drop 32) := by simp [dec, hm]
theorem dec_two (m : List UInt8) (hm : m.length = 64) : dec (2 :: m) = .two (m.take 32) (m.drop 32) := by simp [dec, hm]
theorem dec_zero : dec [0] = .zero := by simp [dec]
theorem decOk_cases {l : List UInt8} (h : decOk l) : l = [0] ∨ (∃ m, m.length = 64 ∧ l = 1 :: m) ∨ ∃ m, m.length = 64 ∧ l = 2 :: m := by
  rcases h with h | ⟨h1, h2⟩
  · exact .inl h
  · right
    cases l with
    | nil => simp at h1
    | cons c m =>
      simp at h1 h2
      rcases h2 with rfl | rfl
      · exact .inl ⟨m, h1, rfl⟩
      · exact .inr ⟨m, h1, rfl⟩
theorem dec_bad {l : List UInt8} (h : ¬ decOk l) : dec l = .zero := by
  unfold decOk at h; unfold dec
  rw [if_neg (fun e => h (.inr ⟨e.1, .inl e.2⟩)), if_neg (fun e => h (.inr ⟨e.1, .inr e.2⟩))]
theorem decode_v (l : List UInt8) : VC Try.prog 78 [.bs l none] [] (.tup [(dec l).av, errv (if decOk l then 0 else 10)]) := by
  by_cases h : decOk l
  · rw [if_pos h]
    rcases decOk_cases h with rfl | ⟨m, hm, rfl⟩ | ⟨m, hm, rfl⟩
    · rw [dec_zero]; exact decode_zero
    · rw [dec_one m hm]; exact decode_one m hm
    · rw [dec_two m hm]; exact decode_two m hm
  · rw [if_neg h, dec_bad h]
    exact decode_bad l (fun e => h (.inl e)) (fun e => h (.inr e))
theorem zero_wf : Nd.zero.wf := ⟨z32_len, z32_len, z32_len, z32_len⟩
theorem zero_ok : Nd.zero.ok := by simp [Nd.ok, Nd.bare, Nd.zero]
theorem zero_text : Nd.zero.text = [0] := by simp [Nd.text, Nd.zero]
theorem dec_wf (l : List UInt8) : (dec l).wf := by
  by_cases h : decOk l
  · rcases decOk_cases h with rfl | ⟨m, hm, rfl⟩ | ⟨m, hm, rfl⟩
    · rw [dec_zero]; exact zero_wf
    · rw [dec_one m hm]; exact ⟨by simp [Nd.one]; omega, by simp [Nd.one]; omega, z32_len, z32_len⟩
    · rw [dec_two m hm]; exact ⟨z32_len, z32_len, by simp [Nd.two]; omega, by simp [Nd.two]; omega⟩
  · rw [dec_bad h]; exact zero_wf
theorem dec_ok (l : List UInt8) : (dec l).ok := by
  by_cases h : decOk l
  · rcases decOk_cases h with rfl | ⟨m, hm, rfl⟩ | ⟨m, hm, rfl⟩
    · rw [dec_zero]; exact zero_ok
    · rw [dec_one m hm]; simp [Nd.ok, Nd.bare, Nd.one]
    · rw [dec_two m hm]; simp [Nd.ok, Nd.bare, Nd.two]
  · rw [dec_bad h]; exact zero_ok
theorem dec_text {l : List UInt8} (h : decOk l) : (dec l).text = l := by
  rcases decOk_cases h with rfl | ⟨m, hm, rfl⟩ | ⟨m, hm, rfl⟩
  · rw [dec_zero]; exact zero_text
  · rw [dec_one m hm]; simp [Nd.text, Nd.one]
  · rw [dec_two m hm]; simp [Nd.text, Nd.two]
theorem Nd.ok_cases {n : Nd} (h : n.ok) : n = .zero ∨ (∃ a b, n = .one a b) ∨ ∃ a b, n = .two a b := by
  unfold Nd.ok Nd.bare at h
  split at h
  · exact .inr (.inl ⟨_, _, h⟩)
  · split at h
    · exact .inr (.inr ⟨_, _, h⟩)
    · exact .inl h
theorem text_dec {n : Nd} (hw : n.wf) (h : n.ok) : decOk n.text ∧ dec n.text = n := by
  rcases n.ok_cases h with rfl | ⟨p, q, rfl⟩ | ⟨p, q, rfl⟩
  · rw [zero_text]; exact ⟨.inl rfl, dec_zero⟩
  · have h1 : p.length = 32 := hw.key
    have h2 : q.length = 32 := hw.v
    rw [show (Nd.one p q).text = 1 :: (p ++ q) by simp [Nd.text, Nd.one]]
    refine ⟨.inr ⟨by simp; omega, .inl rfl⟩, ?_⟩
    rw [dec_one _ (by simp; omega), ← h1, List.take_left, List.drop_left]
  · have h1 : p.length = 32 := hw.l
    have h2 : q.length = 32 := hw.r
    rw [show (Nd.two p q).text = 2 :: (p ++ q) by simp [Nd.text, Nd.two]]
    refine ⟨.inr ⟨by simp; omega, .inr rfl⟩, ?_⟩
    rw [dec_two _ (by simp; omega), ← h1, List.take_left, List.drop_left]
theorem text_len {n : Nd} (hw : n.wf) : n.text.length ≤ 65 := by
  obtain ⟨h1, h2, h3, h4⟩ := hw
  unfold Nd.text
  split
  · simp; omega
  · split
    · simp; omega
    · simp
end Go.Proofs.Ytlagngkafllbiaa
