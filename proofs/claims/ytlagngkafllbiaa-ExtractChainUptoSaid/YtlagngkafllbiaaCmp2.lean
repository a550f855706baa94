/- octet.Compare, numbers as two bytes. -/
import Derived.Test.YtlagngkafllbiaaCmp
import Derived.Test.YtlagngkafllbiaaReader
set_option linter.unusedSimpArgs false
set_option linter.unusedVariables false
namespace Go.Proofs.Ytlagngkafllbiaa
open Go Go.RowKit
/-- The state made plain. -/
theorem nf_Cmp2 {P : Program} {w0 w : World} {N : Gh} {nt : Nat} {st s2 : St} {a : Act} (H : Rel P w0 N nt st a w) (h : st = s2 := by (try simp only [pk, elemB, St.put, St.ev, St.tmp, St.keep, find, dropT, slots, AV.put, AV.loc, fitI, convI, IntKind.signed, IntKind.bits, strip, St.lose, mergeL, setAll, nth, renB, ren, idx?, sub, allP, low, bnd, Int.reduceEq, Nat.reduceAdd, Nat.reduceLT, reduceIte, reduceCtorEq, Nat.reduceEqDiff, Nat.reduceLeDiff, Nat.reduceBEq, Int.reducePow, Int.reduceToNat, ti24_t, ti24_z, ti5_t, ti5_z, ti148_t, ti148_z]); rfl) : Rel P w0 N nt s2 a w := h ▸ H
theorem nt_Cmp2 {P : Program} {w0 w : World} {N gS : Gh} {nt : Nat} {q q2 st s2 : St} {a : Act} (H : RelT P w0 N nt gS q st a w) (h1 : q = q2 := by (try simp only [pk, elemB, St.put, St.ev, St.tmp, St.keep, find, dropT, slots, AV.put, AV.loc, fitI, convI, IntKind.signed, IntKind.bits, strip, St.lose, mergeL, setAll, nth, renB, ren, idx?, sub, allP, low, bnd, Int.reduceEq, Nat.reduceAdd, Nat.reduceLT, reduceIte, reduceCtorEq, Nat.reduceEqDiff, Nat.reduceLeDiff, Nat.reduceBEq, Int.reducePow, Int.reduceToNat, ti24_t, ti24_z, ti5_t, ti5_z, ti148_t, ti148_z]); rfl) (h : st = s2 := by (try simp only [pk, elemB, St.put, St.ev, St.tmp, St.keep, find, dropT, slots, AV.put, AV.loc, fitI, convI, IntKind.signed, IntKind.bits, strip, St.lose, mergeL, setAll, nth, renB, ren, idx?, sub, allP, low, bnd, Int.reduceEq, Nat.reduceAdd, Nat.reduceLT, reduceIte, reduceCtorEq, Nat.reduceEqDiff, Nat.reduceLeDiff, Nat.reduceBEq, Int.reducePow, Int.reduceToNat, ti24_t, ti24_z, ti5_t, ti5_z, ti148_t, ti148_z]); rfl) : RelT P w0 N nt gS q2 s2 a w := h1 ▸ h ▸ H
theorem ct_Cmp2 {c : Prop} (h : c := by ((try simp only [pk, elemB, St.put, St.ev, St.tmp, St.keep, find, dropT, slots, AV.put, AV.loc, fitI, convI, IntKind.signed, IntKind.bits, strip, St.lose, mergeL, setAll, nth, renB, ren, idx?, sub, allP, low, bnd, Int.reduceEq, Nat.reduceAdd, Nat.reduceLT, reduceIte, reduceCtorEq, Nat.reduceEqDiff, Nat.reduceLeDiff, Nat.reduceBEq, Int.reducePow, Int.reduceToNat, ti24_t, ti24_z, ti5_t, ti5_z, ti148_t, ti148_z, ti24, ti5, ti148, fit, gcond, ilo, ihi]); first | done | exact cd | exact cd2 | skip)) : c := h
theorem cmpT_v (x y : ByteArray) : VC Try.prog 70 [.v (.string x), .v (.string y)] [] (.v (.int .i64 (Lib.compareBytes x.data.toList y.data.toList))) := by
  refine v_enter Try.func70 rfl (by kernel_rfl) (by show 2 ≤ 8; decide) ?_
  intro N w0 a w hN hR H
  repeat (first | refine wp_seq ?_ | refine wp_block ?_ | refine wp_skip ?_ | refine wp_exit ?_ | ((first | refine v_some 5 tab_ok hN H (by rfl) ct_Cmp2 ?_ | refine v_more tab_ok hN H (by rfl) (by rfl) ct_Cmp2 ?_); clear H; intro a w H; replace H := nf_Cmp2 H; (try simp only [List.drop_succ_cons, List.drop_zero, List.drop_nil]); try refine wpList_nil ?_) | refine wp_region_lit ?_)
  refine v_call [] [] (cmpS_v x y) H rfl rfl (by rfl) cb cw ca ?_; clear H; intro a w H; replace H := nf_Cmp2 H; try refine wpList_nil ?_
  repeat (first | refine wp_seq ?_ | refine wp_block ?_ | refine wp_skip ?_ | refine wp_exit ?_ | ((first | refine v_some 5 tab_ok hN H (by rfl) ct_Cmp2 ?_ | refine v_more tab_ok hN H (by rfl) (by rfl) ct_Cmp2 ?_); clear H; intro a w H; replace H := nf_Cmp2 H; (try simp only [List.drop_succ_cons, List.drop_zero, List.drop_nil]); try refine wpList_nil ?_) | refine wp_region_lit ?_)
  refine wp_ret ?_
  exact v_end [] [] tab_ok ⟨hN, hR⟩ (rs := [.tmp 4]) (ress := [_]) rfl H (by rfl) (by rfl) cb cw ca rfl
theorem compare_v (x y : List UInt8) : VC Try.prog 43 [.bs x none, .bs y none] [] (.v (.int .i64 (Lib.compareBytes x y))) := by
  have h := cmpT_v (strOf x) (strOf y)
  have e1 : (strOf x).data.toList = x := rfl
  have e2 : (strOf y).data.toList = y := rfl
  rw [e1, e2] at h
  refine v_enter Try.func43 rfl (by kernel_rfl) (by show 2 ≤ 10; decide) ?_
  intro N w0 a w hN hR H
  repeat (first | refine wp_seq ?_ | refine wp_block ?_ | refine wp_skip ?_ | refine wp_exit ?_ | ((first | refine v_some 5 tab_ok hN H (by rfl) ct_Cmp2 ?_ | refine v_more tab_ok hN H (by rfl) (by rfl) ct_Cmp2 ?_); clear H; intro a w H; replace H := nf_Cmp2 H; (try simp only [List.drop_succ_cons, List.drop_zero, List.drop_nil]); try refine wpList_nil ?_) | refine wp_region_lit ?_)
  refine v_call [] [] (h) H rfl rfl (by rfl) cb cw ca ?_; clear H; intro a w H; replace H := nf_Cmp2 H; try refine wpList_nil ?_
  repeat (first | refine wp_seq ?_ | refine wp_block ?_ | refine wp_skip ?_ | refine wp_exit ?_ | ((first | refine v_some 5 tab_ok hN H (by rfl) ct_Cmp2 ?_ | refine v_more tab_ok hN H (by rfl) (by rfl) ct_Cmp2 ?_); clear H; intro a w H; replace H := nf_Cmp2 H; (try simp only [List.drop_succ_cons, List.drop_zero, List.drop_nil]); try refine wpList_nil ?_) | refine wp_region_lit ?_)
  refine wp_ret ?_
  exact v_end [] [] tab_ok ⟨hN, hR⟩ (rs := [.tmp 4]) (ress := [_]) rfl H (by rfl) (by rfl) cb cw ca rfl
theorem put16_v (n : Nat) (hn : n ≤ 65535) : VC Try.prog 81 [.v (.int .i64 (n : Int))] [(5, 2)] (.tup [.bs [UInt8.ofNat (n / 256), UInt8.ofNat n] (some 0), errv 0]) := by
  have e3 := u8n n 256; have e4 := u8m n
  simp only [Int.cast_ofNat_Int] at e3 e4
  refine v_enter Try.func81 rfl (by kernel_rfl) (by show 1 ≤ 16; decide) ?_
  intro N w0 a w hN hR H
  repeat (first | refine wp_seq ?_ | refine wp_block ?_ | refine wp_skip ?_ | refine wp_exit ?_ | ((first | refine v_some 5 tab_ok hN H (by rfl) ct_Cmp2 ?_ | refine v_more tab_ok hN H (by rfl) (by rfl) ct_Cmp2 ?_); clear H; intro a w H; replace H := nf_Cmp2 H; (try simp only [List.drop_succ_cons, List.drop_zero, List.drop_nil]); try refine wpList_nil ?_) | refine wp_region_lit ?_)
  refine v_cond H (by rfl) (fun hb => ?_) (fun hb => ?_)
  · exfalso; simp at hb; omega
  · repeat (first | refine wp_seq ?_ | refine wp_block ?_ | refine wp_skip ?_ | refine wp_exit ?_ | ((first | refine v_some 5 tab_ok hN H (by rfl) ct_Cmp2 ?_ | refine v_more tab_ok hN H (by rfl) (by rfl) ct_Cmp2 ?_); clear H; intro a w H; replace H := nf_Cmp2 H; (try simp only [List.drop_succ_cons, List.drop_zero, List.drop_nil]); try refine wpList_nil ?_) | refine wp_region_lit ?_)
    rw [e3, e4] at H
    refine wp_ret ?_
    exact v_end [] [0] tab_ok ⟨hN, hR⟩ (rs := [.tmp 2, .tmp 3]) (ress := [_, _]) rfl H (by rfl) (by rfl) cb cw ca rfl
theorem or8 (x : Nat) (hx : x < 16777216) (c : Nat) (hc : c < 256) : bits .or .i64 (IntKind.i64.wrap ((x : Int) * 256)) (c : Int) = ((256 * x + c : Nat) : Int) := by
  have h1 : IntKind.i64.wrap ((x : Int) * 256) = ((256 * x : Nat) : Int) := by rw [IntKind.wrap_i64]; omega
  have o : 256 * x ||| c = 256 * x + c := by
    have := Nat.two_pow_add_eq_or_of_lt (i := 8) hc x
    simpa using this.symm
  have e : ∀ y : Nat, y < 4294967296 → (BitVec.ofInt 64 (y : Int)).toNat = y := fun y hy => by
    rw [BitVec.ofInt_natCast, BitVec.toNat_ofNat]; exact Nat.mod_eq_of_lt (by omega)
  rw [h1]
  show IntKind.i64.wrap ((BitVec.ofInt 64 ((256 * x : Nat) : Int) ||| BitVec.ofInt 64 (c : Int)).toNat : Int) = _
  rw [BitVec.toNat_or, e _ (by omega), e _ (by omega), o, IntKind.wrap_i64]
  omega
/-- A number, the highest byte first. -/
def num : Nat → List UInt8 → Nat
  | x, [] => x
  | x, b :: l => num (256 * x + b.toNat) l
theorem num_append (x : Nat) (l m : List UInt8) : num x (l ++ m) = num (num x l) m := by
  induction l generalizing x with
  | nil => rfl
  | cons b l ih => exact ih _
theorem num_lt : ∀ (l : List UInt8) (x : Nat), num x l < 256 ^ l.length * (x + 1)
  | [], x => by simp [num]
  | b :: l, x => by
    have h := num_lt l (256 * x + b.toNat)
    have hb := b.toNat_lt
    simp only [num, List.length_cons, Nat.pow_succ]
    refine Nat.lt_of_lt_of_le h ?_
    rw [Nat.mul_assoc]
    exact Nat.mul_le_mul_left _ (by omega)
theorem num2_lt (l : List UInt8) (h : l.length = 2) : num 0 l < 65536 := by
  match l, h with
  | [a, b], _ =>
    have := a.toNat_lt; have := b.toNat_lt
    simp only [num]; omega
theorem number_ok (l : List UInt8) (n : Nat) (hn : n ≤ l.length) (h4 : n ≤ 4) (hl : l.length ≤ 34359738000) : VX Try.prog 96 [(rdT, rdv false l)] [] [] [.ptr 0 [], .v (.int .i64 (n : Int))] [(rdT, rdv false (l.drop n))] [] [] (.v (.int .i64 ((num 0 (l.take n) : Nat) : Int))) := by
  have ht := take_ok l n hn hl
  have hln : (l.take n).length = n := by rw [List.length_take]; omega
  refine v_enter Try.func96 rfl (by kernel_rfl) (by show 2 ≤ 23; decide) ?_
  intro N w0 a w hN hR H
  simp only [rdv] at H ht
  repeat (first | refine wp_seq ?_ | refine wp_block ?_ | refine wp_skip ?_ | refine wp_exit ?_ | ((first | refine v_some 5 tab_ok hN H (by rfl) ct_Cmp2 ?_ | refine v_more tab_ok hN H (by rfl) (by rfl) ct_Cmp2 ?_); clear H; intro a w H; replace H := nf_Cmp2 H; (try simp only [List.drop_succ_cons, List.drop_zero, List.drop_nil]); try refine wpList_nil ?_) | refine wp_region_lit ?_)
  refine v_call [0] [] (ht) H rfl rfl (by rfl) cb cw ca ?_; clear H; intro a w H; replace H := nf_Cmp2 H; try refine wpList_nil ?_
  repeat (first | refine wp_seq ?_ | refine wp_block ?_ | refine wp_skip ?_ | refine wp_exit ?_ | ((first | refine v_some 5 tab_ok hN H (by rfl) ct_Cmp2 ?_ | refine v_more tab_ok hN H (by rfl) (by rfl) ct_Cmp2 ?_); clear H; intro a w H; replace H := nf_Cmp2 H; (try simp only [List.drop_succ_cons, List.drop_zero, List.drop_nil]); try refine wpList_nil ?_) | refine wp_region_lit ?_)
  refine v_loop (fun k : Nat => ⟨[(12, none, .v (.int .i64 (k : Int))), (11, none, .v (.int .i64 (n : Int))), (10, none, .bs (l.take n) (some 0)), (5, none, .v (.int .i64 ((num 0 ((l.take n).take k) : Nat) : Int)))], [(rdT, .st [.v (.bool true), .v (.bool false), .bs (l.drop n) none])], [], [(5, n)]⟩) (fun k => k ≤ n) (fun k => n - k) 0 (Nat.zero_le _) (H.to 1 1 ⟨hN, Nat.le_trans hR (by decide)⟩ ⟨rfl, by rw [hln]; rfl, rfl, rfl, trivial⟩ rfl rfl rfl rfl rfl) ?_
  clear H
  intro k a w hk H
  repeat (first | refine wp_seq ?_ | refine wp_block ?_ | refine wp_skip ?_ | refine wp_exit ?_ | ((first | refine v_some 5 tab_ok hN H (by rfl) ct_Cmp2 ?_ | refine v_more tab_ok hN H (by rfl) (by rfl) ct_Cmp2 ?_); clear H; intro a w H; replace H := nf_Cmp2 H; (try simp only [List.drop_succ_cons, List.drop_zero, List.drop_nil]); try refine wpList_nil ?_) | refine wp_region_lit ?_)
  refine v_cond H (by rfl) (fun hb => ?_) (fun hb => ?_)
  · have hlt : k < n := by simpa using hb
    have hlt' : k < (l.take n).length := by omega
    have h8 := ((l.take n).getD k 0).toNat_lt
    repeat (first | refine wp_seq ?_ | refine wp_block ?_ | refine wp_skip ?_ | refine wp_exit ?_ | ((first | refine v_some 5 tab_ok hN H (by rfl) ct_Cmp2 ?_ | refine v_more tab_ok hN H (by rfl) (by rfl) ct_Cmp2 ?_); clear H; intro a w H; replace H := nf_Cmp2 H; (try simp only [List.drop_succ_cons, List.drop_zero, List.drop_nil]); try refine wpList_nil ?_) | refine wp_region_lit ?_)
    have hx : num 0 ((l.take n).take k) < 16777216 := by
      have h1 := num_lt ((l.take n).take k) 0
      rw [List.length_take, Nat.min_eq_left (by omega)] at h1
      have h2 : (256 : Nat) ^ k ≤ 256 ^ 3 := Nat.pow_le_pow_right (by decide) (by omega)
      omega
    have hnx : num 0 ((l.take n).take (k + 1)) = 256 * num 0 ((l.take n).take k) + ((l.take n).getD k 0).toNat := by
      rw [List.take_succ_eq_append_getElem hlt', num_append, ← List.getElem_eq_getD (h := hlt') 0]
      rfl
    rw [or8 _ hx _ h8, ← hnx] at H
    exact ⟨k + 1, hlt, by omega, H.to 1 1 ⟨hN, Nat.le_trans hR (by decide)⟩ ⟨rfl, rfl, rfl, rfl, trivial⟩ rfl rfl rfl rfl rfl⟩
  · have hge : k = n := by simp at hb; omega
    subst hge
    rw [List.take_take, Nat.min_self] at H
    repeat (first | refine wp_seq ?_ | refine wp_block ?_ | refine wp_skip ?_ | refine wp_exit ?_ | ((first | refine v_some 5 tab_ok hN H (by rfl) ct_Cmp2 ?_ | refine v_more tab_ok hN H (by rfl) (by rfl) ct_Cmp2 ?_); clear H; intro a w H; replace H := nf_Cmp2 H; (try simp only [List.drop_succ_cons, List.drop_zero, List.drop_nil]); try refine wpList_nil ?_) | refine wp_region_lit ?_)
    refine wp_ret ?_
    exact v_end [0] [] tab_ok ⟨hN, hR⟩ (rs := [.tmp 4]) (ress := [_]) rfl H (by rfl) (by rfl) (by simp [pickB, bxs, ren, idx?, sub_refl, sub, allP, rdv] <;> omega) (by first | rfl | (simp [rdv] <;> omega)) (by first | exact trivial | exact ⟨sub_refl _ _, trivial⟩ | exact ⟨sub_refl _ _, sub_refl _ _, trivial⟩ | exact ⟨sub_refl _ _, sub_refl _ _, sub_refl _ _, trivial⟩ | exact ⟨⟨rfl, sub_refl _ _, trivial⟩, sub_refl _ _, trivial⟩ | (simp [cargs, cargsG, St.ev, St.tmp, find, ren, idx?, sub_refl, sub, allP, resv, resC, bss, rdv] <;> omega)) rfl
theorem number_bad (l : List UInt8) (n : Nat) (hn : l.length < n) : VX Try.prog 96 [(rdT, rdv false l)] [] [] [.ptr 0 [], .v (.int .i64 (n : Int))] [(rdT, rdv true l)] [] [] (.v (.int .i64 0)) := by
  have ht := take_bad l n hn
  refine v_enter Try.func96 rfl (by kernel_rfl) (by show 2 ≤ 23; decide) ?_
  intro N w0 a w hN hR H
  simp only [rdv] at H ht
  repeat (first | refine wp_seq ?_ | refine wp_block ?_ | refine wp_skip ?_ | refine wp_exit ?_ | ((first | refine v_some 5 tab_ok hN H (by rfl) ct_Cmp2 ?_ | refine v_more tab_ok hN H (by rfl) (by rfl) ct_Cmp2 ?_); clear H; intro a w H; replace H := nf_Cmp2 H; (try simp only [List.drop_succ_cons, List.drop_zero, List.drop_nil]); try refine wpList_nil ?_) | refine wp_region_lit ?_)
  refine v_call [0] [] (ht) H rfl rfl (by rfl) cb cw ca ?_; clear H; intro a w H; replace H := nf_Cmp2 H; try refine wpList_nil ?_
  repeat (first | refine wp_seq ?_ | refine wp_block ?_ | refine wp_skip ?_ | refine wp_exit ?_ | ((first | refine v_some 5 tab_ok hN H (by rfl) ct_Cmp2 ?_ | refine v_more tab_ok hN H (by rfl) (by rfl) ct_Cmp2 ?_); clear H; intro a w H; replace H := nf_Cmp2 H; (try simp only [List.drop_succ_cons, List.drop_zero, List.drop_nil]); try refine wpList_nil ?_) | refine wp_region_lit ?_)
  refine v_loop (fun k : Nat => ⟨[(12, none, .v (.int .i64 (k : Int))), (11, none, .v (.int .i64 0)), (5, none, .v (.int .i64 0))], [(rdT, .st [.v (.bool true), .v (.bool true), .bs l none])], [], []⟩) (fun k => k = 0) (fun k => k) 0 rfl (H.to 1 0 ⟨hN, hR⟩ ⟨rfl, rfl, rfl, trivial⟩ rfl rfl rfl rfl rfl) ?_
  clear H
  intro k a w hk H
  subst hk
  repeat (first | refine wp_seq ?_ | refine wp_block ?_ | refine wp_skip ?_ | refine wp_exit ?_ | ((first | refine v_some 5 tab_ok hN H (by rfl) ct_Cmp2 ?_ | refine v_more tab_ok hN H (by rfl) (by rfl) ct_Cmp2 ?_); clear H; intro a w H; replace H := nf_Cmp2 H; (try simp only [List.drop_succ_cons, List.drop_zero, List.drop_nil]); try refine wpList_nil ?_) | refine wp_region_lit ?_)
  refine v_cond H (by rfl) (fun hb => ?_) (fun hb => ?_)
  · simp at hb
  · repeat (first | refine wp_seq ?_ | refine wp_block ?_ | refine wp_skip ?_ | refine wp_exit ?_ | ((first | refine v_some 5 tab_ok hN H (by rfl) ct_Cmp2 ?_ | refine v_more tab_ok hN H (by rfl) (by rfl) ct_Cmp2 ?_); clear H; intro a w H; replace H := nf_Cmp2 H; (try simp only [List.drop_succ_cons, List.drop_zero, List.drop_nil]); try refine wpList_nil ?_) | refine wp_region_lit ?_)
    refine wp_ret ?_
    exact v_end [0] [] tab_ok ⟨hN, hR⟩ (rs := [.tmp 4]) (ress := [_]) rfl H (by rfl) (by rfl) (by simp [pickB, bxs, ren, idx?, sub_refl, sub, allP, rdv] <;> omega) (by first | rfl | (simp [rdv] <;> omega)) (by first | exact trivial | exact ⟨sub_refl _ _, trivial⟩ | exact ⟨sub_refl _ _, sub_refl _ _, trivial⟩ | exact ⟨sub_refl _ _, sub_refl _ _, sub_refl _ _, trivial⟩ | exact ⟨⟨rfl, sub_refl _ _, trivial⟩, sub_refl _ _, trivial⟩ | (simp [cargs, cargsG, St.ev, St.tmp, find, ren, idx?, sub_refl, sub, allP, resv, resC, bss, rdv] <;> omega)) rfl
theorem u16_ok (l : List UInt8) (hn : 2 ≤ l.length) (hl : l.length ≤ 34359738000) : VX Try.prog 73 [(rdT, rdv false l)] [] [] [.ptr 0 []] [(rdT, rdv false (l.drop 2))] [] [] (.v (.int .i64 ((num 0 (l.take 2) : Nat) : Int))) := by
  have hb := num2_lt (l.take 2) (by rw [List.length_take]; omega)
  have ht := number_ok l 2 hn (by decide) hl
  refine v_enter Try.func73 rfl (by kernel_rfl) (by show 1 ≤ 5; decide) ?_
  intro N w0 a w hN hR H
  simp only [rdv] at H ht
  repeat (first | refine wp_seq ?_ | refine wp_block ?_ | refine wp_skip ?_ | refine wp_exit ?_ | ((first | refine v_some 5 tab_ok hN H (by rfl) ct_Cmp2 ?_ | refine v_more tab_ok hN H (by rfl) (by rfl) ct_Cmp2 ?_); clear H; intro a w H; replace H := nf_Cmp2 H; (try simp only [List.drop_succ_cons, List.drop_zero, List.drop_nil]); try refine wpList_nil ?_) | refine wp_region_lit ?_)
  refine v_call [0] [] (ht) H rfl rfl (by rfl) cb cw ca ?_; clear H; intro a w H; replace H := nf_Cmp2 H; try refine wpList_nil ?_
  repeat (first | refine wp_seq ?_ | refine wp_block ?_ | refine wp_skip ?_ | refine wp_exit ?_ | ((first | refine v_some 5 tab_ok hN H (by rfl) ct_Cmp2 ?_ | refine v_more tab_ok hN H (by rfl) (by rfl) ct_Cmp2 ?_); clear H; intro a w H; replace H := nf_Cmp2 H; (try simp only [List.drop_succ_cons, List.drop_zero, List.drop_nil]); try refine wpList_nil ?_) | refine wp_region_lit ?_)
  refine wp_ret ?_
  exact v_end [0] [] tab_ok ⟨hN, hR⟩ (rs := [.tmp 2]) (ress := [_]) rfl H (by rfl) (by rfl) (by simp [pickB, bxs, ren, idx?, sub_refl, sub, allP, rdv] <;> omega) (by first | rfl | (simp [rdv] <;> omega)) (by first | exact trivial | exact ⟨sub_refl _ _, trivial⟩ | exact ⟨sub_refl _ _, sub_refl _ _, trivial⟩ | exact ⟨sub_refl _ _, sub_refl _ _, sub_refl _ _, trivial⟩ | exact ⟨⟨rfl, sub_refl _ _, trivial⟩, sub_refl _ _, trivial⟩ | (simp [cargs, cargsG, St.ev, St.tmp, find, ren, idx?, sub_refl, sub, allP, resv, resC, bss, rdv] <;> omega)) rfl
theorem u16_bad (l : List UInt8) (hn : l.length < 2) : VX Try.prog 73 [(rdT, rdv false l)] [] [] [.ptr 0 []] [(rdT, rdv true l)] [] [] (.v (.int .i64 0)) := by
  have ht := number_bad l 2 hn
  refine v_enter Try.func73 rfl (by kernel_rfl) (by show 1 ≤ 5; decide) ?_
  intro N w0 a w hN hR H
  simp only [rdv] at H ht
  repeat (first | refine wp_seq ?_ | refine wp_block ?_ | refine wp_skip ?_ | refine wp_exit ?_ | ((first | refine v_some 5 tab_ok hN H (by rfl) ct_Cmp2 ?_ | refine v_more tab_ok hN H (by rfl) (by rfl) ct_Cmp2 ?_); clear H; intro a w H; replace H := nf_Cmp2 H; (try simp only [List.drop_succ_cons, List.drop_zero, List.drop_nil]); try refine wpList_nil ?_) | refine wp_region_lit ?_)
  refine v_call [0] [] (ht) H rfl rfl (by rfl) cb cw ca ?_; clear H; intro a w H; replace H := nf_Cmp2 H; try refine wpList_nil ?_
  repeat (first | refine wp_seq ?_ | refine wp_block ?_ | refine wp_skip ?_ | refine wp_exit ?_ | ((first | refine v_some 5 tab_ok hN H (by rfl) ct_Cmp2 ?_ | refine v_more tab_ok hN H (by rfl) (by rfl) ct_Cmp2 ?_); clear H; intro a w H; replace H := nf_Cmp2 H; (try simp only [List.drop_succ_cons, List.drop_zero, List.drop_nil]); try refine wpList_nil ?_) | refine wp_region_lit ?_)
  refine wp_ret ?_
  exact v_end [0] [] tab_ok ⟨hN, hR⟩ (rs := [.tmp 2]) (ress := [_]) rfl H (by rfl) (by rfl) (by simp [pickB, bxs, ren, idx?, sub_refl, sub, allP, rdv] <;> omega) (by first | rfl | (simp [rdv] <;> omega)) (by first | exact trivial | exact ⟨sub_refl _ _, trivial⟩ | exact ⟨sub_refl _ _, sub_refl _ _, trivial⟩ | exact ⟨sub_refl _ _, sub_refl _ _, sub_refl _ _, trivial⟩ | exact ⟨⟨rfl, sub_refl _ _, trivial⟩, sub_refl _ _, trivial⟩ | (simp [cargs, cargsG, St.ev, St.tmp, find, ren, idx?, sub_refl, sub, allP, resv, resC, bss, rdv] <;> omega)) rfl
theorem bits_v (n : Nat) (hn : n ≤ 34359738000) : VC Try.prog 75 [.v (.int .i64 (n : Int))] [] (.v (.int .i64 (((n + 7) / 8 : Nat) : Int))) := by
  refine v_enter Try.func75 rfl (by kernel_rfl) (by show 1 ≤ 6; decide) ?_
  intro N w0 a w hN hR H
  repeat (first | refine wp_seq ?_ | refine wp_block ?_ | refine wp_skip ?_ | refine wp_exit ?_ | ((first | refine v_some 5 tab_ok hN H (by rfl) ct_Cmp2 ?_ | refine v_more tab_ok hN H (by rfl) (by rfl) ct_Cmp2 ?_); clear H; intro a w H; replace H := nf_Cmp2 H; (try simp only [List.drop_succ_cons, List.drop_zero, List.drop_nil]); try refine wpList_nil ?_) | refine wp_region_lit ?_)
  refine wp_ret ?_
  exact v_end [] [] tab_ok ⟨hN, hR⟩ (rs := [.tmp 2]) (ress := [_]) rfl H (by rfl) (by rfl) cb cw ca rfl
end Go.Proofs.Ytlagngkafllbiaa
