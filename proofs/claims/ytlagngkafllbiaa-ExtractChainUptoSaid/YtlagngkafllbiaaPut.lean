/- Numbers as bytes. -/
import Derived.Test.YtlagngkafllbiaaState
set_option linter.unusedSimpArgs false
set_option linter.unusedVariables false
namespace Go.Proofs.Ytlagngkafllbiaa
open Go Go.RowKit
/-- The state made plain. -/
theorem nf_Put {P : Program} {w0 w : World} {N : Gh} {nt : Nat} {st s2 : St} {a : Act} (H : Rel P w0 N nt st a w) (h : st = s2 := by (try simp only [pk, elemB, St.put, St.ev, St.tmp, St.keep, find, dropT, slots, AV.put, AV.loc, fitI, convI, IntKind.signed, IntKind.bits, strip, St.lose, mergeL, setAll, nth, renB, ren, idx?, sub, allP, low, bnd, Int.reduceEq, Nat.reduceAdd, Nat.reduceLT, reduceIte, reduceCtorEq, Nat.reduceEqDiff, Nat.reduceLeDiff, Nat.reduceBEq, Int.reducePow, Int.reduceToNat, ti24_t, ti24_z, ti5_t, ti5_z]); rfl) : Rel P w0 N nt s2 a w := h ▸ H
theorem nt_Put {P : Program} {w0 w : World} {N gS : Gh} {nt : Nat} {q q2 st s2 : St} {a : Act} (H : RelT P w0 N nt gS q st a w) (h1 : q = q2 := by (try simp only [pk, elemB, St.put, St.ev, St.tmp, St.keep, find, dropT, slots, AV.put, AV.loc, fitI, convI, IntKind.signed, IntKind.bits, strip, St.lose, mergeL, setAll, nth, renB, ren, idx?, sub, allP, low, bnd, Int.reduceEq, Nat.reduceAdd, Nat.reduceLT, reduceIte, reduceCtorEq, Nat.reduceEqDiff, Nat.reduceLeDiff, Nat.reduceBEq, Int.reducePow, Int.reduceToNat, ti24_t, ti24_z, ti5_t, ti5_z]); rfl) (h : st = s2 := by (try simp only [pk, elemB, St.put, St.ev, St.tmp, St.keep, find, dropT, slots, AV.put, AV.loc, fitI, convI, IntKind.signed, IntKind.bits, strip, St.lose, mergeL, setAll, nth, renB, ren, idx?, sub, allP, low, bnd, Int.reduceEq, Nat.reduceAdd, Nat.reduceLT, reduceIte, reduceCtorEq, Nat.reduceEqDiff, Nat.reduceLeDiff, Nat.reduceBEq, Int.reducePow, Int.reduceToNat, ti24_t, ti24_z, ti5_t, ti5_z]); rfl) : RelT P w0 N nt gS q2 s2 a w := h1 ▸ h ▸ H
theorem ct_Put {c : Prop} (h : c := by ((try simp only [pk, elemB, St.put, St.ev, St.tmp, St.keep, find, dropT, slots, AV.put, AV.loc, fitI, convI, IntKind.signed, IntKind.bits, strip, St.lose, mergeL, setAll, nth, renB, ren, idx?, sub, allP, low, bnd, Int.reduceEq, Nat.reduceAdd, Nat.reduceLT, reduceIte, reduceCtorEq, Nat.reduceEqDiff, Nat.reduceLeDiff, Nat.reduceBEq, Int.reducePow, Int.reduceToNat, ti24_t, ti24_z, ti5_t, ti5_z, ti24, ti5, fit, gcond, ilo, ihi]); first | done | exact cd | exact cd2 | skip)) : c := h
def be4n (x : Nat) : List UInt8 := [UInt8.ofNat (x / 16777216), UInt8.ofNat (x / 65536), UInt8.ofNat (x / 256), UInt8.ofNat x]
set_option maxRecDepth 20000 in
theorem put32_v (x : Nat) (hx : x < 4294967296) : VC Try.prog 59 [.v (.int .i64 (x : Int))] [(5, 4)] (.tup [.bs (be4n x) (some 0), .v (.int .i64 0)]) := by
  refine v_enter Try.func59 rfl (by kernel_rfl) (by show 1 ≤ 22; decide) ?_
  intro N w0 a w hN hR H
  repeat (first | refine wp_seq ?_ | refine wp_block ?_ | refine wp_skip ?_ | refine wp_exit ?_ | ((first | refine v_some 5 tab_ok hN H (by rfl) ct_Put ?_ | refine v_more tab_ok hN H (by rfl) (by rfl) ct_Put ?_); clear H; intro a w H; replace H := nf_Put H; (try simp only [List.drop_succ_cons, List.drop_zero, List.drop_nil]); try refine wpList_nil ?_) | refine wp_region_lit ?_)
  refine v_cond H (by rfl) (fun hb => ?_) (fun hb => ?_)
  · simp at hb; omega
  repeat (first | refine wp_seq ?_ | refine wp_block ?_ | refine wp_skip ?_ | refine wp_exit ?_ | ((first | refine v_some 5 tab_ok hN H (by rfl) ct_Put ?_ | refine v_more tab_ok hN H (by rfl) (by rfl) ct_Put ?_); clear H; intro a w H; replace H := nf_Put H; (try simp only [List.drop_succ_cons, List.drop_zero, List.drop_nil]); try refine wpList_nil ?_) | refine wp_region_lit ?_)
  have e1 := u8n x 16777216; have e2 := u8n x 65536; have e3 := u8n x 256; have e4 := u8m x
  simp only [Int.cast_ofNat_Int] at e1 e2 e3
  rw [e1, e2, e3, e4] at H
  refine wp_ret ?_
  exact v_end [] [0] tab_ok ⟨hN, hR⟩ (rs := [.tmp 2, .tmp 3]) (ress := [_, _]) rfl H (by rfl) (by rfl) cb cw ca rfl

theorem be4n_len (x : Nat) : (be4n x).length = 4 := rfl
/-- The state after a text. -/
structure Good (l : List UInt8) (s : S8) (b : List UInt8) (n : Nat) : Prop where
  bl : b.length = 64
  nn : n = l.length % 64
  ss : s = steps h0 (l.length / 64) l
  bb : b.take n = l.drop (64 * (l.length / 64))
theorem Good.lt {l : List UInt8} {s : S8} {b : List UInt8} {n : Nat} (h : Good l s b n) : n < 64 := by rw [h.nn]; exact Nat.mod_lt _ (by decide)
theorem good_nil : Good [] h0 (List.replicate 64 0) 0 := ⟨by simp, rfl, by simp [steps_zero], rfl⟩
theorem feed_good : ∀ (f : Nat) (m l : List UInt8) (s : S8) (b : List UInt8) (n : Nat), m.length ≤ f → Good l s b n → Good (l ++ m) (feed f s b n m).1 (feed f s b n m).2.1 (feed f s b n m).2.2
  | 0, m, l, s, b, n, hm, h => by
    have : m = [] := List.length_eq_zero_iff.1 (by omega)
    subst this; simpa [feed] using h
  | f + 1, m, l, s, b, n, hm, h => by
    have hlt := h.lt
    by_cases hz : m = []
    · subst hz; rw [feed, if_pos rfl]; simpa using h
    · have hm0 : 0 < m.length := List.length_pos_iff.2 hz
      rw [feed, if_neg hz]
      dsimp only
      obtain ⟨k, hk⟩ : ∃ k, k = (m.take (64 - n)).length := ⟨_, rfl⟩
      rw [← hk]
      rw [List.length_take] at hk
      have hkm : m.take (64 - n) = m.take k := by
        rw [hk]
        rcases Nat.le_total (64 - n) m.length with h1 | h1
        · rw [Nat.min_eq_left h1]
        · rw [Nat.min_eq_right h1, List.take_length, List.take_of_length_le h1]
      rw [hkm]
      have hbl := h.bl
      have hlb : (b.take n ++ m.take k ++ b.drop (n + k)).length = 64 := by simp only [List.length_append, List.length_take, List.length_drop]; omega
      have hdl : (m.drop k).length ≤ f := by rw [List.length_drop]; omega
      have hn := h.nn
      have hll : (l ++ m.take k).length = l.length + k := by rw [List.length_append, List.length_take]; omega
      have hsplit : l ++ m = (l ++ m.take k) ++ m.drop k := by rw [List.append_assoc, List.take_append_drop]
      have htk : (b.take n ++ m.take k ++ b.drop (n + k)).take (n + k) = b.take n ++ m.take k := by
        rw [List.take_append_of_le_length (by simp only [List.length_append, List.length_take]; omega), List.take_of_length_le (by simp only [List.length_append, List.length_take]; omega)]
      have hdr : (l ++ m.take k).drop (64 * (l.length / 64)) = b.take n ++ m.take k := by
        rw [List.drop_append_of_le_length (by omega), h.bb]
      by_cases he : n + k = 64
      · rw [if_pos he, hsplit]
        refine feed_good f (m.drop k) (l ++ m.take k) _ _ 0 hdl ⟨hlb, by rw [hll]; omega, ?_, ?_⟩
        · have hq : (l ++ m.take k).length / 64 = l.length / 64 + 1 := by rw [hll]; omega
          have e1 : (b.take n ++ m.take k).take 64 = b.take n ++ m.take k := List.take_of_length_le (by simp only [List.length_append, List.length_take]; omega)
          rw [hq, steps_next, steps_append _ _ _ _ (by omega), ← h.ss, hdr, e1, he, List.drop_of_length_le (by omega), List.append_nil]
        · have : 64 * ((l ++ m.take k).length / 64) = (l ++ m.take k).length := by rw [hll]; omega
          rw [this, List.drop_length]; rfl
      · rw [if_neg he, hsplit]
        have hnk : n + k < 64 := by omega
        have hq : (l ++ m.take k).length / 64 = l.length / 64 := by rw [hll]; omega
        refine feed_good f (m.drop k) (l ++ m.take k) _ _ (n + k) hdl ⟨hlb, by rw [hll]; omega, ?_, ?_⟩
        · rw [hq, steps_append _ _ _ _ (by omega)]; exact h.ss
        · rw [hq, htk, hdr]
/-- A write, by texts. -/
theorem write_g (l m : List UInt8) (s : S8) (b : List UInt8) (n : Nat) (h : Good l s b n) (hl : m.length ≤ 34359738368) (all : Nat) (ha : all ≤ 34359738368) :
    ∃ s' b' n', Good (l ++ m) s' b' n' ∧ VX Try.prog 33 [(ti105.ty, shv s b n all)] [] [] [.ptr 0 [], .bs m none]
      [(ti105.ty, shv s' b' n' (all + m.length))] [] [] (.v (.int .i64 (m.length : Int))) :=
  ⟨_, _, _, feed_good m.length m l s b n (Nat.le_refl _) h, write_v s b n all m h.bl h.lt hl ha⟩
end Go.Proofs.Ytlagngkafllbiaa
