/- Proofs as bytes: what may be, how it is told. -/
import Derived.Test.YtlagngkafllbiaaCmp2
import Derived.Test.YtlagngkafllbiaaBits
import Derived.Test.YtlagngkafllbiaaSee
import Derived.Test.YtlagngkafllbiaaNode2
import Derived.Test.YtlagngkafllbiaaTagOf
set_option linter.unusedSimpArgs false
set_option linter.unusedVariables false
namespace Go.Proofs.Ytlagngkafllbiaa
open Go Go.RowKit
/-- The state made plain. -/
theorem nf_Pack {P : Program} {w0 w : World} {N : Gh} {nt : Nat} {st s2 : St} {a : Act} (H : Rel P w0 N nt st a w) (h : st = s2 := by (try simp only [pk, elemB, St.put, St.ev, St.tmp, St.keep, find, dropT, slots, AV.put, AV.loc, fitI, convI, IntKind.signed, IntKind.bits, strip, St.lose, mergeL, setAll, nth, renB, ren, idx?, sub, allP, low, bnd, Int.reduceEq, Nat.reduceAdd, Nat.reduceLT, reduceIte, reduceCtorEq, Nat.reduceEqDiff, Nat.reduceLeDiff, Nat.reduceBEq, Int.reducePow, Int.reduceToNat, ti24_t, ti24_z, ti5_t, ti5_z, ti30_t, ti30_z, ti62_t, ti62_z, ti64_t, ti64_z, ti41_t, ti41_z, ti26_t, ti26_z]); rfl) : Rel P w0 N nt s2 a w := h ▸ H
theorem nt_Pack {P : Program} {w0 w : World} {N gS : Gh} {nt : Nat} {q q2 st s2 : St} {a : Act} (H : RelT P w0 N nt gS q st a w) (h1 : q = q2 := by (try simp only [pk, elemB, St.put, St.ev, St.tmp, St.keep, find, dropT, slots, AV.put, AV.loc, fitI, convI, IntKind.signed, IntKind.bits, strip, St.lose, mergeL, setAll, nth, renB, ren, idx?, sub, allP, low, bnd, Int.reduceEq, Nat.reduceAdd, Nat.reduceLT, reduceIte, reduceCtorEq, Nat.reduceEqDiff, Nat.reduceLeDiff, Nat.reduceBEq, Int.reducePow, Int.reduceToNat, ti24_t, ti24_z, ti5_t, ti5_z, ti30_t, ti30_z, ti62_t, ti62_z, ti64_t, ti64_z, ti41_t, ti41_z, ti26_t, ti26_z]); rfl) (h : st = s2 := by (try simp only [pk, elemB, St.put, St.ev, St.tmp, St.keep, find, dropT, slots, AV.put, AV.loc, fitI, convI, IntKind.signed, IntKind.bits, strip, St.lose, mergeL, setAll, nth, renB, ren, idx?, sub, allP, low, bnd, Int.reduceEq, Nat.reduceAdd, Nat.reduceLT, reduceIte, reduceCtorEq, Nat.reduceEqDiff, Nat.reduceLeDiff, Nat.reduceBEq, Int.reducePow, Int.reduceToNat, ti24_t, ti24_z, ti5_t, ti5_z, ti30_t, ti30_z, ti62_t, ti62_z, ti64_t, ti64_z, ti41_t, ti41_z, ti26_t, ti26_z]); rfl) : RelT P w0 N nt gS q2 s2 a w := h1 ▸ h ▸ H
theorem ct_Pack {c : Prop} (h : c := by ((try simp only [pk, elemB, St.put, St.ev, St.tmp, St.keep, find, dropT, slots, AV.put, AV.loc, fitI, convI, IntKind.signed, IntKind.bits, strip, St.lose, mergeL, setAll, nth, renB, ren, idx?, sub, allP, low, bnd, Int.reduceEq, Nat.reduceAdd, Nat.reduceLT, reduceIte, reduceCtorEq, Nat.reduceEqDiff, Nat.reduceLeDiff, Nat.reduceBEq, Int.reducePow, Int.reduceToNat, ti24_t, ti24_z, ti5_t, ti5_z, ti30_t, ti30_z, ti62_t, ti62_z, ti64_t, ti64_z, ti41_t, ti41_z, ti26_t, ti26_z, ti24, ti5, ti30, ti62, ti64, ti41, ti26, fit, gcond, ilo, ihi]); first | done | exact cd | exact cd2 | skip)) : c := h
structure Pf where
  s : List (List UInt8)
  e : Nd
  deriving DecidableEq
def bas (ls : List (List UInt8)) : List AV := ls.map .ba
theorem bas_len (ls : List (List UInt8)) : (bas ls).length = ls.length := by simp [bas]
theorem bas_get (ls : List (List UInt8)) (k : Nat) (hk : k < ls.length) : (bas ls).getD k .any = .ba ls[k] := by simp [bas, List.getD, hk]
structure Pf.wf (p : Pf) : Prop where
  s : ∀ h ∈ p.s, h.length = 32
  e : p.e.wf
def Pf.av (p : Pf) : AV := .st [.sl (.ba 32) (bas p.s) none, p.e.av]
def Pf.chk (p : Pf) : Int := if 256 < p.s.length then 4 else if p.e.ok ∧ p.e.k ≠ 2 then 0 else 2
set_option maxHeartbeats 1000000 in
theorem pcheck_v (p : Pf) (hw : p.wf) : VC Try.prog 80 [p.av] [] (errv p.chk) := by
  obtain ⟨s, n⟩ := p
  have hsl := bas_len s
  have hc := check_v n hw.e
  obtain ⟨h1, h2, h3, h4⟩ := id hw.e
  have hk2 : ((n.k.toNat : Int) = 2) ↔ n.k = 2 := ⟨fun h => UInt8.toNat_inj.1 (by simp; omega), fun h => by rw [h]; rfl⟩
  dsimp only at hc h1 h2 h3 h4 hk2
  refine v_enter Try.func80 rfl (by kernel_rfl) (by show 1 ≤ 19; decide) ?_
  intro N w0 a w hN hR H
  simp only [Pf.av, Nd.av] at H hc
  repeat (first | refine wp_seq ?_ | refine wp_block ?_ | refine wp_skip ?_ | refine wp_exit ?_ | ((first | refine v_some 5 tab_ok hN H (by rfl) ct_Pack ?_ | refine v_more tab_ok hN H (by rfl) (by rfl) ct_Pack ?_); clear H; intro a w H; replace H := nf_Pack H; (try simp only [List.drop_succ_cons, List.drop_zero, List.drop_nil]); try refine wpList_nil ?_) | refine wp_region_lit ?_)
  refine v_cond H (by rfl) (fun hb => ?_) (fun hb => ?_)
  · have hb : 256 < s.length := by simp at hb; omega
    simp only [Pf.chk, if_pos hb]
    repeat (first | refine wp_seq ?_ | refine wp_block ?_ | refine wp_skip ?_ | refine wp_exit ?_ | ((first | refine v_some 5 tab_ok hN H (by rfl) ct_Pack ?_ | refine v_more tab_ok hN H (by rfl) (by rfl) ct_Pack ?_); clear H; intro a w H; replace H := nf_Pack H; (try simp only [List.drop_succ_cons, List.drop_zero, List.drop_nil]); try refine wpList_nil ?_) | refine wp_region_lit ?_)
    refine wp_ret ?_
    exact v_end [] [] tab_ok ⟨hN, hR⟩ (rs := [.tmp 2]) (ress := [_]) rfl H (by rfl) (by rfl) cb cw ca rfl
  · have hb : ¬ 256 < s.length := by simp at hb; omega
    simp only [Pf.chk, if_neg hb]
    by_cases ho : n.ok
    · rw [if_pos ho] at hc
      repeat (first | refine wp_seq ?_ | refine wp_block ?_ | refine wp_skip ?_ | refine wp_exit ?_ | ((first | refine v_some 5 tab_ok hN H (by rfl) ct_Pack ?_ | refine v_more tab_ok hN H (by rfl) (by rfl) ct_Pack ?_); clear H; intro a w H; replace H := nf_Pack H; (try simp only [List.drop_succ_cons, List.drop_zero, List.drop_nil]); try refine wpList_nil ?_) | refine wp_region_lit ?_)
      refine v_call [] [] (hc) H rfl rfl (by rfl) cb cw ca ?_; clear H; intro a w H; replace H := nf_Pack H; try refine wpList_nil ?_
      repeat (first | refine wp_seq ?_ | refine wp_block ?_ | refine wp_skip ?_ | refine wp_exit ?_ | ((first | refine v_some 5 tab_ok hN H (by rfl) ct_Pack ?_ | refine v_more tab_ok hN H (by rfl) (by rfl) ct_Pack ?_); clear H; intro a w H; replace H := nf_Pack H; (try simp only [List.drop_succ_cons, List.drop_zero, List.drop_nil]); try refine wpList_nil ?_) | refine wp_region_lit ?_)
      refine v_cond H (by rfl) (fun hb => ?_) (fun hb => ?_)
      · have hb : n.k = 2 := hk2.1 (by simpa using hb)
        rw [if_neg (fun h => h.2 hb)]
        repeat (first | refine wp_seq ?_ | refine wp_block ?_ | refine wp_skip ?_ | refine wp_exit ?_ | ((first | refine v_some 5 tab_ok hN H (by rfl) ct_Pack ?_ | refine v_more tab_ok hN H (by rfl) (by rfl) ct_Pack ?_); clear H; intro a w H; replace H := nf_Pack H; (try simp only [List.drop_succ_cons, List.drop_zero, List.drop_nil]); try refine wpList_nil ?_) | refine wp_region_lit ?_)
        refine wp_ret ?_
        exact v_end [] [] tab_ok ⟨hN, hR⟩ (rs := [.tmp 2]) (ress := [_]) rfl H (by rfl) (by rfl) cb cw ca rfl
      · have hb : ¬ n.k = 2 := fun e => by rw [hk2.2 e] at hb; simp at hb
        rw [if_pos ⟨ho, hb⟩]
        repeat (first | refine wp_seq ?_ | refine wp_block ?_ | refine wp_skip ?_ | refine wp_exit ?_ | ((first | refine v_some 5 tab_ok hN H (by rfl) ct_Pack ?_ | refine v_more tab_ok hN H (by rfl) (by rfl) ct_Pack ?_); clear H; intro a w H; replace H := nf_Pack H; (try simp only [List.drop_succ_cons, List.drop_zero, List.drop_nil]); try refine wpList_nil ?_) | refine wp_region_lit ?_)
        refine wp_ret ?_
        exact v_end [] [] tab_ok ⟨hN, hR⟩ (rs := [.tmp 2]) (ress := [_]) rfl H (by rfl) (by rfl) cb cw ca rfl
    · rw [if_neg ho] at hc
      repeat (first | refine wp_seq ?_ | refine wp_block ?_ | refine wp_skip ?_ | refine wp_exit ?_ | ((first | refine v_some 5 tab_ok hN H (by rfl) ct_Pack ?_ | refine v_more tab_ok hN H (by rfl) (by rfl) ct_Pack ?_); clear H; intro a w H; replace H := nf_Pack H; (try simp only [List.drop_succ_cons, List.drop_zero, List.drop_nil]); try refine wpList_nil ?_) | refine wp_region_lit ?_)
      refine v_call [] [] (hc) H rfl rfl (by rfl) cb cw ca ?_; clear H; intro a w H; replace H := nf_Pack H; try refine wpList_nil ?_
      repeat (first | refine wp_seq ?_ | refine wp_block ?_ | refine wp_skip ?_ | refine wp_exit ?_ | ((first | refine v_some 5 tab_ok hN H (by rfl) ct_Pack ?_ | refine v_more tab_ok hN H (by rfl) (by rfl) ct_Pack ?_); clear H; intro a w H; replace H := nf_Pack H; (try simp only [List.drop_succ_cons, List.drop_zero, List.drop_nil]); try refine wpList_nil ?_) | refine wp_region_lit ?_)
      refine v_cond H (by rfl) (fun hb => ?_) (fun hb => ?_)
      · rw [if_neg (fun h => ho h.1)]
        repeat (first | refine wp_seq ?_ | refine wp_block ?_ | refine wp_skip ?_ | refine wp_exit ?_ | ((first | refine v_some 5 tab_ok hN H (by rfl) ct_Pack ?_ | refine v_more tab_ok hN H (by rfl) (by rfl) ct_Pack ?_); clear H; intro a w H; replace H := nf_Pack H; (try simp only [List.drop_succ_cons, List.drop_zero, List.drop_nil]); try refine wpList_nil ?_) | refine wp_region_lit ?_)
        refine wp_ret ?_
        exact v_end [] [] tab_ok ⟨hN, hR⟩ (rs := [.tmp 2]) (ress := [_]) rfl H (by rfl) (by rfl) cb cw ca rfl
      · simp at hb
/-- The digest of nothing. -/
def E0 : List UInt8 := sum [0]
def hidesB (s : List (List UInt8)) (t : Nat) : Bool := match s[t]? with | some h => h != E0 | none => false
def Pf.bits (p : Pf) : List UInt8 := bitsB p.s.length (hidesB p.s)
def hashes (s : List (List UInt8)) : List UInt8 := (s.filter (· != E0)).flatten
def Pf.text (p : Pf) : List UInt8 := [UInt8.ofNat (p.s.length / 256), UInt8.ofNat p.s.length] ++ (p.bits ++ (hashes p.s ++ p.e.text))
theorem hashes_len : ∀ (s : List (List UInt8)), (∀ h ∈ s, h.length = 32) → (hashes s).length ≤ 32 * s.length
  | [], _ => by simp [hashes]
  | h :: s, hs => by
    have ih := hashes_len s fun x hx => hs x (List.mem_cons_of_mem _ hx)
    have h1 := hs h List.mem_cons_self
    unfold hashes at ih ⊢
    rw [List.filter_cons]
    split
    · simp only [List.flatten_cons, List.length_append, List.length_cons]; omega
    · simp only [List.length_cons]; omega
theorem hides_end (s : List (List UInt8)) : (bitsB s.length fun t => decide (t < s.length) && hidesB s t) = bitsB s.length (hidesB s) := by
  congr 1; funext t
  by_cases h : t < s.length
  · simp [h]
  · have : s[t]? = none := List.getElem?_eq_none (by omega)
    simp [h, hidesB, this]
theorem encodeP_ok (p : Pf) (hw : p.wf) (h : p.chk = 0) : VC Try.prog 50 [p.av] [(5, p.text.length)] (.tup [.bs p.text (some 0), errv 0]) := by
  obtain ⟨s, n⟩ := p
  have hsl := bas_len s
  have hc := pcheck_v ⟨s, n⟩ hw
  rw [h] at hc
  have hle : s.length ≤ 256 := by
    have := h
    simp only [Pf.chk] at this
    split at this
    · cases this
    · omega
  have hok : n.ok := by
    have := h
    simp only [Pf.chk] at this
    split at this
    · cases this
    · split at this
      · rename_i h1; exact h1.1
      · cases this
  have hen := encode_ok n hw.e hok
  obtain ⟨h1, h2, h3, h4⟩ := id hw.e
  have hsum := sum_length [0]
  dsimp only at h1 h2 h3 h4
  refine v_enter Try.func50 rfl (by kernel_rfl) (by show 1 ≤ 70; decide) ?_
  intro N w0 a w hN hR H
  simp only [Pf.av, Nd.av] at H hc hen
  repeat (first | refine wp_seq ?_ | refine wp_block ?_ | refine wp_skip ?_ | refine wp_exit ?_ | ((first | refine v_some 5 tab_ok hN H (by rfl) ct_Pack ?_ | refine v_more tab_ok hN H (by rfl) (by rfl) ct_Pack ?_); clear H; intro a w H; replace H := nf_Pack H; (try simp only [List.drop_succ_cons, List.drop_zero, List.drop_nil]); try refine wpList_nil ?_) | refine wp_region_lit ?_)
  refine v_call [] [] (hc) H rfl rfl (by rfl) cb cw ca ?_; clear H; intro a w H; replace H := nf_Pack H; try refine wpList_nil ?_
  repeat (first | refine wp_seq ?_ | refine wp_block ?_ | refine wp_skip ?_ | refine wp_exit ?_ | ((first | refine v_some 5 tab_ok hN H (by rfl) ct_Pack ?_ | refine v_more tab_ok hN H (by rfl) (by rfl) ct_Pack ?_); clear H; intro a w H; replace H := nf_Pack H; (try simp only [List.drop_succ_cons, List.drop_zero, List.drop_nil]); try refine wpList_nil ?_) | refine wp_region_lit ?_)
  refine v_cond H (by rfl) (fun hb => ?_) (fun hb => ?_)
  · simp at hb
  · repeat (first | refine wp_seq ?_ | refine wp_block ?_ | refine wp_skip ?_ | refine wp_exit ?_ | ((first | refine v_some 5 tab_ok hN H (by rfl) ct_Pack ?_ | refine v_more tab_ok hN H (by rfl) (by rfl) ct_Pack ?_); clear H; intro a w H; replace H := nf_Pack H; (try simp only [List.drop_succ_cons, List.drop_zero, List.drop_nil]); try refine wpList_nil ?_) | refine wp_region_lit ?_)
    refine v_call [] [] (put16_v s.length (by omega)) H rfl rfl (by rfl) (by simp [pickB, bxs, ren, idx?, sub_refl, sub, allP, hsl] <;> omega) (by first | rfl | (simp [hsl] <;> omega)) (by first | exact trivial | exact ⟨sub_refl _ _, trivial⟩ | exact ⟨sub_refl _ _, sub_refl _ _, trivial⟩ | exact ⟨sub_refl _ _, sub_refl _ _, sub_refl _ _, trivial⟩ | exact ⟨⟨rfl, sub_refl _ _, trivial⟩, sub_refl _ _, trivial⟩ | (simp [cargs, cargsG, St.ev, St.tmp, find, ren, idx?, sub_refl, sub, allP, resv, resC, bss, hsl] <;> omega)) ?_; clear H; intro a w H; replace H := nf_Pack H; first | (simp only [hsl] at H; replace H := nf_Pack H) | skip; try refine wpList_nil ?_
    repeat (first | refine wp_seq ?_ | refine wp_block ?_ | refine wp_skip ?_ | refine wp_exit ?_ | ((first | refine v_some 5 tab_ok hN H (by rfl) (by (try simp only [hsl]); first | done | exact ct_Pack) ?_ | refine v_more tab_ok hN H (by rfl) (by rfl) (by (try simp only [hsl]); first | done | exact ct_Pack) ?_); clear H; intro a w H; replace H := nf_Pack H; first | (simp only [hsl] at H; replace H := nf_Pack H) | skip; (try simp only [List.drop_succ_cons, List.drop_zero, List.drop_nil]); try refine wpList_nil ?_) | refine wp_region_lit ?_)
    refine v_call [] [] (bits_v s.length (by omega)) H rfl rfl (by rfl) (by simp [pickB, bxs, ren, idx?, sub_refl, sub, allP, hsl] <;> omega) (by first | rfl | (simp [hsl] <;> omega)) (by first | exact trivial | exact ⟨sub_refl _ _, trivial⟩ | exact ⟨sub_refl _ _, sub_refl _ _, trivial⟩ | exact ⟨sub_refl _ _, sub_refl _ _, sub_refl _ _, trivial⟩ | exact ⟨⟨rfl, sub_refl _ _, trivial⟩, sub_refl _ _, trivial⟩ | (simp [cargs, cargsG, St.ev, St.tmp, find, ren, idx?, sub_refl, sub, allP, resv, resC, bss, hsl] <;> omega)) ?_; clear H; intro a w H; replace H := nf_Pack H; first | (simp only [hsl] at H; replace H := nf_Pack H) | skip; try refine wpList_nil ?_
    repeat (first | refine wp_seq ?_ | refine wp_block ?_ | refine wp_skip ?_ | refine wp_exit ?_ | ((first | refine v_some 5 tab_ok hN H (by rfl) (by (try simp only [hsl]); first | done | exact ct_Pack) ?_ | refine v_more tab_ok hN H (by rfl) (by rfl) (by (try simp only [hsl]); first | done | exact ct_Pack) ?_); clear H; intro a w H; replace H := nf_Pack H; first | (simp only [hsl] at H; replace H := nf_Pack H) | skip; (try simp only [List.drop_succ_cons, List.drop_zero, List.drop_nil]); try refine wpList_nil ?_) | refine wp_region_lit ?_)
    refine v_call [] [] (empty_v) H rfl rfl (by rfl) (by simp [pickB, bxs, ren, idx?, sub_refl, sub, allP, hsl] <;> omega) (by first | rfl | (simp [hsl] <;> omega)) (by first | exact trivial | exact ⟨sub_refl _ _, trivial⟩ | exact ⟨sub_refl _ _, sub_refl _ _, trivial⟩ | exact ⟨sub_refl _ _, sub_refl _ _, sub_refl _ _, trivial⟩ | exact ⟨⟨rfl, sub_refl _ _, trivial⟩, sub_refl _ _, trivial⟩ | (simp [cargs, cargsG, St.ev, St.tmp, find, ren, idx?, sub_refl, sub, allP, resv, resC, bss, hsl] <;> omega)) ?_; clear H; intro a w H; replace H := nf_Pack H; first | (simp only [hsl] at H; replace H := nf_Pack H) | skip; try refine wpList_nil ?_
    repeat (first | refine wp_seq ?_ | refine wp_block ?_ | refine wp_skip ?_ | refine wp_exit ?_ | ((first | refine v_some 5 tab_ok hN H (by rfl) (by (try simp only [hsl]); first | done | exact ct_Pack) ?_ | refine v_more tab_ok hN H (by rfl) (by rfl) (by (try simp only [hsl]); first | done | exact ct_Pack) ?_); clear H; intro a w H; replace H := nf_Pack H; first | (simp only [hsl] at H; replace H := nf_Pack H) | skip; (try simp only [List.drop_succ_cons, List.drop_zero, List.drop_nil]); try refine wpList_nil ?_) | refine wp_region_lit ?_)
    rw [show List.replicate 0 (0 : UInt8) = [] from rfl] at H
    have eb : List.replicate ((s.length + 7) / 8) (0 : UInt8) = bitsB s.length (fun t => decide (t < 0) && hidesB s t) := bitsB_zero _ _
    rw [eb] at H
    have eE : sum [0] = E0 := rfl
    rw [eE] at H hsum
    replace H := H.keep [1, 2, 3, 5, 7, 8, 9, 36, 35, 34] 3 2 ⟨Nat.le_trans hN (by show _ ≤ 3; decide), Nat.le_trans hR (by show _ ≤ 2; decide)⟩ (by rfl) (by rfl)
    replace H := nf_Pack H; first | (simp only [hsl] at H; replace H := nf_Pack H) | skip
    refine v_loop (fun k : Nat => ⟨[(36, none, .v (.int .i64 (k : Int))), (35, none, .v (.int .i64 (s.length : Int))), (34, none, .sl (.ba 32) (bas s) none), (9, none, .ptr 2 []), (8, none, .bs (hashes (s.take k)) (some 1)), (7, none, .win 1 [] 0 ((s.length + 7) / 8)), (5, none, .bs [UInt8.ofNat (s.length / 256), UInt8.ofNat s.length] (some 0)), (3, none, .v (.int .i64 0)), (2, none, .v (.slice none 0 0)), (1, none, .ptr 0 [])],
      [(ti64.ty, .st [.sl (.ba 32) (bas s) none, .st [.v (B8 n.k), .ba n.key, .ba n.v, .ba n.l, .ba n.r]]), (.ba ((s.length + 7) / 8), .ba (bitsB s.length fun t => decide (t < k) && hidesB s t)), (.ba 32, .ba E0)], [], [(5, 2), (5, (hashes (s.take k)).length)]⟩)
      (fun k => k ≤ s.length) (fun k => s.length - k) 0 (Nat.zero_le _) (H.to 3 2 ⟨Nat.le_trans hN (by decide), Nat.le_trans hR (by decide)⟩ ⟨rfl, rfl, rfl, rfl, rfl, rfl, rfl, rfl, rfl, rfl, trivial⟩ rfl rfl rfl rfl rfl) ?_
    clear H
    intro k a w hk H
    have hbl := bitsB_len s.length (fun t => decide (t < k) && hidesB s t)
    repeat (first | refine wp_seq ?_ | refine wp_block ?_ | refine wp_skip ?_ | refine wp_exit ?_ | ((first | refine v_some 5 tab_ok hN H (by rfl) (by (try simp only [hsl]); first | done | exact ct_Pack) ?_ | refine v_more tab_ok hN H (by rfl) (by rfl) (by (try simp only [hsl]); first | done | exact ct_Pack) ?_); clear H; intro a w H; replace H := nf_Pack H; first | (simp only [hsl] at H; replace H := nf_Pack H) | skip; (try simp only [List.drop_succ_cons, List.drop_zero, List.drop_nil]); try refine wpList_nil ?_) | refine wp_region_lit ?_)
    refine v_cond H (by rfl) (fun hb => ?_) (fun hb => ?_)
    · have hlt : k < s.length := by simpa using hb
      have hg := bas_get s k hlt
      have h32 : s[k].length = 32 := hw.s _ (List.getElem_mem hlt)
      have e8 : ((k : Int) / 8).toNat = k / 8 := by omega
      have e7 : (if ((k : Int) % 8).toNat ≤ 8 then ((k : Int) % 8).toNat else 8) = k % 8 := by split <;> omega
      have hh : hidesB s k = (s[k] != E0) := by unfold hidesB; rw [List.getElem?_eq_getElem hlt]
      have htk : s.take (k + 1) = s.take k ++ [s[k]] := List.take_succ_eq_append_getElem hlt
      have ht32 : s[k].take 32 = s[k] := List.take_of_length_le (by omega)
      have hhl : (hashes (s.take k)).length ≤ 8192 := by
        have := hashes_len (s.take k) fun x hx => hw.s _ (List.mem_of_mem_take hx)
        rw [List.length_take] at this; omega
      repeat (first | refine wp_seq ?_ | refine wp_block ?_ | refine wp_skip ?_ | refine wp_exit ?_ | ((first | refine v_some 5 tab_ok hN H (by rfl) (by (try simp only [hsl, hg, e8, e7, ht32, or_rng0, or_rng1, e8, e7]); first | done | exact ct_Pack) ?_ | refine v_more tab_ok hN H (by rfl) (by rfl) (by (try simp only [hsl, hg, e8, e7, ht32, or_rng0, or_rng1, e8, e7]); first | done | exact ct_Pack) ?_); clear H; intro a w H; replace H := nf_Pack H; first | (simp only [hsl, hg, e8, e7, ht32] at H; replace H := nf_Pack H) | skip; (try simp only [List.drop_succ_cons, List.drop_zero, List.drop_nil]); try refine wpList_nil ?_) | refine wp_region_lit ?_)
      refine v_cond H (by rfl) (fun hb => ?_) (fun hb => ?_)
      · have hne : (s[k] != E0) = true := by simpa using hb
        have hs1 : hashes (s.take (k + 1)) = hashes (s.take k) ++ s[k] := by
          unfold hashes; rw [htk, List.filter_append, List.filter_cons_of_pos (p := (· != E0)) hne, List.filter_nil, List.flatten_append]; simp
        repeat (first | refine wp_seq ?_ | refine wp_block ?_)
        refine v_draw 0 [10] [] (by kernel_rfl) (by kernel_rfl) H (by rfl) (fun gS H => ?_); try replace H := nt_Pack H; first | (simp only [hsl, hg, e8, e7, ht32] at H; replace H := nt_Pack H) | skip
        repeat (refine v_someT 5 tab_ok hN H (by rfl) (by (try simp only [hsl, hg, e8, e7, ht32, or_rng0, or_rng1, e8, e7]); first | done | exact ct_Pack) ?_; clear H; intro a w H; replace H := nt_Pack H; first | (simp only [hsl, hg, e8, e7, ht32] at H; replace H := nt_Pack H) | skip; simp only [List.drop_succ_cons, List.drop_zero, List.drop_nil])
        refine v_moreT tab_ok hN H (by rfl) (by (try simp only [hsl, hg, e8, e7, ht32, or_rng0, or_rng1, e8, e7]); first | done | exact ct_Pack) ?_; clear H; intro a w H; try replace H := nt_Pack H; first | (simp only [hsl, hg, e8, e7, ht32] at H; replace H := nt_Pack H) | skip
        refine v_drawNil H (fun H => ?_)
        rw [bit_step _ _ _ hlt (by rw [hh]; exact hne)] at H
        repeat (first | refine wp_seq ?_ | refine wp_block ?_ | refine wp_skip ?_ | refine wp_exit ?_ | ((first | refine v_some 5 tab_ok hN H (by rfl) (by (try simp only [hsl, hg, e8, e7, ht32, or_rng0, or_rng1, e8, e7]); first | done | exact ct_Pack) ?_ | refine v_more tab_ok hN H (by rfl) (by rfl) (by (try simp only [hsl, hg, e8, e7, ht32, or_rng0, or_rng1, e8, e7]); first | done | exact ct_Pack) ?_); clear H; intro a w H; replace H := nf_Pack H; first | (simp only [hsl, hg, e8, e7, ht32] at H; replace H := nf_Pack H) | skip; (try simp only [List.drop_succ_cons, List.drop_zero, List.drop_nil]); try refine wpList_nil ?_) | refine wp_region_lit ?_)
        replace H := H.keep [1, 2, 3, 5, 7, 8, 9, 36, 35, 34] 3 2 ⟨Nat.le_trans hN (by show _ ≤ 3; decide), Nat.le_trans hR (by show _ ≤ 2; decide)⟩ (by rfl) (by rfl)
        replace H := nf_Pack H; first | (simp only [hsl, hg, e8, e7, ht32] at H; replace H := nf_Pack H) | skip
        have H := v_fz H
        simp only [List.filter_cons, List.filter_nil, List.length_cons, List.length_nil, Nat.reduceAdd, Nat.reduceLT, Nat.lt_irrefl, decide_false, Bool.false_eq_true, reduceIte] at H
        exact ⟨k + 1, hlt, by omega, H.to 3 2 ⟨Nat.le_trans hN (by decide), Nat.le_trans hR (by decide)⟩ ⟨rfl, rfl, rfl, rfl, by rw [hs1]; rfl, rfl, rfl, rfl, rfl, rfl, trivial⟩ rfl (by rw [hs1, List.length_append]; rfl) rfl rfl rfl⟩
      · have hne : (s[k] != E0) = false := by simpa using hb
        have hs1 : hashes (s.take (k + 1)) = hashes (s.take k) := by
          unfold hashes; rw [htk, List.filter_append, List.filter_cons_of_neg (p := (· != E0)) (by rw [hne]; decide), List.filter_nil, List.append_nil]
        repeat (first | refine wp_seq ?_ | refine wp_block ?_ | refine wp_skip ?_ | refine wp_exit ?_ | ((first | refine v_some 5 tab_ok hN H (by rfl) (by (try simp only [hsl, hg, e8, e7, ht32, or_rng0, or_rng1, e8, e7]); first | done | exact ct_Pack) ?_ | refine v_more tab_ok hN H (by rfl) (by rfl) (by (try simp only [hsl, hg, e8, e7, ht32, or_rng0, or_rng1, e8, e7]); first | done | exact ct_Pack) ?_); clear H; intro a w H; replace H := nf_Pack H; first | (simp only [hsl, hg, e8, e7, ht32] at H; replace H := nf_Pack H) | skip; (try simp only [List.drop_succ_cons, List.drop_zero, List.drop_nil]); try refine wpList_nil ?_) | refine wp_region_lit ?_)
        exact ⟨k + 1, hlt, by omega, H.to 3 2 ⟨Nat.le_trans hN (by decide), Nat.le_trans hR (by decide)⟩ ⟨rfl, rfl, rfl, rfl, by rw [hs1]; rfl, rfl, rfl, rfl, rfl, rfl, trivial⟩ (by rw [bit_skip _ _ _ (by rw [hh]; exact hne)]; rfl) (by rw [hs1]; rfl) rfl rfl rfl⟩
    · have hge : k = s.length := by simp at hb; omega
      subst hge
      rw [hides_end, List.take_length] at H
      have hhl : (hashes s).length ≤ 8192 := by
        have := hashes_len s hw.s
        omega
      have htl := text_len hw.e
      dsimp only at htl
      rw [show bitsB s.length (hidesB s) = (Pf.mk s n).bits from rfl] at H
      have hbl : (Pf.mk s n).bits.length = (s.length + 7) / 8 := bitsB_len _ _
      have hfl : ([[UInt8.ofNat (s.length / 256), UInt8.ofNat s.length], (Pf.mk s n).bits, hashes s, n.text] : List (List UInt8)).flatten = (Pf.mk s n).text := by simp [Pf.text]
      have hjl : (Pf.mk s n).text.length ≤ 34359738000 := by rw [← hfl]; simp only [List.flatten_cons, List.flatten_nil, List.length_append, List.length_cons, List.length_nil, hbl]; omega
      have hjo := join_v [[UInt8.ofNat (s.length / 256), UInt8.ofNat s.length], (Pf.mk s n).bits, hashes s, n.text] (by rw [hfl]; omega) (by simp)
      rw [hfl] at hjo
      have hcase : (s.length + 7) / 8 = 0 ∨ 0 < (s.length + 7) / 8 := by omega
      rcases hcase with h0 | h0
      · have hb0 : (Pf.mk s n).bits = [] := List.length_eq_zero_iff.1 (by omega)
        rw [hb0] at hjo
        rw [h0] at H
        have H := v_win0 H 7 1 rfl
        simp only [nilT, reduceIte, Nat.reduceEqDiff] at H
        repeat (first | refine wp_seq ?_ | refine wp_block ?_ | refine wp_skip ?_ | refine wp_exit ?_ | ((first | refine v_some 5 tab_ok hN H (by rfl) (by (try simp only [hsl]); first | done | exact ct_Pack) ?_ | refine v_more tab_ok hN H (by rfl) (by rfl) (by (try simp only [hsl]); first | done | exact ct_Pack) ?_); clear H; intro a w H; replace H := nf_Pack H; first | (simp only [hsl] at H; replace H := nf_Pack H) | skip; (try simp only [List.drop_succ_cons, List.drop_zero, List.drop_nil]); try refine wpList_nil ?_) | refine wp_region_lit ?_)
        refine v_call [] [] (hen) H rfl rfl (by rfl) (by simp [pickB, bxs, ren, idx?, sub_refl, sub, allP, hsl] <;> omega) (by first | rfl | (simp [hsl] <;> omega)) (by first | exact trivial | exact ⟨sub_refl _ _, trivial⟩ | exact ⟨sub_refl _ _, sub_refl _ _, trivial⟩ | exact ⟨sub_refl _ _, sub_refl _ _, sub_refl _ _, trivial⟩ | exact ⟨⟨rfl, sub_refl _ _, trivial⟩, sub_refl _ _, trivial⟩ | (simp [cargs, cargsG, St.ev, St.tmp, find, ren, idx?, sub_refl, sub, allP, resv, resC, bss, hsl] <;> omega)) ?_; clear H; intro a w H; replace H := nf_Pack H; first | (simp only [hsl] at H; replace H := nf_Pack H) | skip; try refine wpList_nil ?_
        repeat (first | refine wp_seq ?_ | refine wp_block ?_ | refine wp_skip ?_ | refine wp_exit ?_ | ((first | refine v_some 5 tab_ok hN H (by rfl) (by (try simp only [hsl]); first | done | exact ct_Pack) ?_ | refine v_more tab_ok hN H (by rfl) (by rfl) (by (try simp only [hsl]); first | done | exact ct_Pack) ?_); clear H; intro a w H; replace H := nf_Pack H; first | (simp only [hsl] at H; replace H := nf_Pack H) | skip; (try simp only [List.drop_succ_cons, List.drop_zero, List.drop_nil]); try refine wpList_nil ?_) | refine wp_region_lit ?_)
        refine v_call [] [] (hjo) H rfl rfl (by rfl) (by simp [pickB, bxs, ren, idx?, sub_refl, sub, allP, hsl] <;> omega) (by first | rfl | (simp [hsl] <;> omega)) (by first | exact trivial | exact ⟨sub_refl _ _, trivial⟩ | exact ⟨sub_refl _ _, sub_refl _ _, trivial⟩ | exact ⟨sub_refl _ _, sub_refl _ _, sub_refl _ _, trivial⟩ | exact ⟨⟨rfl, sub_refl _ _, trivial⟩, sub_refl _ _, trivial⟩ | (simp [cargs, cargsG, St.ev, St.tmp, find, ren, idx?, sub_refl, sub, allP, resv, resC, bss, hsl] <;> omega)) ?_; clear H; intro a w H; replace H := nf_Pack H; first | (simp only [hsl] at H; replace H := nf_Pack H) | skip; try refine wpList_nil ?_
        repeat (first | refine wp_seq ?_ | refine wp_block ?_ | refine wp_skip ?_ | refine wp_exit ?_ | ((first | refine v_some 5 tab_ok hN H (by rfl) (by (try simp only [hsl]); first | done | exact ct_Pack) ?_ | refine v_more tab_ok hN H (by rfl) (by rfl) (by (try simp only [hsl]); first | done | exact ct_Pack) ?_); clear H; intro a w H; replace H := nf_Pack H; first | (simp only [hsl] at H; replace H := nf_Pack H) | skip; (try simp only [List.drop_succ_cons, List.drop_zero, List.drop_nil]); try refine wpList_nil ?_) | refine wp_region_lit ?_)
        refine wp_ret ?_
        exact v_end [] [4] tab_ok ⟨hN, hR⟩ (rs := [.tmp 2, .tmp 3]) (ress := [_, _]) rfl H (by rfl) (by rfl) (by simp [pickB, bxs, ren, idx?, sub_refl, sub, allP, hsl] <;> omega) (by first | rfl | (simp [hsl] <;> omega)) (by first | exact trivial | exact ⟨sub_refl _ _, trivial⟩ | exact ⟨sub_refl _ _, sub_refl _ _, trivial⟩ | exact ⟨sub_refl _ _, sub_refl _ _, sub_refl _ _, trivial⟩ | exact ⟨⟨rfl, sub_refl _ _, trivial⟩, sub_refl _ _, trivial⟩ | (simp [cargs, cargsG, St.ev, St.tmp, find, ren, idx?, sub_refl, sub, allP, resv, resC, bss, hsl] <;> omega)) rfl
      · have H := v_bc H 7 1 (Nat.le_trans hN (by decide)) rfl h0 rfl
        have htk : (Pf.mk s n).bits.take ((s.length + 7) / 8) = (Pf.mk s n).bits := List.take_of_length_le (by omega)
        simp only [nilT, reduceIte, Nat.reduceEqDiff] at H
        have H := v_sub H 7 (x := .bc (Pf.mk s n).bits ((s.length + 7) / 8) (some 1)) (y := .bs (Pf.mk s n).bits none) (by simp only [sub]; exact htk) rfl (fun _ e => by cases e) rfl
        simp only [nilT, reduceIte, Nat.reduceEqDiff] at H
        repeat (first | refine wp_seq ?_ | refine wp_block ?_ | refine wp_skip ?_ | refine wp_exit ?_ | ((first | refine v_some 5 tab_ok hN H (by rfl) (by (try simp only [hsl]); first | done | exact ct_Pack) ?_ | refine v_more tab_ok hN H (by rfl) (by rfl) (by (try simp only [hsl]); first | done | exact ct_Pack) ?_); clear H; intro a w H; replace H := nf_Pack H; first | (simp only [hsl] at H; replace H := nf_Pack H) | skip; (try simp only [List.drop_succ_cons, List.drop_zero, List.drop_nil]); try refine wpList_nil ?_) | refine wp_region_lit ?_)
        refine v_call [] [] (hen) H rfl rfl (by rfl) (by simp [pickB, bxs, ren, idx?, sub_refl, sub, allP, hsl] <;> omega) (by first | rfl | (simp [hsl] <;> omega)) (by first | exact trivial | exact ⟨sub_refl _ _, trivial⟩ | exact ⟨sub_refl _ _, sub_refl _ _, trivial⟩ | exact ⟨sub_refl _ _, sub_refl _ _, sub_refl _ _, trivial⟩ | exact ⟨⟨rfl, sub_refl _ _, trivial⟩, sub_refl _ _, trivial⟩ | (simp [cargs, cargsG, St.ev, St.tmp, find, ren, idx?, sub_refl, sub, allP, resv, resC, bss, hsl] <;> omega)) ?_; clear H; intro a w H; replace H := nf_Pack H; first | (simp only [hsl] at H; replace H := nf_Pack H) | skip; try refine wpList_nil ?_
        repeat (first | refine wp_seq ?_ | refine wp_block ?_ | refine wp_skip ?_ | refine wp_exit ?_ | ((first | refine v_some 5 tab_ok hN H (by rfl) (by (try simp only [hsl]); first | done | exact ct_Pack) ?_ | refine v_more tab_ok hN H (by rfl) (by rfl) (by (try simp only [hsl]); first | done | exact ct_Pack) ?_); clear H; intro a w H; replace H := nf_Pack H; first | (simp only [hsl] at H; replace H := nf_Pack H) | skip; (try simp only [List.drop_succ_cons, List.drop_zero, List.drop_nil]); try refine wpList_nil ?_) | refine wp_region_lit ?_)
        refine v_call [] [] (hjo) H rfl rfl (by rfl) (by simp [pickB, bxs, ren, idx?, sub_refl, sub, allP, hsl] <;> omega) (by first | rfl | (simp [hsl] <;> omega)) (by first | exact trivial | exact ⟨sub_refl _ _, trivial⟩ | exact ⟨sub_refl _ _, sub_refl _ _, trivial⟩ | exact ⟨sub_refl _ _, sub_refl _ _, sub_refl _ _, trivial⟩ | exact ⟨⟨rfl, sub_refl _ _, trivial⟩, sub_refl _ _, trivial⟩ | (simp [cargs, cargsG, St.ev, St.tmp, find, ren, idx?, sub_refl, sub, allP, resv, resC, bss, hsl] <;> omega)) ?_; clear H; intro a w H; replace H := nf_Pack H; first | (simp only [hsl] at H; replace H := nf_Pack H) | skip; try refine wpList_nil ?_
        repeat (first | refine wp_seq ?_ | refine wp_block ?_ | refine wp_skip ?_ | refine wp_exit ?_ | ((first | refine v_some 5 tab_ok hN H (by rfl) (by (try simp only [hsl]); first | done | exact ct_Pack) ?_ | refine v_more tab_ok hN H (by rfl) (by rfl) (by (try simp only [hsl]); first | done | exact ct_Pack) ?_); clear H; intro a w H; replace H := nf_Pack H; first | (simp only [hsl] at H; replace H := nf_Pack H) | skip; (try simp only [List.drop_succ_cons, List.drop_zero, List.drop_nil]); try refine wpList_nil ?_) | refine wp_region_lit ?_)
        refine wp_ret ?_
        exact v_end [] [4] tab_ok ⟨hN, hR⟩ (rs := [.tmp 2, .tmp 3]) (ress := [_, _]) rfl H (by rfl) (by rfl) (by simp [pickB, bxs, ren, idx?, sub_refl, sub, allP, hsl] <;> omega) (by first | rfl | (simp [hsl] <;> omega)) (by first | exact trivial | exact ⟨sub_refl _ _, trivial⟩ | exact ⟨sub_refl _ _, sub_refl _ _, trivial⟩ | exact ⟨sub_refl _ _, sub_refl _ _, sub_refl _ _, trivial⟩ | exact ⟨⟨rfl, sub_refl _ _, trivial⟩, sub_refl _ _, trivial⟩ | (simp [cargs, cargsG, St.ev, St.tmp, find, ren, idx?, sub_refl, sub, allP, resv, resC, bss, hsl] <;> omega)) rfl
end Go.Proofs.Ytlagngkafllbiaa
