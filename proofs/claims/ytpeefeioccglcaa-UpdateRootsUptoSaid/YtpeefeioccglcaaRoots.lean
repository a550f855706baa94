/- Roots of entries that rise: the program's. -/
import Derived.Test.YtpeefeioccglcaaWay
import Derived.Test.YtpeefeioccglcaaRise
import Derived.Test.YtpeefeioccglcaaPack
set_option linter.unusedSimpArgs false
set_option linter.unusedVariables false
namespace Go.Proofs.Ytpeefeioccglcaa
open Go Go.RowKit
/-- The state made plain. -/
theorem nf_Roots {P : Program} {w0 w : World} {N : Gh} {nt : Nat} {st s2 : St} {a : Act} (H : Rel P w0 N nt st a w) (h : st = s2 := by (try simp only [pk, elemB, St.put, St.ev, St.tmp, St.keep, find, dropT, slots, AV.put, AV.loc, fitI, convI, IntKind.signed, IntKind.bits, strip, St.lose, mergeL, setAll, nth, renB, ren, idx?, sub, allP, low, bnd, Int.reduceEq, Nat.reduceAdd, Nat.reduceLT, reduceIte, reduceCtorEq, Nat.reduceEqDiff, Nat.reduceLeDiff, Nat.reduceBEq, Int.reducePow, Int.reduceToNat, ti22_t, ti22_z, ti5_t, ti5_z, ti51_t, ti51_z, ti50_t, ti50_z, ti75_t, ti75_z, ti76_t, ti76_z]); rfl) : Rel P w0 N nt s2 a w := h ▸ H
theorem nt_Roots {P : Program} {w0 w : World} {N gS : Gh} {nt : Nat} {q q2 st s2 : St} {a : Act} (H : RelT P w0 N nt gS q st a w) (h1 : q = q2 := by (try simp only [pk, elemB, St.put, St.ev, St.tmp, St.keep, find, dropT, slots, AV.put, AV.loc, fitI, convI, IntKind.signed, IntKind.bits, strip, St.lose, mergeL, setAll, nth, renB, ren, idx?, sub, allP, low, bnd, Int.reduceEq, Nat.reduceAdd, Nat.reduceLT, reduceIte, reduceCtorEq, Nat.reduceEqDiff, Nat.reduceLeDiff, Nat.reduceBEq, Int.reducePow, Int.reduceToNat, ti22_t, ti22_z, ti5_t, ti5_z, ti51_t, ti51_z, ti50_t, ti50_z, ti75_t, ti75_z, ti76_t, ti76_z]); rfl) (h : st = s2 := by (try simp only [pk, elemB, St.put, St.ev, St.tmp, St.keep, find, dropT, slots, AV.put, AV.loc, fitI, convI, IntKind.signed, IntKind.bits, strip, St.lose, mergeL, setAll, nth, renB, ren, idx?, sub, allP, low, bnd, Int.reduceEq, Nat.reduceAdd, Nat.reduceLT, reduceIte, reduceCtorEq, Nat.reduceEqDiff, Nat.reduceLeDiff, Nat.reduceBEq, Int.reducePow, Int.reduceToNat, ti22_t, ti22_z, ti5_t, ti5_z, ti51_t, ti51_z, ti50_t, ti50_z, ti75_t, ti75_z, ti76_t, ti76_z]); rfl) : RelT P w0 N nt gS q2 s2 a w := h1 ▸ h ▸ H
theorem ct_Roots {c : Prop} (h : c := by ((try simp only [pk, elemB, St.put, St.ev, St.tmp, St.keep, find, dropT, slots, AV.put, AV.loc, fitI, convI, IntKind.signed, IntKind.bits, strip, St.lose, mergeL, setAll, nth, renB, ren, idx?, sub, allP, low, bnd, Int.reduceEq, Nat.reduceAdd, Nat.reduceLT, reduceIte, reduceCtorEq, Nat.reduceEqDiff, Nat.reduceLeDiff, Nat.reduceBEq, Int.reducePow, Int.reduceToNat, ti22_t, ti22_z, ti5_t, ti5_z, ti51_t, ti51_z, ti50_t, ti50_z, ti75_t, ti75_z, ti76_t, ti76_z, ti22, ti5, ti51, ti50, ti75, ti76, fit, gcond, ilo, ihi]); first | done | exact cd | exact cd2 | skip)) : c := h
def partK (d : Nat) (ks : List (List UInt8)) : Nat := (ks.takeWhile fun x => !bitN x d).length
theorem partK_of (d : Nat) : ∀ (ks : List (List UInt8)) (k : Nat), k ≤ ks.length → (∀ j (h : j < ks.length), j < k → bitN ks[j] d = false) → (∀ h : k < ks.length, bitN ks[k] d = true) → partK d ks = k
  | [], k, hk, _, _ => by simp at hk; subst hk; rfl
  | x :: ks, 0, _, _, h2 => by
    have := h2 (by simp)
    simp only [List.getElem_cons_zero] at this
    simp [partK, List.takeWhile_cons, this]
  | x :: ks, k + 1, hk, h1, h2 => by
    have h0 := h1 0 (by simp) (by omega)
    simp only [List.getElem_cons_zero] at h0
    have ih := partK_of d ks k (by simpa using hk) (fun j h hj => by have := h1 (j + 1) (by simpa using h) (by omega); rwa [List.getElem_cons_succ] at this) (fun h => by have := h2 (by simpa using h); rwa [List.getElem_cons_succ] at this)
    unfold partK at ih ⊢
    simp [List.takeWhile_cons, h0, ih]
theorem partN_K (d : Nat) (l : List En) : partK d (l.map Prod.fst) = partN d l := by
  unfold partK partN
  induction l with
  | nil => rfl
  | cons x l ih => simp only [List.map_cons, List.takeWhile_cons]; cases bitN x.1 d <;> simp [ih]
theorem pbit_zero (p : List UInt8) (d : Nat) (hd : d < 256) : decide (pbit p (d : Int) = 0) = !bitN p d := by
  rw [pbit, if_pos (by omega), Int.toNat_natCast]
  cases bitN p d <;> rfl
set_option maxRecDepth 20000 in
theorem parted_v (ks : List (List UInt8)) (hw : ∀ x ∈ ks, x.length = 32) (d : Nat) (hd : d < 256) (hl : ks.length ≤ 34359730000) : VC Try.prog 162 [.sl (.ba 32) (bas ks) none, .v (.int .i64 (d : Int))] [] (.v (.int .i64 (partK d ks : Int))) := by
  have hxl := bas_len ks
  refine v_enter Try.func162 rfl (by kernel_rfl) (by show 2 ≤ 22; decide) ?_
  intro N w0 a w hN hR H
  repeat (first | refine wp_seq ?_ | refine wp_block ?_ | refine wp_skip ?_ | refine wp_exit ?_ | ((first | refine v_some 5 tab_ok hN H (by rfl) (by (try simp only [hxl]); first | done | exact ct_Roots) ?_ | refine v_more tab_ok hN H (by rfl) (by rfl) (by (try simp only [hxl]); first | done | exact ct_Roots) ?_); clear H; intro a w H; replace H := nf_Roots H; first | (simp only [hxl] at H; replace H := nf_Roots H) | skip; (try simp only [List.drop_succ_cons, List.drop_zero, List.drop_nil]); try refine wpList_nil ?_) | refine wp_region_lit ?_)
  refine v_loop (fun k : Nat => ⟨[(5, none, .v (.int .i64 (k : Int))), (4, none, .v (.int .i64 0)), (0, none, .sl (.ba 32) (bas ks) none), (1, none, .v (.int .i64 (d : Int)))], [], [], []⟩) (fun k => k ≤ ks.length ∧ ∀ j (h : j < ks.length), j < k → bitN ks[j] d = false) (fun k => ks.length - k) 0 ⟨Nat.zero_le _, fun j h hj => by omega⟩ (H.to 0 0 ⟨hN, hR⟩ ⟨rfl, rfl, rfl, rfl, trivial⟩ rfl rfl rfl rfl rfl) ?_
  clear H
  rintro k a w ⟨hk, hall⟩ H
  by_cases hlt : k < ks.length
  · have g1 := bas_get ks k hlt
    have hb1 := bit_v ks[k] (hw _ (List.getElem_mem hlt)) (d : Int)
    have l1 := hw _ (List.getElem_mem hlt)
    repeat (first | refine wp_seq ?_ | refine wp_block ?_ | refine wp_skip ?_ | refine wp_exit ?_)
    (try refine wp_region_lit ?_); refine v_steps 8 tab_ok hN H (by rfl) (by (try simp only [hxl, g1, hxl, g1, l1]); first | done | exact ct_Roots) ?_; clear H; intro a w H; replace H := nf_Roots H; first | (simp only [hxl, g1] at H; replace H := nf_Roots H) | skip
    repeat (first | refine wp_seq ?_ | refine wp_block ?_ | refine wp_skip ?_ | refine wp_exit ?_ | ((first | refine v_some 5 tab_ok hN H (by rfl) (by (try simp only [hxl, g1, hxl, g1, l1]); first | done | exact ct_Roots) ?_ | refine v_more tab_ok hN H (by rfl) (by rfl) (by (try simp only [hxl, g1, hxl, g1, l1]); first | done | exact ct_Roots) ?_); clear H; intro a w H; replace H := nf_Roots H; first | (simp only [hxl, g1] at H; replace H := nf_Roots H) | skip; (try simp only [List.drop_succ_cons, List.drop_zero, List.drop_nil]); try refine wpList_nil ?_) | refine wp_region_lit ?_)
    refine v_callG [] [] (hb1) H (by rfl) rfl (by rfl) (by simp [pickB, bxs, ren, idx?, sub_refl, sub, allP, hxl, g1] <;> omega) (by first | rfl | (simp [hxl, g1] <;> omega)) (by first | exact trivial | exact ⟨sub_refl _ _, trivial⟩ | exact ⟨sub_refl _ _, sub_refl _ _, trivial⟩ | exact ⟨sub_refl _ _, sub_refl _ _, sub_refl _ _, trivial⟩ | exact ⟨⟨rfl, sub_refl _ _, trivial⟩, sub_refl _ _, trivial⟩ | (simp [cargs, cargsG, St.ev, St.tmp, find, ren, idx?, sub_refl, sub, allP, resv, resC, bss, hxl, g1] <;> omega)) (by rfl) (by rfl) (by rfl) ?_; clear H; intro a w H; replace H := nf_Roots H; first | (simp only [hxl, g1] at H; replace H := nf_Roots H) | skip; try refine wpList_nil ?_
    repeat (first | refine wp_seq ?_ | refine wp_block ?_ | refine wp_skip ?_ | refine wp_exit ?_ | ((first | refine v_some 5 tab_ok hN H (by rfl) (by (try simp only [hxl, g1, hxl, g1, l1]); first | done | exact ct_Roots) ?_ | refine v_more tab_ok hN H (by rfl) (by rfl) (by (try simp only [hxl, g1, hxl, g1, l1]); first | done | exact ct_Roots) ?_); clear H; intro a w H; replace H := nf_Roots H; first | (simp only [hxl, g1] at H; replace H := nf_Roots H) | skip; (try simp only [List.drop_succ_cons, List.drop_zero, List.drop_nil]); try refine wpList_nil ?_) | refine wp_region_lit ?_)
    simp only [pbit_zero _ _ hd] at H
    refine v_cond H (by rfl) (fun hb => ?_) (fun hb => ?_)
    · have hbf : bitN ks[k] d = false := by
        cases h : bitN ks[k] d
        · rfl
        · rw [h] at hb; simp at hb
      repeat (first | refine wp_seq ?_ | refine wp_block ?_ | refine wp_skip ?_ | refine wp_exit ?_ | ((first | refine v_some 5 tab_ok hN H (by rfl) (by (try simp only [hxl, g1, hxl, g1, l1]); first | done | exact ct_Roots) ?_ | refine v_more tab_ok hN H (by rfl) (by rfl) (by (try simp only [hxl, g1, hxl, g1, l1]); first | done | exact ct_Roots) ?_); clear H; intro a w H; replace H := nf_Roots H; first | (simp only [hxl, g1] at H; replace H := nf_Roots H) | skip; (try simp only [List.drop_succ_cons, List.drop_zero, List.drop_nil]); try refine wpList_nil ?_) | refine wp_region_lit ?_)
      exact ⟨k + 1, ⟨hlt, fun j h hj => by
        by_cases h1 : j < k
        · exact hall j h h1
        · obtain rfl : j = k := by omega
          exact hbf⟩, by omega, H.to 0 0 ⟨hN, hR⟩ ⟨rfl, rfl, rfl, rfl, trivial⟩ rfl rfl rfl rfl rfl⟩
    · have hbt : bitN ks[k] d = true := by
        cases h : bitN ks[k] d
        · rw [h] at hb; simp [hlt] at hb
        · rfl
      have e := partK_of d ks k hk hall fun _ => hbt
      rw [e]
      repeat (first | refine wp_seq ?_ | refine wp_block ?_ | refine wp_skip ?_ | refine wp_exit ?_ | ((first | refine v_some 5 tab_ok hN H (by rfl) (by (try simp only [hxl, g1, hxl, g1, l1]); first | done | exact ct_Roots) ?_ | refine v_more tab_ok hN H (by rfl) (by rfl) (by (try simp only [hxl, g1, hxl, g1, l1]); first | done | exact ct_Roots) ?_); clear H; intro a w H; replace H := nf_Roots H; first | (simp only [hxl, g1] at H; replace H := nf_Roots H) | skip; (try simp only [List.drop_succ_cons, List.drop_zero, List.drop_nil]); try refine wpList_nil ?_) | refine wp_region_lit ?_)
      refine wp_ret ?_
      exact v_end [] [] tab_ok ⟨hN, hR⟩ (rs := [.tmp 4]) (ress := [_]) rfl H (by rfl) (by rfl) (by simp [pickB, bxs, ren, idx?, sub_refl, sub, allP, hxl, g1] <;> omega) (by first | rfl | (simp [hxl, g1] <;> omega)) (by first | exact trivial | exact ⟨sub_refl _ _, trivial⟩ | exact ⟨sub_refl _ _, sub_refl _ _, trivial⟩ | exact ⟨sub_refl _ _, sub_refl _ _, sub_refl _ _, trivial⟩ | exact ⟨⟨rfl, sub_refl _ _, trivial⟩, sub_refl _ _, trivial⟩ | (simp [cargs, cargsG, St.ev, St.tmp, find, ren, idx?, sub_refl, sub, allP, resv, resC, bss, hxl, g1] <;> omega)) rfl
  · have hge : k = ks.length := by omega
    subst hge
    have e := partK_of d ks ks.length (Nat.le_refl _) hall fun h => absurd h (by omega)
    rw [e]
    repeat (first | refine wp_seq ?_ | refine wp_block ?_ | refine wp_skip ?_ | refine wp_exit ?_)
    (try refine wp_region_lit ?_); refine v_steps 5 tab_ok hN H (by rfl) (by (try simp only [hxl]); first | done | exact ct_Roots) ?_; clear H; intro a w H; replace H := nf_Roots H; first | (simp only [hxl] at H; replace H := nf_Roots H) | skip
    have hdd : (decide ((ks.length : Int) < (ks.length : Int))) = false := by simp
    simp only [hdd] at H
    refine v_skip (.v (.bool false)) H (by rfl) (by rfl) (by rfl) ?_; clear H; intro a w H; try replace H := nf_Roots H; first | (simp only [hxl] at H; replace H := nf_Roots H) | skip
    refine v_skip (.v (.bool false)) H (by rfl) (by rfl) (by rfl) ?_; clear H; intro a w H; try replace H := nf_Roots H; first | (simp only [hxl] at H; replace H := nf_Roots H) | skip
    refine v_skip (.v (.bool false)) H (by rfl) (by rfl) (by rfl) ?_; clear H; intro a w H; try replace H := nf_Roots H; first | (simp only [hxl] at H; replace H := nf_Roots H) | skip
    refine v_skip (.v (.bool false)) H (by rfl) (by rfl) (by rfl) ?_; clear H; intro a w H; try replace H := nf_Roots H; first | (simp only [hxl] at H; replace H := nf_Roots H) | skip
    refine v_skip (.v (.bool false)) H (by rfl) (by rfl) (by rfl) ?_; clear H; intro a w H; try replace H := nf_Roots H; first | (simp only [hxl] at H; replace H := nf_Roots H) | skip
    refine v_skip (.v (.bool false)) H (by rfl) (by rfl) (by rfl) ?_; clear H; intro a w H; try replace H := nf_Roots H; first | (simp only [hxl] at H; replace H := nf_Roots H) | skip
    refine v_skip (.v (.bool false)) H (by rfl) (by rfl) (by rfl) ?_; clear H; intro a w H; try replace H := nf_Roots H; first | (simp only [hxl] at H; replace H := nf_Roots H) | skip
    repeat (first | refine wp_seq ?_ | refine wp_block ?_ | refine wp_skip ?_ | refine wp_exit ?_ | ((first | refine v_some 5 tab_ok hN H (by rfl) (by (try simp only [hxl]); first | done | exact ct_Roots) ?_ | refine v_more tab_ok hN H (by rfl) (by rfl) (by (try simp only [hxl]); first | done | exact ct_Roots) ?_); clear H; intro a w H; replace H := nf_Roots H; first | (simp only [hxl] at H; replace H := nf_Roots H) | skip; (try simp only [List.drop_succ_cons, List.drop_zero, List.drop_nil]); try refine wpList_nil ?_) | refine wp_region_lit ?_)
    refine v_cond H (by rfl) (fun hb => ?_) (fun hb => ?_)
    · simp at hb
    · repeat (first | refine wp_seq ?_ | refine wp_block ?_ | refine wp_skip ?_ | refine wp_exit ?_ | ((first | refine v_some 5 tab_ok hN H (by rfl) (by (try simp only [hxl]); first | done | exact ct_Roots) ?_ | refine v_more tab_ok hN H (by rfl) (by rfl) (by (try simp only [hxl]); first | done | exact ct_Roots) ?_); clear H; intro a w H; replace H := nf_Roots H; first | (simp only [hxl] at H; replace H := nf_Roots H) | skip; (try simp only [List.drop_succ_cons, List.drop_zero, List.drop_nil]); try refine wpList_nil ?_) | refine wp_region_lit ?_)
      refine wp_ret ?_
      exact v_end [] [] tab_ok ⟨hN, hR⟩ (rs := [.tmp 4]) (ress := [_]) rfl H (by rfl) (by rfl) (by simp [pickB, bxs, ren, idx?, sub_refl, sub, allP, hxl] <;> omega) (by first | rfl | (simp [hxl] <;> omega)) (by first | exact trivial | exact ⟨sub_refl _ _, trivial⟩ | exact ⟨sub_refl _ _, sub_refl _ _, trivial⟩ | exact ⟨sub_refl _ _, sub_refl _ _, sub_refl _ _, trivial⟩ | exact ⟨⟨rfl, sub_refl _ _, trivial⟩, sub_refl _ _, trivial⟩ | (simp [cargs, cargsG, St.ev, St.tmp, find, ren, idx?, sub_refl, sub, allP, resv, resC, bss, hxl] <;> omega)) rfl
abbrev ksOf (l : List En) : List AV := bas (l.map Prod.fst)
abbrev vsOf (l : List En) : List AV := bas (l.map Prod.snd)
theorem ks_take (l : List En) (n : Nat) : (ksOf l).take n = ksOf (l.take n) := by simp [ksOf, bas, List.map_take]
theorem ks_drop (l : List En) (n : Nat) : (ksOf l).drop n = ksOf (l.drop n) := by simp [ksOf, bas, List.map_drop]
theorem vs_take (l : List En) (n : Nat) : (vsOf l).take n = vsOf (l.take n) := by simp [vsOf, bas, List.map_take]
theorem vs_drop (l : List En) (n : Nat) : (vsOf l).drop n = vsOf (l.drop n) := by simp [vsOf, bas, List.map_drop]
theorem ks_len (l : List En) : (ksOf l).length = l.length := by simp [ksOf, bas]
theorem vs_len (l : List En) : (vsOf l).length = l.length := by simp [vsOf, bas]
def Wd (l : List En) : Prop := ∀ x ∈ l, x.1.length = 32 ∧ x.2.length = 32
theorem Wd.half {l : List En} (h : Wd l) (b : Bool) (d : Nat) : Wd (half b d l) := fun x hx => h x (half_mem hx)
set_option maxRecDepth 20000 in
theorem rootOf_small (f d : Nat) (l : List En) (hd : d ≤ 256) (hs : l.length < 2) (hw : Wd l) : VC Try.prog 109 [.sl (.ba 32) (ksOf l) none, .sl (.ba 32) (vsOf l) none, .v (.int .i64 (d : Int))] [] (.ba (rootA f d l)) := by
  rw [rootA_small f d l hs]
  match l, hs with
  | [], _ =>
    have hsl := sum_length [0]
    refine v_enter Try.func109 rfl (by kernel_rfl) (by show 3 ≤ 44; decide) ?_
    intro N w0 a w hN hR H
    simp only [ksOf, vsOf, bas, List.map_nil] at H
    repeat (first | refine wp_seq ?_ | refine wp_block ?_ | refine wp_skip ?_ | refine wp_exit ?_ | ((first | refine v_some 5 tab_ok hN H (by rfl) ct_Roots ?_ | refine v_more tab_ok hN H (by rfl) (by rfl) ct_Roots ?_); clear H; intro a w H; replace H := nf_Roots H; (try simp only [List.drop_succ_cons, List.drop_zero, List.drop_nil]); try refine wpList_nil ?_) | refine wp_region_lit ?_)
    refine v_cond H (by rfl) (fun hb => ?_) (fun hb => ?_)
    · repeat (first | refine wp_seq ?_ | refine wp_block ?_ | refine wp_skip ?_ | refine wp_exit ?_ | ((first | refine v_some 5 tab_ok hN H (by rfl) ct_Roots ?_ | refine v_more tab_ok hN H (by rfl) (by rfl) ct_Roots ?_); clear H; intro a w H; replace H := nf_Roots H; (try simp only [List.drop_succ_cons, List.drop_zero, List.drop_nil]); try refine wpList_nil ?_) | refine wp_region_lit ?_)
      refine v_call [] [] (empty_v) H rfl rfl (by rfl) cb cw ca ?_; clear H; intro a w H; replace H := nf_Roots H; try refine wpList_nil ?_
      repeat (first | refine wp_seq ?_ | refine wp_block ?_ | refine wp_skip ?_ | refine wp_exit ?_ | ((first | refine v_some 5 tab_ok hN H (by rfl) ct_Roots ?_ | refine v_more tab_ok hN H (by rfl) (by rfl) ct_Roots ?_); clear H; intro a w H; replace H := nf_Roots H; (try simp only [List.drop_succ_cons, List.drop_zero, List.drop_nil]); try refine wpList_nil ?_) | refine wp_region_lit ?_)
      refine wp_ret ?_
      exact v_end [] [] tab_ok ⟨hN, hR⟩ (rs := [.cell 6 51]) (ress := [_]) rfl H (by rfl) (by rfl) cb cw ca rfl
    · simp at hb
  | [x], _ =>
    obtain ⟨h1, h2⟩ := hw x List.mem_cons_self
    have hlf := leaf_v x.1 x.2 h1 h2
    have hsl := leafH_len x.1 x.2
    refine v_enter Try.func109 rfl (by kernel_rfl) (by show 3 ≤ 44; decide) ?_
    intro N w0 a w hN hR H
    simp only [ksOf, vsOf, bas, List.map_cons, List.map_nil] at H
    repeat (first | refine wp_seq ?_ | refine wp_block ?_ | refine wp_skip ?_ | refine wp_exit ?_ | ((first | refine v_some 5 tab_ok hN H (by rfl) ct_Roots ?_ | refine v_more tab_ok hN H (by rfl) (by rfl) ct_Roots ?_); clear H; intro a w H; replace H := nf_Roots H; (try simp only [List.drop_succ_cons, List.drop_zero, List.drop_nil]); try refine wpList_nil ?_) | refine wp_region_lit ?_)
    refine v_cond H (by rfl) (fun hb => ?_) (fun hb => ?_)
    · simp at hb
    · repeat (first | refine wp_seq ?_ | refine wp_block ?_ | refine wp_skip ?_ | refine wp_exit ?_ | ((first | refine v_some 5 tab_ok hN H (by rfl) ct_Roots ?_ | refine v_more tab_ok hN H (by rfl) (by rfl) ct_Roots ?_); clear H; intro a w H; replace H := nf_Roots H; (try simp only [List.drop_succ_cons, List.drop_zero, List.drop_nil]); try refine wpList_nil ?_) | refine wp_region_lit ?_)
      refine v_cond H (by rfl) (fun hb => ?_) (fun hb => ?_)
      · repeat (first | refine wp_seq ?_ | refine wp_block ?_ | refine wp_skip ?_ | refine wp_exit ?_ | ((first | refine v_some 5 tab_ok hN H (by rfl) ct_Roots ?_ | refine v_more tab_ok hN H (by rfl) (by rfl) ct_Roots ?_); clear H; intro a w H; replace H := nf_Roots H; (try simp only [List.drop_succ_cons, List.drop_zero, List.drop_nil]); try refine wpList_nil ?_) | refine wp_region_lit ?_)
        repeat (first | refine wp_seq ?_ | refine wp_block ?_)
        refine v_draw 0 [6, 7] [] (by kernel_rfl) (by kernel_rfl) H (by rfl) (fun gS H => ?_); try replace H := nt_Roots H
        repeat (refine v_someT 5 tab_ok hN H (by rfl) ct_Roots ?_; clear H; intro a w H; replace H := nt_Roots H; simp only [List.drop_succ_cons, List.drop_zero, List.drop_nil])
        refine v_moreT tab_ok hN H (by rfl) ct_Roots ?_; clear H; intro a w H; try replace H := nt_Roots H
        refine v_callT [] [] (hlf) H (by rfl) (by rfl) rfl rfl (by rfl) cb cw ca ?_; clear H; intro a w H; try replace H := nt_Roots H
        repeat (refine v_someT 5 tab_ok hN H (by rfl) ct_Roots ?_; clear H; intro a w H; replace H := nt_Roots H; simp only [List.drop_succ_cons, List.drop_zero, List.drop_nil])
        refine v_moreT tab_ok hN H (by rfl) ct_Roots ?_; clear H; intro a w H; try replace H := nt_Roots H
        refine v_drawNil H (fun H => ?_)
        refine wp_ret ?_
        exact v_end [] [] tab_ok ⟨hN, hR⟩ (rs := [.cell 6 51]) (ress := [_]) rfl H (by rfl) (by rfl) cb cw ca rfl
      · simp at hb
set_option maxRecDepth 20000 in
theorem rootOf_v : ∀ (f d : Nat) (l : List En), f + d = 256 → Rise d l → Wd l → l.length ≤ 34359730000 →
    VC Try.prog 109 [.sl (.ba 32) (ksOf l) none, .sl (.ba 32) (vsOf l) none, .v (.int .i64 (d : Int))] [] (.ba (rootA f d l)) := by
  intro f
  induction f with
  | zero =>
    intro d l hd hr hw hl
    exact rootOf_small 0 d l (by omega) (hr.sep.deep (by omega)) hw
  | succ f ih =>
    intro d l hd hr hw hl
    by_cases hs : l.length < 2
    · exact rootOf_small _ d l (by omega) hs hw
    · rw [rootA, if_neg hs]
      have hxl := ks_len l
      have hyl := vs_len l
      obtain ⟨e1, e2⟩ := hr.part (by omega)
      have hn := partN_le d l
      have hp := parted_v (l.map Prod.fst) (fun k hk => by obtain ⟨x, hx, rfl⟩ := List.mem_map.1 hk; exact (hw x hx).1) d (by omega) (by rw [List.length_map]; exact hl)
      rw [partN_K] at hp
      have c1 := ih (d + 1) (half false d l) (by omega) (hr.side false) (hw.half false d) (Nat.le_trans (half_le _ _ _) hl)
      have c2 := ih (d + 1) (half true d l) (by omega) (hr.side true) (hw.half true d) (Nat.le_trans (half_le _ _ _) hl)
      have r1 := rootA_len f (d + 1) (half false d l)
      have r2 := rootA_len f (d + 1) (half true d l)
      generalize rootA f (d + 1) (half false d l) = a1 at *
      generalize rootA f (d + 1) (half true d l) = a2 at *
      rw [e1] at c1
      rw [e2] at c2
      generalize partN d l = n at *
      have hin := inner_v a1 a2 r1 r2
      have hsl := innerH_len a1 a2
      clear ih
      refine v_enter Try.func109 rfl (by kernel_rfl) (by show 3 ≤ 44; decide) ?_
      intro N w0 a w hN hR H
      repeat (first | refine wp_seq ?_ | refine wp_block ?_ | refine wp_skip ?_ | refine wp_exit ?_ | ((first | refine v_some 5 tab_ok hN H (by rfl) (by (try simp only [hxl]); first | done | exact ct_Roots) ?_ | refine v_more tab_ok hN H (by rfl) (by rfl) (by (try simp only [hxl]); first | done | exact ct_Roots) ?_); clear H; intro a w H; replace H := nf_Roots H; first | (simp only [hxl] at H; replace H := nf_Roots H) | skip; (try simp only [List.drop_succ_cons, List.drop_zero, List.drop_nil]); try refine wpList_nil ?_) | refine wp_region_lit ?_)
      refine v_cond H (by rfl) (fun hb => ?_) (fun hb => ?_)
      · exfalso; rw [decide_eq_true_eq] at hb; omega
      · repeat (first | refine wp_seq ?_ | refine wp_block ?_ | refine wp_skip ?_ | refine wp_exit ?_ | ((first | refine v_some 5 tab_ok hN H (by rfl) (by (try simp only [hxl]); first | done | exact ct_Roots) ?_ | refine v_more tab_ok hN H (by rfl) (by rfl) (by (try simp only [hxl]); first | done | exact ct_Roots) ?_); clear H; intro a w H; replace H := nf_Roots H; first | (simp only [hxl] at H; replace H := nf_Roots H) | skip; (try simp only [List.drop_succ_cons, List.drop_zero, List.drop_nil]); try refine wpList_nil ?_) | refine wp_region_lit ?_)
        refine v_cond H (by rfl) (fun hb => ?_) (fun hb => ?_)
        · exfalso; rw [decide_eq_true_eq] at hb; omega
        · repeat (first | refine wp_seq ?_ | refine wp_block ?_ | refine wp_skip ?_ | refine wp_exit ?_ | ((first | refine v_some 5 tab_ok hN H (by rfl) (by (try simp only [hxl]); first | done | exact ct_Roots) ?_ | refine v_more tab_ok hN H (by rfl) (by rfl) (by (try simp only [hxl]); first | done | exact ct_Roots) ?_); clear H; intro a w H; replace H := nf_Roots H; first | (simp only [hxl] at H; replace H := nf_Roots H) | skip; (try simp only [List.drop_succ_cons, List.drop_zero, List.drop_nil]); try refine wpList_nil ?_) | refine wp_region_lit ?_)
          refine v_call [] [] (hp) H rfl rfl (by rfl) (by simp [pickB, bxs, ren, idx?, sub_refl, sub, allP, hxl] <;> omega) (by first | rfl | (simp [hxl] <;> omega)) (by first | exact trivial | exact ⟨sub_refl _ _, trivial⟩ | exact ⟨sub_refl _ _, sub_refl _ _, trivial⟩ | exact ⟨sub_refl _ _, sub_refl _ _, sub_refl _ _, trivial⟩ | exact ⟨⟨rfl, sub_refl _ _, trivial⟩, sub_refl _ _, trivial⟩ | (simp [cargs, cargsG, St.ev, St.tmp, find, ren, idx?, sub_refl, sub, allP, resv, resC, bss, hxl] <;> omega)) ?_; clear H; intro a w H; replace H := nf_Roots H; first | (simp only [hxl] at H; replace H := nf_Roots H) | skip; try refine wpList_nil ?_
          repeat (first | refine wp_seq ?_ | refine wp_block ?_ | refine wp_skip ?_ | refine wp_exit ?_ | ((first | refine v_some 5 tab_ok hN H (by rfl) (by (try simp only [hxl]); first | done | exact ct_Roots) ?_ | refine v_more tab_ok hN H (by rfl) (by rfl) (by (try simp only [hxl]); first | done | exact ct_Roots) ?_); clear H; intro a w H; replace H := nf_Roots H; first | (simp only [hxl] at H; replace H := nf_Roots H) | skip; (try simp only [List.drop_succ_cons, List.drop_zero, List.drop_nil]); try refine wpList_nil ?_) | refine wp_region_lit ?_)
          repeat (first | refine wp_seq ?_ | refine wp_block ?_)
          refine v_draw 0 [8, 17, 18, 19] [9, 10, 11, 12, 13, 14, 15, 16] (by kernel_rfl) (by kernel_rfl) H (by rfl) (fun gS H => ?_); try replace H := nt_Roots H; first | (simp only [hxl, hyl, ks_take, ks_drop, vs_take, vs_drop] at H; replace H := nt_Roots H) | skip
          repeat (refine v_someT 5 tab_ok hN H (by rfl) (by (try simp only [hxl, hyl, ks_take, ks_drop, vs_take, vs_drop]); first | done | exact ct_Roots) ?_; clear H; intro a w H; replace H := nt_Roots H; first | (simp only [hxl, hyl, ks_take, ks_drop, vs_take, vs_drop] at H; replace H := nt_Roots H) | skip; simp only [List.drop_succ_cons, List.drop_zero, List.drop_nil])
          refine v_moreT tab_ok hN H (by rfl) (by (try simp only [hxl, hyl, ks_take, ks_drop, vs_take, vs_drop]); first | done | exact ct_Roots) ?_; clear H; intro a w H; try replace H := nt_Roots H; first | (simp only [hxl, hyl, ks_take, ks_drop, vs_take, vs_drop] at H; replace H := nt_Roots H) | skip
          refine v_callT [] [] (c1) H (by rfl) (by rfl) rfl rfl (by rfl) (by simp [pickB, bxs, ren, idx?, sub_refl, sub, allP, hxl, hyl, ks_take, ks_drop, vs_take, vs_drop] <;> omega) (by first | rfl | (simp [hxl, hyl, ks_take, ks_drop, vs_take, vs_drop] <;> omega)) (by first | exact trivial | exact ⟨sub_refl _ _, trivial⟩ | exact ⟨sub_refl _ _, sub_refl _ _, trivial⟩ | exact ⟨sub_refl _ _, sub_refl _ _, sub_refl _ _, trivial⟩ | exact ⟨⟨rfl, sub_refl _ _, trivial⟩, sub_refl _ _, trivial⟩ | (simp [cargs, cargsG, St.ev, St.tmp, find, ren, idx?, sub_refl, sub, allP, resv, resC, bss, hxl, hyl, ks_take, ks_drop, vs_take, vs_drop] <;> omega)) ?_; clear H; intro a w H; try replace H := nt_Roots H; first | (simp only [hxl, hyl, ks_take, ks_drop, vs_take, vs_drop] at H; replace H := nt_Roots H) | skip
          repeat (refine v_someT 5 tab_ok hN H (by rfl) (by (try simp only [hxl, hyl, ks_take, ks_drop, vs_take, vs_drop]); first | done | exact ct_Roots) ?_; clear H; intro a w H; replace H := nt_Roots H; first | (simp only [hxl, hyl, ks_take, ks_drop, vs_take, vs_drop] at H; replace H := nt_Roots H) | skip; simp only [List.drop_succ_cons, List.drop_zero, List.drop_nil])
          refine v_moreT tab_ok hN H (by rfl) (by (try simp only [hxl, hyl, ks_take, ks_drop, vs_take, vs_drop]); first | done | exact ct_Roots) ?_; clear H; intro a w H; try replace H := nt_Roots H; first | (simp only [hxl, hyl, ks_take, ks_drop, vs_take, vs_drop] at H; replace H := nt_Roots H) | skip
          refine v_callT [] [] (c2) H (by rfl) (by rfl) rfl rfl (by rfl) (by simp [pickB, bxs, ren, idx?, sub_refl, sub, allP, hxl, hyl, ks_take, ks_drop, vs_take, vs_drop] <;> omega) (by first | rfl | (simp [hxl, hyl, ks_take, ks_drop, vs_take, vs_drop] <;> omega)) (by first | exact trivial | exact ⟨sub_refl _ _, trivial⟩ | exact ⟨sub_refl _ _, sub_refl _ _, trivial⟩ | exact ⟨sub_refl _ _, sub_refl _ _, sub_refl _ _, trivial⟩ | exact ⟨⟨rfl, sub_refl _ _, trivial⟩, sub_refl _ _, trivial⟩ | (simp [cargs, cargsG, St.ev, St.tmp, find, ren, idx?, sub_refl, sub, allP, resv, resC, bss, hxl, hyl, ks_take, ks_drop, vs_take, vs_drop] <;> omega)) ?_; clear H; intro a w H; try replace H := nt_Roots H; first | (simp only [hxl, hyl, ks_take, ks_drop, vs_take, vs_drop] at H; replace H := nt_Roots H) | skip
          repeat (refine v_someT 5 tab_ok hN H (by rfl) (by (try simp only [hxl, hyl, ks_take, ks_drop, vs_take, vs_drop]); first | done | exact ct_Roots) ?_; clear H; intro a w H; replace H := nt_Roots H; first | (simp only [hxl, hyl, ks_take, ks_drop, vs_take, vs_drop] at H; replace H := nt_Roots H) | skip; simp only [List.drop_succ_cons, List.drop_zero, List.drop_nil])
          refine v_moreT tab_ok hN H (by rfl) (by (try simp only [hxl, hyl, ks_take, ks_drop, vs_take, vs_drop]); first | done | exact ct_Roots) ?_; clear H; intro a w H; try replace H := nt_Roots H; first | (simp only [hxl, hyl, ks_take, ks_drop, vs_take, vs_drop] at H; replace H := nt_Roots H) | skip
          refine v_callT [] [] (hin) H (by rfl) (by rfl) rfl rfl (by rfl) (by simp [pickB, bxs, ren, idx?, sub_refl, sub, allP, hxl, hyl, ks_take, ks_drop, vs_take, vs_drop] <;> omega) (by first | rfl | (simp [hxl, hyl, ks_take, ks_drop, vs_take, vs_drop] <;> omega)) (by first | exact trivial | exact ⟨sub_refl _ _, trivial⟩ | exact ⟨sub_refl _ _, sub_refl _ _, trivial⟩ | exact ⟨sub_refl _ _, sub_refl _ _, sub_refl _ _, trivial⟩ | exact ⟨⟨rfl, sub_refl _ _, trivial⟩, sub_refl _ _, trivial⟩ | (simp [cargs, cargsG, St.ev, St.tmp, find, ren, idx?, sub_refl, sub, allP, resv, resC, bss, hxl, hyl, ks_take, ks_drop, vs_take, vs_drop] <;> omega)) ?_; clear H; intro a w H; try replace H := nt_Roots H; first | (simp only [hxl, hyl, ks_take, ks_drop, vs_take, vs_drop] at H; replace H := nt_Roots H) | skip
          repeat (refine v_someT 5 tab_ok hN H (by rfl) (by (try simp only [hxl, hyl, ks_take, ks_drop, vs_take, vs_drop]); first | done | exact ct_Roots) ?_; clear H; intro a w H; replace H := nt_Roots H; first | (simp only [hxl, hyl, ks_take, ks_drop, vs_take, vs_drop] at H; replace H := nt_Roots H) | skip; simp only [List.drop_succ_cons, List.drop_zero, List.drop_nil])
          refine v_moreT tab_ok hN H (by rfl) (by (try simp only [hxl, hyl, ks_take, ks_drop, vs_take, vs_drop]); first | done | exact ct_Roots) ?_; clear H; intro a w H; try replace H := nt_Roots H; first | (simp only [hxl, hyl, ks_take, ks_drop, vs_take, vs_drop] at H; replace H := nt_Roots H) | skip
          refine v_drawNil H (fun H => ?_)
          refine wp_ret ?_
          exact v_end [] [] tab_ok ⟨hN, hR⟩ (rs := [.cell 6 51]) (ress := [_]) rfl H (by rfl) (by rfl) cb cw ca rfl
end Go.Proofs.Ytpeefeioccglcaa
