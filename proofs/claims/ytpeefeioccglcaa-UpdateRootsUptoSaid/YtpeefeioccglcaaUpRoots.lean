/- The statement UpdateRoots, in values. -/
import Derived.Test.YtpeefeioccglcaaRootsR2
set_option linter.unusedSimpArgs false
set_option linter.unusedVariables false
namespace Go.Proofs.Ytpeefeioccglcaa
open Go Go.RowKit
/-- The state made plain. -/
theorem nf_UpRoots {P : Program} {w0 w : World} {N : Gh} {nt : Nat} {st s2 : St} {a : Act} (H : Rel P w0 N nt st a w) (h : st = s2 := by (try simp only [pk, elemB, St.put, St.ev, St.tmp, St.keep, find, dropT, slots, AV.put, AV.loc, fitI, convI, IntKind.signed, IntKind.bits, strip, St.lose, mergeL, setAll, nth, renB, ren, idx?, sub, allP, low, bnd, Int.reduceEq, Nat.reduceAdd, Nat.reduceLT, reduceIte, reduceCtorEq, Nat.reduceEqDiff, Nat.reduceLeDiff, Nat.reduceBEq, Int.reducePow, Int.reduceToNat, ti22_t, ti22_z, ti5_t, ti5_z, ti51_t, ti51_z, ti50_t, ti50_z, ti75_t, ti75_z, ti76_t, ti76_z]); rfl) : Rel P w0 N nt s2 a w := h ▸ H
theorem nt_UpRoots {P : Program} {w0 w : World} {N gS : Gh} {nt : Nat} {q q2 st s2 : St} {a : Act} (H : RelT P w0 N nt gS q st a w) (h1 : q = q2 := by (try simp only [pk, elemB, St.put, St.ev, St.tmp, St.keep, find, dropT, slots, AV.put, AV.loc, fitI, convI, IntKind.signed, IntKind.bits, strip, St.lose, mergeL, setAll, nth, renB, ren, idx?, sub, allP, low, bnd, Int.reduceEq, Nat.reduceAdd, Nat.reduceLT, reduceIte, reduceCtorEq, Nat.reduceEqDiff, Nat.reduceLeDiff, Nat.reduceBEq, Int.reducePow, Int.reduceToNat, ti22_t, ti22_z, ti5_t, ti5_z, ti51_t, ti51_z, ti50_t, ti50_z, ti75_t, ti75_z, ti76_t, ti76_z]); rfl) (h : st = s2 := by (try simp only [pk, elemB, St.put, St.ev, St.tmp, St.keep, find, dropT, slots, AV.put, AV.loc, fitI, convI, IntKind.signed, IntKind.bits, strip, St.lose, mergeL, setAll, nth, renB, ren, idx?, sub, allP, low, bnd, Int.reduceEq, Nat.reduceAdd, Nat.reduceLT, reduceIte, reduceCtorEq, Nat.reduceEqDiff, Nat.reduceLeDiff, Nat.reduceBEq, Int.reducePow, Int.reduceToNat, ti22_t, ti22_z, ti5_t, ti5_z, ti51_t, ti51_z, ti50_t, ti50_z, ti75_t, ti75_z, ti76_t, ti76_z]); rfl) : RelT P w0 N nt gS q2 s2 a w := h1 ▸ h ▸ H
theorem ct_UpRoots {c : Prop} (h : c := by ((try simp only [pk, elemB, St.put, St.ev, St.tmp, St.keep, find, dropT, slots, AV.put, AV.loc, fitI, convI, IntKind.signed, IntKind.bits, strip, St.lose, mergeL, setAll, nth, renB, ren, idx?, sub, allP, low, bnd, Int.reduceEq, Nat.reduceAdd, Nat.reduceLT, reduceIte, reduceCtorEq, Nat.reduceEqDiff, Nat.reduceLeDiff, Nat.reduceBEq, Int.reducePow, Int.reduceToNat, ti22_t, ti22_z, ti5_t, ti5_z, ti51_t, ti51_z, ti50_t, ti50_z, ti75_t, ti75_z, ti76_t, ti76_z, ti22, ti5, ti51, ti50, ti75, ti76, fit, gcond, ilo, ihi]); first | done | exact cd | exact cd2 | skip)) : c := h
theorem UpR.len {ks vs : List (List UInt8)} {d : Int} {r : List UInt8} {e : Int} (h : UpR ks vs d r e) : r.length = 32 := by
  by_cases h1 : 65 < ks.length
  · rw [(h.long h1).1]; exact z32_len
  · by_cases h2 : vs.length ≠ ks.length ∨ d < 0 ∨ 256 < d ∨ ¬ Climb d.toNat ks
    · rw [(h.arg h1 h2).1]; exact z32_len
    · rw [(h.ok h1 (Classical.byContradiction fun h => h2 (.inl fun e => h e.symm)) ⟨Int.not_lt.1 fun h => h2 (.inr (.inl h)), Int.not_lt.1 fun h => h2 (.inr (.inr (.inl h)))⟩ (Classical.byContradiction fun h => h2 (.inr (.inr (.inr h))))).1]
      exact rootA_len _ _ _
theorem UpR.err {ks vs : List (List UInt8)} {d : Int} {r : List UInt8} {e : Int} (h : UpR ks vs d r e) : 0 ≤ e ∧ e ≤ 4 := by
  by_cases h1 : 65 < ks.length
  · rw [(h.long h1).2]; decide
  · by_cases h2 : vs.length ≠ ks.length ∨ d < 0 ∨ 256 < d ∨ ¬ Climb d.toNat ks
    · rw [(h.arg h1 h2).2]; decide
    · rw [(h.ok h1 (Classical.byContradiction fun h => h2 (.inl fun e => h e.symm)) ⟨Int.not_lt.1 fun h => h2 (.inr (.inl h)), Int.not_lt.1 fun h => h2 (.inr (.inr (.inl h)))⟩ (Classical.byContradiction fun h => h2 (.inr (.inr (.inr h))))).2]
      decide
set_option maxRecDepth 20000 in
set_option maxHeartbeats 1000000 in
theorem updateRoots_v (ks vs : List (List UInt8)) (d : Int) (h1 : ∀ k ∈ ks, k.length = 32) (h2 : ∀ k ∈ vs, k.length = 32) (hl1 : ks.length ≤ 1048576) (hl2 : vs.length ≤ 1048576) :
    VC Try.prog 6 [.sl (.ba 32) (bas ks) none, .sl (.ba 32) (bas vs) none, .v (.int .i64 d)] [] (.v (.bool true)) := by
  obtain ⟨r, e, hr⟩ := UpR.all ks vs d
  have hrl := hr.len
  have he := hr.err
  have c1 := upRoot_v ks vs d h1 h2 (by omega) (by omega) r e hr
  have c2 := upRootR_v ks vs d h1 h2 (by omega) (by omega) r e hr
  have hxl := bas_len ks
  have hyl := bas_len vs
  refine v_enter Try.func6 rfl (by kernel_rfl) (by show 3 ≤ 45; decide) ?_
  intro N w0 a w hN hR H
  repeat (first | refine wp_seq ?_ | refine wp_block ?_ | refine wp_skip ?_ | refine wp_exit ?_ | ((first | refine v_some 5 tab_ok hN H (by rfl) (by (try simp only [hxl, hyl]); first | done | exact ct_UpRoots) ?_ | refine v_more tab_ok hN H (by rfl) (by rfl) (by (try simp only [hxl, hyl]); first | done | exact ct_UpRoots) ?_); clear H; intro a w H; replace H := nf_UpRoots H; first | (simp only [hxl, hyl] at H; replace H := nf_UpRoots H) | skip; (try simp only [List.drop_succ_cons, List.drop_zero, List.drop_nil]); try refine wpList_nil ?_) | refine wp_region_lit ?_)
  by_cases hb70 : 70 < ks.length ∨ 70 < vs.length
  · refine v_cond H (by rfl) (fun hb => ?_) (fun hb => ?_)
    · repeat (first | refine wp_seq ?_ | refine wp_block ?_ | refine wp_skip ?_ | refine wp_exit ?_ | ((first | refine v_some 5 tab_ok hN H (by rfl) (by (try simp only [hxl, hyl]); first | done | exact ct_UpRoots) ?_ | refine v_more tab_ok hN H (by rfl) (by rfl) (by (try simp only [hxl, hyl]); first | done | exact ct_UpRoots) ?_); clear H; intro a w H; replace H := nf_UpRoots H; first | (simp only [hxl, hyl] at H; replace H := nf_UpRoots H) | skip; (try simp only [List.drop_succ_cons, List.drop_zero, List.drop_nil]); try refine wpList_nil ?_) | refine wp_region_lit ?_)
      refine wp_ret ?_
      exact v_end [] [] tab_ok ⟨hN, hR⟩ (rs := [.tmp 6]) (ress := [_]) rfl H (by rfl) (by rfl) (by simp [pickB, bxs, ren, idx?, sub_refl, sub, allP, hxl, hyl] <;> omega) (by first | rfl | (simp [hxl, hyl] <;> omega)) (by first | exact trivial | exact ⟨sub_refl _ _, trivial⟩ | exact ⟨sub_refl _ _, sub_refl _ _, trivial⟩ | exact ⟨sub_refl _ _, sub_refl _ _, sub_refl _ _, trivial⟩ | exact ⟨⟨rfl, sub_refl _ _, trivial⟩, sub_refl _ _, trivial⟩ | (simp [cargs, cargsG, St.ev, St.tmp, find, ren, idx?, sub_refl, sub, allP, resv, resC, bss, hxl, hyl] <;> omega)) rfl
    · exfalso; by_cases h : 70 < ks.length <;> by_cases h' : 70 < vs.length <;> simp_all <;> omega
  · refine v_cond H (by rfl) (fun hb => ?_) (fun hb => ?_)
    · exfalso; by_cases h : 70 < ks.length <;> by_cases h' : 70 < vs.length <;> simp_all <;> omega
    · repeat (first | refine wp_seq ?_ | refine wp_block ?_ | refine wp_skip ?_ | refine wp_exit ?_ | ((first | refine v_some 5 tab_ok hN H (by rfl) (by (try simp only [hxl, hyl]); first | done | exact ct_UpRoots) ?_ | refine v_more tab_ok hN H (by rfl) (by rfl) (by (try simp only [hxl, hyl]); first | done | exact ct_UpRoots) ?_); clear H; intro a w H; replace H := nf_UpRoots H; first | (simp only [hxl, hyl] at H; replace H := nf_UpRoots H) | skip; (try simp only [List.drop_succ_cons, List.drop_zero, List.drop_nil]); try refine wpList_nil ?_) | refine wp_region_lit ?_)
      simp only [List.replicate_zero, List.nil_append, List.length_nil, Nat.zero_add] at H
      refine v_call [] [] (c1) H rfl rfl (by rfl) (by simp [pickB, bxs, ren, idx?, sub_refl, sub, allP, hxl, hyl] <;> omega) (by first | rfl | (simp [hxl, hyl] <;> omega)) (by first | exact trivial | exact ⟨sub_refl _ _, trivial⟩ | exact ⟨sub_refl _ _, sub_refl _ _, trivial⟩ | exact ⟨sub_refl _ _, sub_refl _ _, sub_refl _ _, trivial⟩ | exact ⟨⟨rfl, sub_refl _ _, trivial⟩, sub_refl _ _, trivial⟩ | (simp [cargs, cargsG, St.ev, St.tmp, find, ren, idx?, sub_refl, sub, allP, resv, resC, bss, hxl, hyl] <;> omega)) ?_; clear H; intro a w H; replace H := nf_UpRoots H; first | (simp only [hxl, hyl] at H; replace H := nf_UpRoots H) | skip; try refine wpList_nil ?_
      repeat (first | refine wp_seq ?_ | refine wp_block ?_ | refine wp_skip ?_ | refine wp_exit ?_ | ((first | refine v_some 5 tab_ok hN H (by rfl) (by (try simp only [hxl, hyl]); first | done | exact ct_UpRoots) ?_ | refine v_more tab_ok hN H (by rfl) (by rfl) (by (try simp only [hxl, hyl]); first | done | exact ct_UpRoots) ?_); clear H; intro a w H; replace H := nf_UpRoots H; first | (simp only [hxl, hyl] at H; replace H := nf_UpRoots H) | skip; (try simp only [List.drop_succ_cons, List.drop_zero, List.drop_nil]); try refine wpList_nil ?_) | refine wp_region_lit ?_)
      refine v_call [] [] (c2) H rfl rfl (by rfl) (by simp [pickB, bxs, ren, idx?, sub_refl, sub, allP, hxl, hyl] <;> omega) (by first | rfl | (simp [hxl, hyl] <;> omega)) (by first | exact trivial | exact ⟨sub_refl _ _, trivial⟩ | exact ⟨sub_refl _ _, sub_refl _ _, trivial⟩ | exact ⟨sub_refl _ _, sub_refl _ _, sub_refl _ _, trivial⟩ | exact ⟨⟨rfl, sub_refl _ _, trivial⟩, sub_refl _ _, trivial⟩ | (simp [cargs, cargsG, St.ev, St.tmp, find, ren, idx?, sub_refl, sub, allP, resv, resC, bss, hxl, hyl] <;> omega)) ?_; clear H; intro a w H; replace H := nf_UpRoots H; first | (simp only [hxl, hyl] at H; replace H := nf_UpRoots H) | skip; try refine wpList_nil ?_
      repeat (first | refine wp_seq ?_ | refine wp_block ?_ | refine wp_skip ?_ | refine wp_exit ?_ | ((first | refine v_some 5 tab_ok hN H (by rfl) (by (try simp only [hxl, hyl]); first | done | exact ct_UpRoots) ?_ | refine v_more tab_ok hN H (by rfl) (by rfl) (by (try simp only [hxl, hyl]); first | done | exact ct_UpRoots) ?_); clear H; intro a w H; replace H := nf_UpRoots H; first | (simp only [hxl, hyl] at H; replace H := nf_UpRoots H) | skip; (try simp only [List.drop_succ_cons, List.drop_zero, List.drop_nil]); try refine wpList_nil ?_) | refine wp_region_lit ?_)
      refine wp_ret ?_
      exact v_end [] [] tab_ok ⟨hN, hR⟩ (rs := [.tmp 6]) (ress := [_]) rfl H (by rfl) (by rfl) (by simp [pickB, bxs, ren, idx?, sub_refl, sub, allP, hxl, hyl] <;> omega) (by first | rfl | (simp [hxl, hyl] <;> omega)) (by first | exact trivial | exact ⟨sub_refl _ _, trivial⟩ | exact ⟨sub_refl _ _, sub_refl _ _, trivial⟩ | exact ⟨sub_refl _ _, sub_refl _ _, sub_refl _ _, trivial⟩ | exact ⟨⟨rfl, sub_refl _ _, trivial⟩, sub_refl _ _, trivial⟩ | (simp [cargs, cargsG, St.ev, St.tmp, find, ren, idx?, sub_refl, sub, allP, resv, resC, bss, hxl, hyl] <;> omega)) rfl
end Go.Proofs.Ytpeefeioccglcaa
