/- Roots of entries, or the error: the program's. -/
import Derived.Test.YtpeefeioccglcaaRoots
set_option linter.unusedSimpArgs false
set_option linter.unusedVariables false
namespace Go.Proofs.Ytpeefeioccglcaa
open Go Go.RowKit
/-- The state made plain. -/
theorem nf_Roots2 {P : Program} {w0 w : World} {N : Gh} {nt : Nat} {st s2 : St} {a : Act} (H : Rel P w0 N nt st a w) (h : st = s2 := by (try simp only [pk, elemB, St.put, St.ev, St.tmp, St.keep, find, dropT, slots, AV.put, AV.loc, fitI, convI, IntKind.signed, IntKind.bits, strip, St.lose, mergeL, setAll, nth, renB, ren, idx?, sub, allP, low, bnd, Int.reduceEq, Nat.reduceAdd, Nat.reduceLT, reduceIte, reduceCtorEq, Nat.reduceEqDiff, Nat.reduceLeDiff, Nat.reduceBEq, Int.reducePow, Int.reduceToNat, ti22_t, ti22_z, ti5_t, ti5_z, ti51_t, ti51_z, ti50_t, ti50_z, ti75_t, ti75_z, ti76_t, ti76_z]); rfl) : Rel P w0 N nt s2 a w := h ▸ H
theorem nt_Roots2 {P : Program} {w0 w : World} {N gS : Gh} {nt : Nat} {q q2 st s2 : St} {a : Act} (H : RelT P w0 N nt gS q st a w) (h1 : q = q2 := by (try simp only [pk, elemB, St.put, St.ev, St.tmp, St.keep, find, dropT, slots, AV.put, AV.loc, fitI, convI, IntKind.signed, IntKind.bits, strip, St.lose, mergeL, setAll, nth, renB, ren, idx?, sub, allP, low, bnd, Int.reduceEq, Nat.reduceAdd, Nat.reduceLT, reduceIte, reduceCtorEq, Nat.reduceEqDiff, Nat.reduceLeDiff, Nat.reduceBEq, Int.reducePow, Int.reduceToNat, ti22_t, ti22_z, ti5_t, ti5_z, ti51_t, ti51_z, ti50_t, ti50_z, ti75_t, ti75_z, ti76_t, ti76_z]); rfl) (h : st = s2 := by (try simp only [pk, elemB, St.put, St.ev, St.tmp, St.keep, find, dropT, slots, AV.put, AV.loc, fitI, convI, IntKind.signed, IntKind.bits, strip, St.lose, mergeL, setAll, nth, renB, ren, idx?, sub, allP, low, bnd, Int.reduceEq, Nat.reduceAdd, Nat.reduceLT, reduceIte, reduceCtorEq, Nat.reduceEqDiff, Nat.reduceLeDiff, Nat.reduceBEq, Int.reducePow, Int.reduceToNat, ti22_t, ti22_z, ti5_t, ti5_z, ti51_t, ti51_z, ti50_t, ti50_z, ti75_t, ti75_z, ti76_t, ti76_z]); rfl) : RelT P w0 N nt gS q2 s2 a w := h1 ▸ h ▸ H
theorem ct_Roots2 {c : Prop} (h : c := by ((try simp only [pk, elemB, St.put, St.ev, St.tmp, St.keep, find, dropT, slots, AV.put, AV.loc, fitI, convI, IntKind.signed, IntKind.bits, strip, St.lose, mergeL, setAll, nth, renB, ren, idx?, sub, allP, low, bnd, Int.reduceEq, Nat.reduceAdd, Nat.reduceLT, reduceIte, reduceCtorEq, Nat.reduceEqDiff, Nat.reduceLeDiff, Nat.reduceBEq, Int.reducePow, Int.reduceToNat, ti22_t, ti22_z, ti5_t, ti5_z, ti51_t, ti51_z, ti50_t, ti50_z, ti75_t, ti75_z, ti76_t, ti76_z, ti22, ti5, ti51, ti50, ti75, ti76, fit, gcond, ilo, ihi]); first | done | exact cd | exact cd2 | skip)) : c := h
/-- Each key is greater than the one ahead, and shares its first d bits. -/
def Next (d : Nat) (ks : List (List UInt8)) (k : Nat) : Prop := agree d (ks.getD k []) (ks.getD (k + 1) []) ∧ ltB (ks.getD k []) (ks.getD (k + 1) [])
def Climb (d : Nat) (ks : List (List UInt8)) : Prop := ∀ k, k + 1 < ks.length → Next d ks k
theorem zip_fst : ∀ (ks vs : List (List UInt8)), ks.length = vs.length → (ks.zip vs).map Prod.fst = ks
  | [], [], _ => rfl
  | [], _ :: _, h => by cases h
  | _ :: _, [], h => by cases h
  | k :: ks, v :: vs, h => by simp [zip_fst ks vs (by simpa using h)]
theorem zip_snd : ∀ (ks vs : List (List UInt8)), ks.length = vs.length → (ks.zip vs).map Prod.snd = vs
  | [], [], _ => rfl
  | [], _ :: _, h => by cases h
  | _ :: _, [], h => by cases h
  | k :: ks, v :: vs, h => by simp [zip_snd ks vs (by simpa using h)]
theorem Climb.rise {d : Nat} {ks vs : List (List UInt8)} (h : Climb d ks) (hl : ks.length = vs.length) : Rise d (ks.zip vs) := by
  refine Rise.chain fun k hk => ?_
  have hk' : k + 1 < ks.length := by rw [List.length_zip] at hk; omega
  have := h k hk'
  unfold Next at this
  rw [← List.getElem_eq_getD (h := show k < ks.length by omega) [], ← List.getElem_eq_getD (h := hk') []] at this
  simpa using this
theorem zip_wd {ks vs : List (List UInt8)} (h1 : ∀ k ∈ ks, k.length = 32) (h2 : ∀ k ∈ vs, k.length = 32) : Wd (ks.zip vs) := fun x hx => by
  obtain ⟨k, v⟩ := x
  have := List.of_mem_zip hx
  exact ⟨h1 _ this.1, h2 _ this.2⟩
/-- What is told, or the error. -/
structure UpR (ks vs : List (List UInt8)) (d : Int) (r : List UInt8) (e : Int) : Prop where
  long : 65 < ks.length → r = z32 ∧ e = 4
  arg : ¬ 65 < ks.length → (vs.length ≠ ks.length ∨ d < 0 ∨ 256 < d ∨ ¬ Climb d.toNat ks) → r = z32 ∧ e = 2
  ok : ¬ 65 < ks.length → ks.length = vs.length → 0 ≤ d ∧ d ≤ 256 → Climb d.toNat ks → r = rootA (256 - d.toNat) d.toNat (ks.zip vs) ∧ e = 0
theorem UpR.all (ks vs : List (List UInt8)) (d : Int) : ∃ r e, UpR ks vs d r e := by
  by_cases h1 : 65 < ks.length
  · exact ⟨z32, 4, fun _ => ⟨rfl, rfl⟩, fun h => absurd h1 h, fun h => absurd h1 h⟩
  · by_cases h2 : vs.length ≠ ks.length ∨ d < 0 ∨ 256 < d ∨ ¬ Climb d.toNat ks
    · exact ⟨z32, 2, fun h => absurd h h1, fun _ _ => ⟨rfl, rfl⟩, fun _ k1 k2 k3 => by
        rcases h2 with h | h | h | h
        · omega
        · omega
        · omega
        · exact absurd k3 h⟩
    · exact ⟨_, 0, fun h => absurd h h1, fun _ h => absurd h h2, fun _ _ _ _ => ⟨rfl, rfl⟩⟩
set_option maxRecDepth 20000 in
set_option maxHeartbeats 1000000 in
theorem upRoot_v (ks vs : List (List UInt8)) (d : Int) (h1 : ∀ k ∈ ks, k.length = 32) (h2 : ∀ k ∈ vs, k.length = 32) (hl1 : ks.length ≤ 34359730000) (hl2 : vs.length ≤ 34359730000) (r : List UInt8) (e : Int) (hr : UpR ks vs d r e) :
    VC Try.prog 41 [.sl (.ba 32) (bas ks) none, .sl (.ba 32) (bas vs) none, .v (.int .i64 d)] [] (.tup [.ba r, errv e]) := by
  have hz2 := z32_len
  have hxl := bas_len ks
  have hyl := bas_len vs
  refine v_enter Try.func41 rfl (by kernel_rfl) (by show 3 ≤ 65; decide) ?_
  intro N w0 a w hN hR H
  repeat (first | refine wp_seq ?_ | refine wp_block ?_ | refine wp_skip ?_ | refine wp_exit ?_ | ((first | refine v_some 5 tab_ok hN H (by rfl) (by (try simp only [hxl, hyl]); first | done | exact ct_Roots2) ?_ | refine v_more tab_ok hN H (by rfl) (by rfl) (by (try simp only [hxl, hyl]); first | done | exact ct_Roots2) ?_); clear H; intro a w H; replace H := nf_Roots2 H; first | (simp only [hxl, hyl] at H; replace H := nf_Roots2 H) | skip; (try simp only [List.drop_succ_cons, List.drop_zero, List.drop_nil]); try refine wpList_nil ?_) | refine wp_region_lit ?_)
  refine v_cond H (by rfl) (fun hb => ?_) (fun hb => ?_)
  · obtain ⟨rfl, rfl⟩ := hr.long (by rw [decide_eq_true_eq] at hb; omega)
    repeat (first | refine wp_seq ?_ | refine wp_block ?_ | refine wp_skip ?_ | refine wp_exit ?_ | ((first | refine v_some 5 tab_ok hN H (by rfl) (by (try simp only [hxl, hyl]); first | done | exact ct_Roots2) ?_ | refine v_more tab_ok hN H (by rfl) (by rfl) (by (try simp only [hxl, hyl]); first | done | exact ct_Roots2) ?_); clear H; intro a w H; replace H := nf_Roots2 H; first | (simp only [hxl, hyl] at H; replace H := nf_Roots2 H) | skip; (try simp only [List.drop_succ_cons, List.drop_zero, List.drop_nil]); try refine wpList_nil ?_) | refine wp_region_lit ?_)
    try simp only [hz] at H
    refine wp_ret ?_
    exact v_end [] [] tab_ok ⟨hN, hR⟩ (rs := [.cell 6 51, .tmp 7]) (ress := [_, _]) rfl H (by rfl) (by rfl) (by simp [pickB, bxs, ren, idx?, sub_refl, sub, allP, hxl, hyl] <;> omega) (by first | rfl | (simp [hxl, hyl] <;> omega)) (by first | exact trivial | exact ⟨sub_refl _ _, trivial⟩ | exact ⟨sub_refl _ _, sub_refl _ _, trivial⟩ | exact ⟨sub_refl _ _, sub_refl _ _, sub_refl _ _, trivial⟩ | exact ⟨⟨rfl, sub_refl _ _, trivial⟩, sub_refl _ _, trivial⟩ | (simp [cargs, cargsG, St.ev, St.tmp, find, ren, idx?, sub_refl, sub, allP, resv, resC, bss, hxl, hyl] <;> omega)) rfl
  · have hs : ¬ 65 < ks.length := by rw [decide_eq_false_iff_not] at hb; omega
    repeat (first | refine wp_seq ?_ | refine wp_block ?_ | refine wp_skip ?_ | refine wp_exit ?_ | ((first | refine v_some 5 tab_ok hN H (by rfl) (by (try simp only [hxl, hyl]); first | done | exact ct_Roots2) ?_ | refine v_more tab_ok hN H (by rfl) (by rfl) (by (try simp only [hxl, hyl]); first | done | exact ct_Roots2) ?_); clear H; intro a w H; replace H := nf_Roots2 H; first | (simp only [hxl, hyl] at H; replace H := nf_Roots2 H) | skip; (try simp only [List.drop_succ_cons, List.drop_zero, List.drop_nil]); try refine wpList_nil ?_) | refine wp_region_lit ?_)
    by_cases hbad : vs.length ≠ ks.length ∨ d < 0 ∨ 256 < d
    · refine v_cond H (by rfl) (fun hb => ?_) (fun hb => ?_)
      · obtain ⟨rfl, rfl⟩ := hr.arg hs (by rcases hbad with h | h | h; exact .inl h; exact .inr (.inl h); exact .inr (.inr (.inl h)))
        repeat (first | refine wp_seq ?_ | refine wp_block ?_ | refine wp_skip ?_ | refine wp_exit ?_ | ((first | refine v_some 5 tab_ok hN H (by rfl) (by (try simp only [hxl, hyl]); first | done | exact ct_Roots2) ?_ | refine v_more tab_ok hN H (by rfl) (by rfl) (by (try simp only [hxl, hyl]); first | done | exact ct_Roots2) ?_); clear H; intro a w H; replace H := nf_Roots2 H; first | (simp only [hxl, hyl] at H; replace H := nf_Roots2 H) | skip; (try simp only [List.drop_succ_cons, List.drop_zero, List.drop_nil]); try refine wpList_nil ?_) | refine wp_region_lit ?_)
        try simp only [hz] at H
        refine wp_ret ?_
        exact v_end [] [] tab_ok ⟨hN, hR⟩ (rs := [.cell 6 51, .tmp 7]) (ress := [_, _]) rfl H (by rfl) (by rfl) (by simp [pickB, bxs, ren, idx?, sub_refl, sub, allP, hxl, hyl] <;> omega) (by first | rfl | (simp [hxl, hyl] <;> omega)) (by first | exact trivial | exact ⟨sub_refl _ _, trivial⟩ | exact ⟨sub_refl _ _, sub_refl _ _, trivial⟩ | exact ⟨sub_refl _ _, sub_refl _ _, sub_refl _ _, trivial⟩ | exact ⟨⟨rfl, sub_refl _ _, trivial⟩, sub_refl _ _, trivial⟩ | (simp [cargs, cargsG, St.ev, St.tmp, find, ren, idx?, sub_refl, sub, allP, resv, resC, bss, hxl, hyl] <;> omega)) rfl
      · exfalso
        by_cases hbl : vs.length = ks.length <;> by_cases hb0 : d < 0 <;> by_cases hb1 : 256 < d <;> simp_all <;> omega
    · have hll : vs.length = ks.length := Classical.byContradiction fun h => hbad (.inl h)
      have hd0 : ¬ d < 0 := fun h => hbad (.inr (.inl h))
      have hd1 : ¬ 256 < d := fun h => hbad (.inr (.inr h))
      refine v_cond H (by rfl) (fun hb => ?_) (fun hb => ?_)
      · exfalso; rw [hll] at hb; simp only [decide_eq_false hd0, decide_eq_false hd1, decide_true] at hb; simp at hb
      · obtain ⟨dn, rfl⟩ := Int.eq_ofNat_of_zero_le (Int.not_lt.1 hd0)
        have hdn : dn ≤ 256 := by omega
        clear hd0 hd1 hbad
        repeat (first | refine wp_seq ?_ | refine wp_block ?_ | refine wp_skip ?_ | refine wp_exit ?_ | ((first | refine v_some 5 tab_ok hN H (by rfl) (by (try simp only [hxl, hyl]); first | done | exact ct_Roots2) ?_ | refine v_more tab_ok hN H (by rfl) (by rfl) (by (try simp only [hxl, hyl]); first | done | exact ct_Roots2) ?_); clear H; intro a w H; replace H := nf_Roots2 H; first | (simp only [hxl, hyl] at H; replace H := nf_Roots2 H) | skip; (try simp only [List.drop_succ_cons, List.drop_zero, List.drop_nil]); try refine wpList_nil ?_) | refine wp_region_lit ?_)
        refine v_loop (fun k : Nat => ⟨[(8, none, .v (.int .i64 ((k : Int) + 1))), (7, none, .v (.int .i64 0)), (6, none, .ptr 0 []), (0, none, .sl (.ba 32) (bas ks) none), (1, none, .sl (.ba 32) (bas vs) none), (2, none, .v (.int .i64 (dn : Int)))], [(.ba 32, .ba z32)], [], []⟩) (fun k => (k = 0 ∨ k + 1 ≤ ks.length) ∧ ∀ j, j < k → Next dn ks j) (fun k => ks.length - k) 0 ⟨.inl rfl, fun j hj => by omega⟩ (H.to 1 0 ⟨Nat.le_trans hN (by decide), hR⟩ ⟨rfl, rfl, rfl, rfl, rfl, rfl, trivial⟩ rfl rfl rfl rfl rfl) ?_
        clear H
        rintro k a w ⟨hk, hall⟩ H
        repeat (first | refine wp_seq ?_ | refine wp_block ?_ | refine wp_skip ?_ | refine wp_exit ?_ | ((first | refine v_some 5 tab_ok hN H (by rfl) (by (try simp only [hxl, hyl]); first | done | exact ct_Roots2) ?_ | refine v_more tab_ok hN H (by rfl) (by rfl) (by (try simp only [hxl, hyl]); first | done | exact ct_Roots2) ?_); clear H; intro a w H; replace H := nf_Roots2 H; first | (simp only [hxl, hyl] at H; replace H := nf_Roots2 H) | skip; (try simp only [List.drop_succ_cons, List.drop_zero, List.drop_nil]); try refine wpList_nil ?_) | refine wp_region_lit ?_)
        refine v_cond H (by rfl) (fun hb => ?_) (fun hb => ?_)
        · have hlt : k + 1 < ks.length := by rw [decide_eq_true_eq] at hb; omega
          have g1 := bas_get ks k (by omega)
          have g2 := bas_get ks (k + 1) hlt
          rw [List.getElem_eq_getD []] at g1 g2
          have l1 : (ks.getD k []).length = 32 := by rw [← List.getElem_eq_getD (h := show k < ks.length by omega) []]; exact h1 _ (List.getElem_mem _)
          have l2 : (ks.getD (k + 1) []).length = 32 := by rw [← List.getElem_eq_getD (h := hlt) []]; exact h1 _ (List.getElem_mem _)
          have e1 : ((k : Int) + 1 - 1).toNat = k := by omega
          have e2 : ((k : Int) + 1).toNat = k + 1 := by omega
          have hcmp := pcmp_v (ks.getD k []) (ks.getD (k + 1) []) l1 l2
          have hcom := common_v (ks.getD k []) (ks.getD (k + 1) []) l1 l2
          have hlt1 := cmp_ltB l1 l2
          have hge1 := com_ge (p := ks.getD k []) (q := ks.getD (k + 1) []) hdn
          have hcl := com_le (ks.getD k []) (ks.getD (k + 1) [])
          repeat (first | refine wp_seq ?_ | refine wp_block ?_ | refine wp_skip ?_ | refine wp_exit ?_ | ((first | refine v_some 5 tab_ok hN H (by rfl) (by (try simp only [hxl, e1, e2, g1, g2]); first | done | exact ct_Roots2) ?_ | refine v_more tab_ok hN H (by rfl) (by rfl) (by (try simp only [hxl, e1, e2, g1, g2]); first | done | exact ct_Roots2) ?_); clear H; intro a w H; replace H := nf_Roots2 H; first | (simp only [hxl, e1, e2, g1, g2] at H; replace H := nf_Roots2 H) | skip; (try simp only [List.drop_succ_cons, List.drop_zero, List.drop_nil]); try refine wpList_nil ?_) | refine wp_region_lit ?_)
          repeat (first | refine wp_seq ?_ | refine wp_block ?_)
          refine v_draw 1 [9, 21] [22] (by kernel_rfl) (by kernel_rfl) H (by rfl) (fun gS H => ?_); try replace H := nt_Roots2 H; first | (simp only [hxl, e1, e2, g1, g2] at H; replace H := nt_Roots2 H) | skip
          refine v_someT 4 tab_ok hN H (by rfl) (by (try simp only [hxl, e1, e2, g1, g2]); first | done | exact ct_Roots2) ?_; clear H; intro a w H; replace H := nt_Roots2 H; first | (simp only [hxl, e1, e2, g1, g2] at H; replace H := nt_Roots2 H) | skip; simp only [List.drop_succ_cons, List.drop_zero, List.drop_nil]
          refine v_someT 4 tab_ok hN H (by rfl) (by (try simp only [hxl, e1, e2, g1, g2]); first | done | exact ct_Roots2) ?_; clear H; intro a w H; replace H := nt_Roots2 H; first | (simp only [hxl, e1, e2, g1, g2] at H; replace H := nt_Roots2 H) | skip; simp only [List.drop_succ_cons, List.drop_zero, List.drop_nil]
          refine v_someT 1 tab_ok hN H (by rfl) (by (try simp only [hxl, e1, e2, g1, g2]); first | done | exact ct_Roots2) ?_; clear H; intro a w H; replace H := nt_Roots2 H; first | (simp only [hxl, e1, e2, g1, g2] at H; replace H := nt_Roots2 H) | skip; simp only [List.drop_succ_cons, List.drop_zero, List.drop_nil]
          refine v_callT [] [] (hcmp) H (by rfl) (by rfl) rfl rfl (by rfl) (by simp [pickB, bxs, ren, idx?, sub_refl, sub, allP, hxl, e1, e2, g1, g2] <;> omega) (by first | rfl | (simp [hxl, e1, e2, g1, g2] <;> omega)) (by first | exact trivial | exact ⟨sub_refl _ _, trivial⟩ | exact ⟨sub_refl _ _, sub_refl _ _, trivial⟩ | exact ⟨sub_refl _ _, sub_refl _ _, sub_refl _ _, trivial⟩ | exact ⟨⟨rfl, sub_refl _ _, trivial⟩, sub_refl _ _, trivial⟩ | (simp [cargs, cargsG, St.ev, St.tmp, find, ren, idx?, sub_refl, sub, allP, resv, resC, bss, hxl, e1, e2, g1, g2] <;> omega)) ?_; clear H; intro a w H; try replace H := nt_Roots2 H; first | (simp only [hxl, e1, e2, g1, g2] at H; replace H := nt_Roots2 H) | skip
          refine v_someT 2 tab_ok hN H (by rfl) (by (try simp only [hxl, e1, e2, g1, g2]); first | done | exact ct_Roots2) ?_; clear H; intro a w H; replace H := nt_Roots2 H; first | (simp only [hxl, e1, e2, g1, g2] at H; replace H := nt_Roots2 H) | skip; simp only [List.drop_succ_cons, List.drop_zero, List.drop_nil]
          refine v_someT 4 tab_ok hN H (by rfl) (by (try simp only [hxl, e1, e2, g1, g2]); first | done | exact ct_Roots2) ?_; clear H; intro a w H; replace H := nt_Roots2 H; first | (simp only [hxl, e1, e2, g1, g2] at H; replace H := nt_Roots2 H) | skip; simp only [List.drop_succ_cons, List.drop_zero, List.drop_nil]
          refine v_someT 4 tab_ok hN H (by rfl) (by (try simp only [hxl, e1, e2, g1, g2]); first | done | exact ct_Roots2) ?_; clear H; intro a w H; replace H := nt_Roots2 H; first | (simp only [hxl, e1, e2, g1, g2] at H; replace H := nt_Roots2 H) | skip; simp only [List.drop_succ_cons, List.drop_zero, List.drop_nil]
          refine v_someT 1 tab_ok hN H (by rfl) (by (try simp only [hxl, e1, e2, g1, g2]); first | done | exact ct_Roots2) ?_; clear H; intro a w H; replace H := nt_Roots2 H; first | (simp only [hxl, e1, e2, g1, g2] at H; replace H := nt_Roots2 H) | skip; simp only [List.drop_succ_cons, List.drop_zero, List.drop_nil]
          refine v_callTG [] [] (hcom) H (by rfl) (by rfl) (by rfl) rfl (by rfl) (by simp [pickB, bxs, ren, idx?, sub_refl, sub, allP, hxl, e1, e2, g1, g2] <;> omega) (by first | rfl | (simp [hxl, e1, e2, g1, g2] <;> omega)) (by first | exact trivial | exact ⟨sub_refl _ _, trivial⟩ | exact ⟨sub_refl _ _, sub_refl _ _, trivial⟩ | exact ⟨sub_refl _ _, sub_refl _ _, sub_refl _ _, trivial⟩ | exact ⟨⟨rfl, sub_refl _ _, trivial⟩, sub_refl _ _, trivial⟩ | (simp [cargs, cargsG, St.ev, St.tmp, find, ren, idx?, sub_refl, sub, allP, resv, resC, bss, hxl, e1, e2, g1, g2] <;> omega)) (by rfl) (by rfl) (by rfl) ?_; clear H; intro a w H; try replace H := nt_Roots2 H; first | (simp only [hxl, e1, e2, g1, g2] at H; replace H := nt_Roots2 H) | skip
          repeat (refine v_someT 5 tab_ok hN H (by rfl) (by (try simp only [hxl, e1, e2, g1, g2]); first | done | exact ct_Roots2) ?_; clear H; intro a w H; replace H := nt_Roots2 H; first | (simp only [hxl, e1, e2, g1, g2] at H; replace H := nt_Roots2 H) | skip; simp only [List.drop_succ_cons, List.drop_zero, List.drop_nil])
          refine v_moreT tab_ok hN H (by rfl) (by (try simp only [hxl, e1, e2, g1, g2]); first | done | exact ct_Roots2) ?_; clear H; intro a w H; try replace H := nt_Roots2 H; first | (simp only [hxl, e1, e2, g1, g2] at H; replace H := nt_Roots2 H) | skip
          refine v_drawNil H (fun H => ?_)
          refine v_cond H (by rfl) (fun hb => ?_) (fun hb => ?_)
          · have hno : ¬ Next dn ks k := fun h => by
              have k1 := hlt1.2 h.2
              have k2 := hge1.2 h.1
              rw [decide_eq_false (by omega), decide_eq_false (by omega)] at hb
              simp at hb
            obtain ⟨rfl, rfl⟩ := hr.arg hs (.inr (.inr (.inr fun h => hno (by simpa using h k hlt))))
            repeat (first | refine wp_seq ?_ | refine wp_block ?_ | refine wp_skip ?_ | refine wp_exit ?_ | ((first | refine v_some 5 tab_ok hN H (by rfl) (by (try simp only [hxl, hyl]); first | done | exact ct_Roots2) ?_ | refine v_more tab_ok hN H (by rfl) (by rfl) (by (try simp only [hxl, hyl]); first | done | exact ct_Roots2) ?_); clear H; intro a w H; replace H := nf_Roots2 H; first | (simp only [hxl, hyl] at H; replace H := nf_Roots2 H) | skip; (try simp only [List.drop_succ_cons, List.drop_zero, List.drop_nil]); try refine wpList_nil ?_) | refine wp_region_lit ?_)
            try simp only [hz] at H
            refine wp_ret ?_
            exact v_end [] [] tab_ok ⟨hN, hR⟩ (rs := [.cell 6 51, .tmp 7]) (ress := [_, _]) rfl H (by rfl) (by rfl) (by simp [pickB, bxs, ren, idx?, sub_refl, sub, allP, hxl, hyl] <;> omega) (by first | rfl | (simp [hxl, hyl] <;> omega)) (by first | exact trivial | exact ⟨sub_refl _ _, trivial⟩ | exact ⟨sub_refl _ _, sub_refl _ _, trivial⟩ | exact ⟨sub_refl _ _, sub_refl _ _, sub_refl _ _, trivial⟩ | exact ⟨⟨rfl, sub_refl _ _, trivial⟩, sub_refl _ _, trivial⟩ | (simp [cargs, cargsG, St.ev, St.tmp, find, ren, idx?, sub_refl, sub, allP, resv, resC, bss, hxl, hyl] <;> omega)) rfl
          · have hyes : Next dn ks k := by
              refine ⟨hge1.1 ?_, hlt1.1 ?_⟩
              · by_cases hc : (0 : Int) ≤ Lib.compareBytes (ks.getD k []) (ks.getD (k + 1) [])
                · rw [decide_eq_true hc] at hb; simp at hb
                · rw [decide_eq_false hc, cond_false, decide_eq_false_iff_not] at hb; omega
              · by_cases hc : (0 : Int) ≤ Lib.compareBytes (ks.getD k []) (ks.getD (k + 1) [])
                · rw [decide_eq_true hc] at hb; simp at hb
                · omega
            repeat (first | refine wp_seq ?_ | refine wp_block ?_ | refine wp_skip ?_ | refine wp_exit ?_ | ((first | refine v_some 5 tab_ok hN H (by rfl) (by (try simp only [hxl, hyl]); first | done | exact ct_Roots2) ?_ | refine v_more tab_ok hN H (by rfl) (by rfl) (by (try simp only [hxl, hyl]); first | done | exact ct_Roots2) ?_); clear H; intro a w H; replace H := nf_Roots2 H; first | (simp only [hxl, hyl] at H; replace H := nf_Roots2 H) | skip; (try simp only [List.drop_succ_cons, List.drop_zero, List.drop_nil]); try refine wpList_nil ?_) | refine wp_region_lit ?_)
            exact ⟨k + 1, ⟨.inr hlt, fun j hj => by
              by_cases h3 : j < k
              · exact hall j h3
              · obtain rfl : j = k := by omega
                exact hyes⟩, by omega, H.to 1 0 ⟨Nat.le_trans hN (by decide), hR⟩ ⟨rfl, rfl, rfl, rfl, rfl, rfl, trivial⟩ rfl rfl rfl rfl rfl⟩
        · have hge : ks.length ≤ k + 1 := by rw [decide_eq_false_iff_not] at hb; omega
          have hgood : Climb dn ks := fun j hj => hall j (by omega)
          obtain ⟨rfl, rfl⟩ := hr.ok hs hll.symm ⟨by omega, by omega⟩ hgood
          have hroot := rootOf_v (256 - dn) dn (ks.zip vs) (by omega) (hgood.rise hll.symm) (zip_wd h1 h2) (by rw [List.length_zip]; omega)
          have hrl := rootA_len (256 - dn) dn (ks.zip vs)
          simp only [ksOf, vsOf, zip_fst ks vs hll.symm, zip_snd ks vs hll.symm] at hroot
          simp only [Int.toNat_natCast] at *
          repeat (first | refine wp_seq ?_ | refine wp_block ?_ | refine wp_skip ?_ | refine wp_exit ?_ | ((first | refine v_some 5 tab_ok hN H (by rfl) (by (try simp only [hxl, hyl]); first | done | exact ct_Roots2) ?_ | refine v_more tab_ok hN H (by rfl) (by rfl) (by (try simp only [hxl, hyl]); first | done | exact ct_Roots2) ?_); clear H; intro a w H; replace H := nf_Roots2 H; first | (simp only [hxl, hyl] at H; replace H := nf_Roots2 H) | skip; (try simp only [List.drop_succ_cons, List.drop_zero, List.drop_nil]); try refine wpList_nil ?_) | refine wp_region_lit ?_)
          refine v_call [] [] (hroot) H rfl rfl (by rfl) (by simp [pickB, bxs, ren, idx?, sub_refl, sub, allP, hxl, hyl] <;> omega) (by first | rfl | (simp [hxl, hyl] <;> omega)) (by first | exact trivial | exact ⟨sub_refl _ _, trivial⟩ | exact ⟨sub_refl _ _, sub_refl _ _, trivial⟩ | exact ⟨sub_refl _ _, sub_refl _ _, sub_refl _ _, trivial⟩ | exact ⟨⟨rfl, sub_refl _ _, trivial⟩, sub_refl _ _, trivial⟩ | (simp [cargs, cargsG, St.ev, St.tmp, find, ren, idx?, sub_refl, sub, allP, resv, resC, bss, hxl, hyl] <;> omega)) ?_; clear H; intro a w H; replace H := nf_Roots2 H; first | (simp only [hxl, hyl] at H; replace H := nf_Roots2 H) | skip; try refine wpList_nil ?_
          repeat (first | refine wp_seq ?_ | refine wp_block ?_ | refine wp_skip ?_ | refine wp_exit ?_ | ((first | refine v_some 5 tab_ok hN H (by rfl) (by (try simp only [hxl, hyl]); first | done | exact ct_Roots2) ?_ | refine v_more tab_ok hN H (by rfl) (by rfl) (by (try simp only [hxl, hyl]); first | done | exact ct_Roots2) ?_); clear H; intro a w H; replace H := nf_Roots2 H; first | (simp only [hxl, hyl] at H; replace H := nf_Roots2 H) | skip; (try simp only [List.drop_succ_cons, List.drop_zero, List.drop_nil]); try refine wpList_nil ?_) | refine wp_region_lit ?_)
          refine wp_ret ?_
          exact v_end [] [] tab_ok ⟨hN, hR⟩ (rs := [.cell 6 51, .tmp 7]) (ress := [_, _]) rfl H (by rfl) (by rfl) (by simp [pickB, bxs, ren, idx?, sub_refl, sub, allP, hxl, hyl] <;> omega) (by first | rfl | (simp [hxl, hyl] <;> omega)) (by first | exact trivial | exact ⟨sub_refl _ _, trivial⟩ | exact ⟨sub_refl _ _, sub_refl _ _, trivial⟩ | exact ⟨sub_refl _ _, sub_refl _ _, sub_refl _ _, trivial⟩ | exact ⟨⟨rfl, sub_refl _ _, trivial⟩, sub_refl _ _, trivial⟩ | (simp [cargs, cargsG, St.ev, St.tmp, find, ren, idx?, sub_refl, sub, allP, resv, resC, bss, hxl, hyl] <;> omega)) rfl
end Go.Proofs.Ytpeefeioccglcaa
