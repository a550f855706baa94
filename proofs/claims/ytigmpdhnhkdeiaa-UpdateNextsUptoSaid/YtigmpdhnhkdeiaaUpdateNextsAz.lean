/- New values in a sketch: update.Next, update.Follow. -/
import Derived.Test.YtigmpdhnhkdeiaaXsT
import Derived.Test.YtigmpdhnhkdeiaaMuS
import Derived.Test.YtigmpdhnhkdeiaaReadS
import Derived.Test.YtigmpdhnhkdeiaaSk
set_option linter.unusedSimpArgs false
set_option linter.unusedVariables false
namespace Go.Proofs.Ytigmpdhnhkdeiaa
open Go Go.RowKit
def unB (vs : List (List UInt8)) : Bool := vs.any fun v => decide (1024 < v.length)
def unE (ks : List (List UInt8)) (p : List Br) (vs : List (List UInt8)) : Int := if muE ks p ≠ 0 then muE ks p else if vs.length ≠ ks.length then 2 else if unB vs = true then 4 else 0
def unL (ks : List (List UInt8)) (vs : List (List UInt8)) : List En := ks.zip (vs.map valH)
def unD (ks : List (List UInt8)) (p : List Br) (vs : List (List UInt8)) : List UInt8 := if unE ks p vs = 0 then nxT (muT ks p) (unL ks vs) 0 else List.replicate 32 0
def ufE (root : List UInt8) (ks : List (List UInt8)) (p : List Br) (vs : List (List UInt8)) : Int := if unE ks p vs ≠ 0 then unE ks p vs else if muD ks p = root then 0 else 11
def ufD (root : List UInt8) (ks : List (List UInt8)) (p : List Br) (vs : List (List UInt8)) : List UInt8 := if ufE root ks p vs = 0 then unD ks p vs else List.replicate 32 0
structure UnOk (ks : List (List UInt8)) (p : List Br) (vs : List (List UInt8)) : Prop where
  he : muE ks p = 0
  hl : vs.length = ks.length
  rise : Rise 0 (unL ks vs)
  wd : Wd (unL ks vs)
  len : (unL ks vs).length ≤ 64
  kO : ksOf (unL ks vs) = bas ks
  vO : vsOf (unL ks vs) = bas (vs.map valH)
  tr : ∃ t, muT ks p = t ∧ rdTr (opK ks) 257 (List.replicate 32 0) 0 p = some (t, []) ∧ t.dg.length = 32
theorem un_ok {ks : List (List UInt8)} (hk32 : ∀ k ∈ ks, k.length = 32) {p : List Br} (hw : ∀ b ∈ p, b.wf) {vs : List (List UInt8)} (he : muE ks p = 0) (hl : vs.length = ks.length) : UnOk ks p vs := by
  obtain ⟨h64, _, hu, t, ht, hmt, _, _, _, hd, _⟩ := muE_zero hw he
  have hll : ks.length = (vs.map valH).length := by rw [List.length_map, hl]
  have hf : (unL ks vs).map Prod.fst = ks := zip_fst _ _ hll
  have hs : (unL ks vs).map Prod.snd = vs.map valH := zip_snd _ _ hll
  refine ⟨he, hl, ?_, ?_, ?_, by unfold ksOf; rw [hf], by unfold vsOf; rw [hs], t, hmt, ht, hd⟩
  · have h1 := upK_pair hk32 hu
    rw [← hf, List.pairwise_map] at h1
    exact h1.imp fun h => ⟨fun t ht => absurd ht (Nat.not_lt_zero _), h⟩
  · refine zip_wd hk32 fun k hk => ?_
    obtain ⟨v, _, rfl⟩ := List.mem_map.1 hk
    exact valH_len v
  · have := congrArg List.length hf
    rw [List.length_map] at this; omega
theorem unD_len {ks : List (List UInt8)} (hk32 : ∀ k ∈ ks, k.length = 32) {p : List Br} (hw : ∀ b ∈ p, b.wf) (vs : List (List UInt8)) : (unD ks p vs).length = 32 := by
  unfold unD
  split
  · rename_i h
    have he : muE ks p = 0 := by
      unfold unE at h
      by_cases he : muE ks p = 0
      · exact he
      · rw [if_pos he] at h; exact h
    obtain ⟨_, _, _, t, ht, hmt, _, _, _, hd, _⟩ := muE_zero hw he
    rw [hmt]; exact nxT_len t _ _ hd
  · exact List.length_replicate
section
variable (ks : List (List UInt8)) (hk32 : ∀ k ∈ ks, k.length = 32) (p : List Br) (hw : ∀ b ∈ p, b.wf) (hl1 : ks.length ≤ 34359730000) (hl2 : p.length ≤ 100000) (vs : List (List UInt8)) (hl3 : vs.length ≤ 34359730000) (hvl : ∀ v ∈ vs, v.length ≤ 34359730000)
include hk32 hw hl1 hl2 hl3 hvl
attribute [local irreducible] wpT
set_option maxRecDepth 20000 in
set_option maxHeartbeats 8000000 in
theorem upNext_v : VC Try.prog 49 [.sl (.ba 32) (bas ks) none, .st [.sl brT (brs p) none], .sl .sc (bss vs) none] [] (.tup [.ba (unD ks p vs), .v (.int .i64 (unE ks p vs))]) := by
  have c7 := mcheck_v ks hk32 p hw hl1 (Nat.le_trans hl2 (by decide))
  have hkl := bas_len ks
  have hvsl := bss_len vs
  have hz2 : (List.replicate 32 (0 : UInt8)).length = 32 := List.length_replicate
  refine mE Try.func49 ?_; intro N w0 a w hN hR H
  have hX := And.intro @hkl (And.intro @hvsl (@hz2))
  refine mW ?_; clear H; intro a w H
  refine mCall [] [] (c7) H ?_; clear H; intro a w H; try refine wpList_nil ?_
  by_cases he : muE ks p = 0
  · have hd0 : decide (muE ks p = 0) = true := decide_eq_true he
    clear hX; have hX := And.intro @hkl (And.intro @hvsl (And.intro @hz2 (@hd0)))
    refine mW ?_; clear H; intro a w H
    refine mC H (fun hb => ?_) (fun hb => ?_)
    · exact absurd hb (by simp [hd0])
    · clear hb
      clear hX; have hX := And.intro @hkl (And.intro @hvsl (@hz2))
      refine mW ?_; clear H; intro a w H
      by_cases hvk : vs.length = ks.length
      · have hne : decide ((vs.length : Int) = (ks.length : Int)) = true := decide_eq_true (by omega)
        obtain ⟨_, _, hri, hwd, hlen, hkO, hvO, t, hmt, hrd, htd⟩ := un_ok hk32 hw he hvk
        clear hX; have hX := And.intro @hkl (And.intro @hvsl (And.intro @hz2 (@hne)))
        refine mW ?_; clear H; intro a w H
        refine mC H (fun hb => ?_) (fun hb => ?_)
        · exact absurd hb (by simp [hvk])
        clear hb
        clear hX; have hX := And.intro @hkl (And.intro @hvsl (@hz2))
        refine mW ?_; clear H; intro a w H
        replace H := v_nilE tab_ok H 9 50 (.ba 32) (j := ti50) rfl (by decide) rfl
        simp only [nilT, reduceIte, Nat.reduceEqDiff, List.length_nil, List.nil_append] at H
        replace H := v_ref H 4 0 (Nat.le_trans hN (Nat.le_of_ble_eq_true rfl)) rfl rfl rfl
        simp only [nilT, strip, List.map_cons, List.map_nil, reduceIte, Nat.reduceEqDiff] at H
        refine v_loop (fun i : Nat => ⟨[(29, none, .v (.int .i64 (i : Int))), (28, none, .v (.int .i64 (vs.length : Int))), (27, none, .sl .sc (bss vs) none), (9, none, .sl (.ba 32) (bas ((vs.take i).map valH)) (some 0)), (7, none, .v (.int .i64 0)), (6, none, .ptr 1 []), (4, none, .ref ti44.ty (.st [.sl brT (brs p) none])), (0, none, .sl (.ba 32) (bas ks) none)],
          [(ti44.ty, .st [.sl brT (brs p) none]), (.ba 32, .ba (List.replicate 32 0))], [0], [(50, i)]⟩)
          (fun i => i ≤ vs.length ∧ unB (vs.take i) = false) (fun i => vs.length - i) 0 ⟨Nat.zero_le _, rfl⟩
          (H.to 2 1 ⟨Nat.le_trans hN (Nat.zero_le _), Nat.le_trans hR (Nat.zero_le _)⟩ ⟨rfl, rfl, rfl, rfl, rfl, rfl, rfl, rfl, trivial⟩ rfl rfl rfl rfl rfl) ?_
        clear H
        rintro i a w ⟨hi, hiB⟩ H
        have hol : (bas ((vs.take i).map valH)).length = i := by rw [bas_len, List.length_map, List.length_take]; omega
        clear hX; have hX := And.intro @hkl (And.intro @hvsl (And.intro @hz2 (@hol)))
        refine mW ?_; clear H; intro a w H
        refine mC H (fun hb => ?_) (fun hb => ?_)
        · have hlt : i < vs.length := by rw [decide_eq_true_eq] at hb; omega
          clear hb
          have hg := bss_get vs i hlt
          have hv0 := hvl _ (List.getElem_mem hlt)
          have hval := value_v vs[i] hv0
          have hvh := valH_len vs[i]
          have e2 : bas ((vs.take (i + 1)).map valH) = bas ((vs.take i).map valH) ++ [.ba (valH vs[i])] := by
            rw [List.take_succ_eq_append_getElem hlt, List.map_append]; simp [bas]
          have e3 : unB (vs.take (i + 1)) = decide (1024 < vs[i].length) := by
            rw [List.take_succ_eq_append_getElem hlt]
            unfold unB at hiB ⊢
            rw [List.any_append, hiB]; simp
          have e4 : decide (1024 < vs[i].length) = true → unB vs = true := fun h => by
            unfold unB; rw [List.any_eq_true]; exact ⟨vs[i], List.getElem_mem hlt, h⟩
          generalize vs[i] = v at *
          generalize bas ((vs.take i).map valH) = o at *
          refine mS ?_
          clear hX; have hX := And.intro @hkl (And.intro @hvsl (And.intro @hz2 (And.intro @hol (And.intro @hg (@hvh)))))
          (try refine wp_region_lit ?_); refine mN 1 hN H ?_; clear H; intro a w H
          refine mW ?_; clear H; intro a w H
          refine mC H (fun hb => ?_) (fun hb => ?_)
          · have e : 1024 < v.length := by rw [decide_eq_true_eq] at hb; omega
            clear hb
            have eE : unE ks p vs = 4 := by
              unfold unE; rw [if_neg (by simp [he]), if_neg (by simp [hvk]), if_pos (e4 (decide_eq_true e))]
            have eD : unD ks p vs = List.replicate 32 0 := by unfold unD; rw [eE, if_neg (by decide)]
            rw [eE, eD]
            clear hX; have hX := And.intro @hkl (And.intro @hvsl (@hz2))
            refine mW ?_; clear H; intro a w H
            refine wp_ret ?_; exact mEnd [] [] [.cell 6 50, .tmp 7] [_, _] hN hR H
          · have e : ¬ 1024 < v.length := by rw [decide_eq_false_iff_not] at hb; omega
            clear hb
            rw [decide_eq_false e] at e3
            clear hX; have hX := And.intro @hkl (And.intro @hvsl (And.intro @hz2 (And.intro @hol (@hvh))))
            refine mW ?_; clear H; intro a w H
            refine mCall [] [] (hval) H ?_; clear H; intro a w H; try refine wpList_nil ?_
            refine mW ?_; clear H; intro a w H
            rw [← e2, show (i : Int) + 1 = ((i + 1 : Nat) : Int) by omega] at H
            exact ⟨i + 1, ⟨hlt, e3⟩, by omega, H.to 2 1 ⟨Nat.le_trans hN (Nat.zero_le _), Nat.le_trans hR (Nat.zero_le _)⟩ ⟨rfl, rfl, rfl, rfl, rfl, rfl, rfl, rfl, trivial⟩ rfl rfl rfl rfl rfl⟩
        · have hge : i = vs.length := by rw [decide_eq_false_iff_not] at hb; omega
          clear hb
          rw [hge, List.take_length] at hiB
          have eE : unE ks p vs = 0 := by
            unfold unE; rw [if_neg (by simp [he]), if_neg (by simp [hvk]), if_neg (by rw [hiB]; decide)]
          have eD : unD ks p vs = nxT t (unL ks vs) 0 := by unfold unD; rw [if_pos eE, hmt]
          rw [eE, eD]
          have hnx := unext_v (opK ks) 257 (List.replicate 32 0) 0 p t [] (unL ks vs) (by omega) hrd Low.zero hw hl2 hri hwd (by omega) (fun x _ => by unfold und; simp)
          rw [hkO, hvO] at hnx
          rw [show ((0 : Nat) : Int) = 0 from rfl, show brs [] = ([] : List AV) from rfl] at hnx
          have hnl := nxT_len t (unL ks vs) 0 htd
          generalize nxT t (unL ks vs) 0 = R at *
          rw [hge, List.take_length] at H
          clear hX; have hX := And.intro @hkl (And.intro @hvsl (And.intro @hz2 (@hnl)))
          refine mW ?_; clear H; intro a w H
          refine mCall [] [] (hnx) H ?_; clear H; intro a w H; try refine wpList_nil ?_
          refine mW ?_; clear H; intro a w H
          refine wp_ret ?_; exact mEnd [] [] [.cell 6 50, .tmp 7] [_, _] hN hR H
      · have hne : decide ((vs.length : Int) = (ks.length : Int)) = false := decide_eq_false (by omega)
        have eE : unE ks p vs = 2 := by unfold unE; rw [if_neg (by simp [he]), if_pos hvk]
        have eD : unD ks p vs = List.replicate 32 0 := by unfold unD; rw [eE, if_neg (by decide)]
        rw [eE, eD]
        clear hX; have hX := And.intro @hkl (And.intro @hvsl (And.intro @hz2 (@hne)))
        refine mW ?_; clear H; intro a w H
        refine mC H (fun hb => ?_) (fun hb => ?_)
        · clear hb
          clear hX; have hX := And.intro @hkl (And.intro @hvsl (@hz2))
          refine mW ?_; clear H; intro a w H
          refine wp_ret ?_; exact mEnd [] [] [.cell 6 50, .tmp 7] [_, _] hN hR H
        · simp [hne] at hb
  · have hd0 : decide (muE ks p = 0) = false := decide_eq_false he
    have eE : unE ks p vs = muE ks p := by unfold unE; rw [if_pos he]
    have eD : unD ks p vs = List.replicate 32 0 := by unfold unD; rw [eE, if_neg he]
    rw [eE, eD]
    generalize muE ks p = e at *
    clear hX; have hX := And.intro @hkl (And.intro @hvsl (And.intro @hz2 (@hd0)))
    refine mW ?_; clear H; intro a w H
    refine mC H (fun hb => ?_) (fun hb => ?_)
    · clear hb
      clear hX; have hX := And.intro @hkl (And.intro @hvsl (@hz2))
      refine mW ?_; clear H; intro a w H
      refine wp_ret ?_; exact mEnd [] [] [.cell 6 50, .tmp 7] [_, _] hN hR H
    · simp [hd0] at hb
set_option maxRecDepth 20000 in
set_option maxHeartbeats 8000000 in
theorem upFollow_v (root : List UInt8) (hroot : root.length = 32) : VC Try.prog 51 [.ba root, .sl (.ba 32) (bas ks) none, .st [.sl brT (brs p) none], .sl .sc (bss vs) none] [] (.tup [.ba (ufD root ks p vs), .v (.int .i64 (ufE root ks p vs))]) := by
  have c1 := upNext_v ks hk32 p hw hl1 hl2 vs hl3 hvl
  have c2 := mroot_v ks hk32 p hw hl1 (Nat.le_trans hl2 (by decide))
  have hUl := unD_len hk32 hw vs
  have hD := muD_len (ks := ks) hw
  have hz2 : (List.replicate 32 (0 : UInt8)).length = 32 := List.length_replicate
  unfold ufD ufE
  generalize unE ks p vs = e at *
  generalize unD ks p vs = U at *
  generalize muD ks p = D at *
  refine mE Try.func51 ?_; intro N w0 a w hN hR H
  have hX := And.intro @hz2 (And.intro @hUl (And.intro @hD (@hroot)))
  refine mW ?_; clear H; intro a w H
  refine mCall [] [] (c1) H ?_; clear H; intro a w H; try refine wpList_nil ?_
  by_cases he : e = 0
  · have hd0 : decide (e = 0) = true := decide_eq_true he
    rw [if_neg (show ¬ (e ≠ 0) from fun h => h he)]
    clear hX; have hX := And.intro @hz2 (And.intro @hUl (And.intro @hD (And.intro @hroot (@hd0))))
    refine mW ?_; clear H; intro a w H
    refine mC H (fun hb => ?_) (fun hb => ?_)
    · exact absurd hb (by simp [hd0])
    · clear hb
      clear hX; have hX := And.intro @hz2 (And.intro @hUl (And.intro @hD (@hroot)))
      refine mW ?_; clear H; intro a w H
      refine mCall [] [] (c2) H ?_; clear H; intro a w H; try refine wpList_nil ?_
      refine mW ?_; clear H; intro a w H
      by_cases hDr : D = root
      · rw [if_pos hDr, if_pos rfl]
        subst hDr
        refine mC H (fun hb => ?_) (fun hb => ?_)
        · simp at hb
        · clear hb
          clear hX; have hX := And.intro @hz2 (And.intro @hUl (@hD))
          refine mW ?_; clear H; intro a w H
          refine wp_ret ?_; exact mEnd [] [] [.cell 8 50, .tmp 9] [_, _] hN hR H
      · rw [if_neg hDr, if_neg (by decide)]
        refine mC H (fun hb => ?_) (fun hb => ?_)
        · clear hb
          refine mW ?_; clear H; intro a w H
          refine wp_ret ?_; exact mEnd [] [] [.cell 8 50, .tmp 9] [_, _] hN hR H
        · simp [hDr] at hb
  · have hd0 : decide (e = 0) = false := decide_eq_false he
    rw [if_pos he, if_neg he]
    clear hX; have hX := And.intro @hz2 (And.intro @hUl (And.intro @hD (And.intro @hroot (@hd0))))
    refine mW ?_; clear H; intro a w H
    refine mC H (fun hb => ?_) (fun hb => ?_)
    · clear hb
      clear hX; have hX := And.intro @hz2 (And.intro @hUl (And.intro @hD (@hroot)))
      refine mW ?_; clear H; intro a w H
      refine wp_ret ?_; exact mEnd [] [] [.cell 8 50, .tmp 9] [_, _] hN hR H
    · simp [hd0] at hb
end
end Go.Proofs.Ytigmpdhnhkdeiaa
/- The document's new values in a sketch: ref22.Next, ref22.Follow. -/
namespace Go.Proofs.Ytigmpdhnhkdeiaa
open Go Go.RowKit
theorem thr_all (q : List UInt8) (l : List En) : thr 0 q l = l := List.filter_eq_self.2 fun x _ => by unfold und; simp
theorem unL_step (ks vs : List (List UInt8)) (i : Nat) (h1 : i < ks.length) (h2 : i < vs.length) : (unL ks vs).take (i + 1) = (unL ks vs).take i ++ [(ks[i], valH vs[i])] := by
  have hl : i < (unL ks vs).length := by unfold unL; rw [List.length_zip, List.length_map]; omega
  rw [List.take_succ_eq_append_getElem hl]
  have e : (unL ks vs)[i] = (ks[i], (vs.map valH)[i]'(by rw [List.length_map]; exact h2)) := List.getElem_zip
  rw [e, List.getElem_map]
attribute [local irreducible] wpT
set_option maxRecDepth 20000 in
set_option maxHeartbeats 8000000 in
theorem uqNext_v (ks : List (List UInt8)) (hk32 : ∀ k ∈ ks, k.length = 32) (p : List Br) (hw : ∀ b ∈ p, b.wf) (hl1 : ks.length ≤ 34359730000) (hl2 : p.length ≤ 100000) (vs : List (List UInt8)) (hl3 : vs.length ≤ 34359730000) (hvl : ∀ v ∈ vs, v.length ≤ 34359730000) : VC Try.prog 50 [.sl (.ba 32) (bas ks) none, .st [.sl brT (brs p) none], .sl .sc (bss vs) none] [] (.tup [.ba (unD ks p vs), .v (.int .i64 (unE ks p vs))]) := by
  have c7 := places20_v ks hk32 p hw hl1 (Nat.le_trans hl2 (by decide))
  have hkl := bas_len ks
  have hvsl := bss_len vs
  have hz2 : (List.replicate 32 (0 : UInt8)).length = 32 := List.length_replicate
  refine mE Try.func50 ?_; intro N w0 a w hN hR H
  have hX := And.intro @hkl (And.intro @hvsl (@hz2))
  refine mW ?_; clear H; intro a w H
  refine mCall [] [] (c7) H ?_; clear H; intro a w H; try refine wpList_nil ?_
  by_cases he : muE ks p = 0
  · have hd0 : decide (muE ks p = 0) = true := decide_eq_true he
    obtain ⟨_, _, _, t0, ht0, hmt0, hmp, hok, hnum, _, _⟩ := muE_zero hw he
    clear hX; have hX := And.intro @hkl (And.intro @hvsl (And.intro @hz2 (@hd0)))
    refine mW ?_; clear H; intro a w H
    refine mC H (fun hb => ?_) (fun hb => ?_)
    · exact absurd hb (by simp [hd0])
    · clear hb
      clear hX; have hX := And.intro @hkl (And.intro @hvsl (@hz2))
      refine mW ?_; clear H; intro a w H
      by_cases hvk : vs.length = ks.length
      · have hne : decide ((vs.length : Int) = (ks.length : Int)) = true := decide_eq_true (by omega)
        obtain ⟨_, _, hri, hwd, hlen, hkO, hvO, t, hmt, hrd, htd⟩ := un_ok hk32 hw he hvk
        have htt : t0 = t := by rw [← hmt0, hmt]
        subst htt
        rw [hmp] at H
        have hfst : (unL ks vs).map Prod.fst = ks := zip_fst _ _ (by rw [List.length_map, hvk])
        have hLl : (unL ks vs).length = vs.length := by have := congrArg List.length hfst; rw [List.length_map] at this; omega
        have hdig := digest_v (t0.pl (List.replicate 32 0) 0) (by rw [Tr.pl_len]; omega) ks (unL ks vs) hfst hwd hri (by omega) t0 0 0 (List.replicate 32 0) (AtP.top _ _ _) hok (rd_opn hrd) Low.zero (by omega) htd
        rw [thr_all, show ((0 : Nat) : Int) = 0 from rfl] at hdig
        generalize t0.pl (List.replicate 32 0) 0 = L at *
        clear hX; have hX := And.intro @hkl (And.intro @hvsl (And.intro @hz2 (@hne)))
        refine mW ?_; clear H; intro a w H
        refine mC H (fun hb => ?_) (fun hb => ?_)
        · exact absurd hb (by simp [hvk])
        clear hb
        clear hX; have hX := And.intro @hkl (And.intro @hvsl (@hz2))
        refine mW ?_; clear H; intro a w H
        replace H := v_nilE tab_ok H 10 226 enT (j := ti226) rfl (by decide) rfl
        simp only [nilT, reduceIte, Nat.reduceEqDiff, List.length_nil, List.nil_append] at H
        replace H := v_ref H 4 0 (Nat.le_trans hN (Nat.le_of_ble_eq_true rfl)) rfl rfl rfl
        simp only [nilT, strip, List.map_cons, List.map_nil, reduceIte, Nat.reduceEqDiff] at H
        refine v_loop (fun i : Nat => ⟨[(11, none, .v (.int .i64 (i : Int))), (10, none, .sl enT (ens ((unL ks vs).take i)) (some 0)), (8, none, .sl plT (pls L) none), (7, none, .v (.int .i64 0)), (6, none, .ptr 1 []), (2, none, .sl .sc (bss vs) none), (0, none, .sl (.ba 32) (bas ks) none)],
          [(ti44.ty, .st [.sl brT (brs p) none]), (.ba 32, .ba (List.replicate 32 0))], [0], [(226, i)]⟩)
          (fun i => i ≤ vs.length ∧ unB (vs.take i) = false) (fun i => vs.length - i) 0 ⟨Nat.zero_le _, rfl⟩
          (H.to 2 1 ⟨Nat.le_trans hN (Nat.zero_le _), Nat.le_trans hR (Nat.zero_le _)⟩ ⟨rfl, rfl, rfl, rfl, rfl, rfl, rfl, trivial⟩ rfl rfl rfl rfl rfl) ?_
        clear H
        rintro i a w ⟨hi, hiB⟩ H
        have hol : (ens ((unL ks vs).take i)).length = i := by rw [ens_len, List.length_take]; omega
        clear hX; have hX := And.intro @hkl (And.intro @hvsl (And.intro @hz2 (@hol)))
        refine mW ?_; clear H; intro a w H
        refine mC H (fun hb => ?_) (fun hb => ?_)
        · have hlt : i < vs.length := by rw [decide_eq_true_eq] at hb; omega
          clear hb
          have hltk : i < ks.length := by omega
          have hg := bss_get vs i hlt
          have hgk := bas_get ks i hltk
          have hq := hk32 _ (List.getElem_mem hltk)
          have hv0 := hvl _ (List.getElem_mem hlt)
          have hval := valueR_v vs[i] hv0
          have hvh := valH_len vs[i]
          have e2 : ens ((unL ks vs).take (i + 1)) = ens ((unL ks vs).take i) ++ [.st [.ba ks[i], .ba (valH vs[i])]] := by
            rw [unL_step ks vs i hltk hlt]; exact ens_app _ _
          have e3 : unB (vs.take (i + 1)) = decide (1024 < vs[i].length) := by
            rw [List.take_succ_eq_append_getElem hlt]
            unfold unB at hiB ⊢
            rw [List.any_append, hiB]; simp
          have e4 : decide (1024 < vs[i].length) = true → unB vs = true := fun h => by
            unfold unB; rw [List.any_eq_true]; exact ⟨vs[i], List.getElem_mem hlt, h⟩
          generalize vs[i] = v at *
          generalize ks[i] = kk at *
          generalize valH v = vh at *
          generalize ens ((unL ks vs).take i) = o at *
          refine mS ?_
          clear hX; have hX := And.intro @hkl (And.intro @hvsl (And.intro @hz2 (And.intro @hol (And.intro @hg (And.intro @hgk (And.intro @hvh (@hq)))))))
          (try refine wp_region_lit ?_); refine mN 3 hN H ?_; clear H; intro a w H
          refine mW ?_; clear H; intro a w H
          refine mC H (fun hb => ?_) (fun hb => ?_)
          · have e : 1024 < v.length := by rw [decide_eq_true_eq] at hb; omega
            clear hb
            have eE : unE ks p vs = 4 := by
              unfold unE; rw [if_neg (by simp [he]), if_neg (by simp [hvk]), if_pos (e4 (decide_eq_true e))]
            have eD : unD ks p vs = List.replicate 32 0 := by unfold unD; rw [eE, if_neg (by decide)]
            rw [eE, eD]
            clear hX; have hX := And.intro @hkl (And.intro @hvsl (@hz2))
            refine mW ?_; clear H; intro a w H
            refine wp_ret ?_; exact mEnd [] [] [.cell 6 50, .tmp 7] [_, _] hN hR H
          · have e : ¬ 1024 < v.length := by rw [decide_eq_false_iff_not] at hb; omega
            clear hb
            rw [decide_eq_false e] at e3
            refine mS ?_
            refine mS ?_; refine mD 0 [9, 11, 12] [0, 1, 2, 3, 4] H ?_; clear H; intro gS H
            refine mTN 4 hN H ?_; clear H; intro a w H; simp only [List.drop_succ_cons, List.drop_zero, List.drop_nil]
            refine mTN 4 hN H ?_; clear H; intro a w H; simp only [List.drop_succ_cons, List.drop_zero, List.drop_nil]
            refine mT ?_; clear H; intro a w H
            refine mCallT [] [] (hval) H ?_; clear H; intro a w H
            refine mT ?_; clear H; intro a w H
            refine v_drawNil H ?_; clear H; intro H
            refine mW ?_; clear H; intro a w H
            rw [← e2, show (i : Int) + 1 = ((i + 1 : Nat) : Int) by omega] at H
            exact ⟨i + 1, ⟨hlt, e3⟩, by omega, H.to 2 1 ⟨Nat.le_trans hN (Nat.zero_le _), Nat.le_trans hR (Nat.zero_le _)⟩ ⟨rfl, rfl, rfl, rfl, rfl, rfl, rfl, trivial⟩ rfl rfl rfl rfl rfl⟩
        · have hge : i = vs.length := by rw [decide_eq_false_iff_not] at hb; omega
          clear hb
          rw [hge, List.take_length] at hiB
          have eE : unE ks p vs = 0 := by
            unfold unE; rw [if_neg (by simp [he]), if_neg (by simp [hvk]), if_neg (by rw [hiB]; decide)]
          have eD : unD ks p vs = nxT t0 (unL ks vs) 0 := by unfold unD; rw [if_pos eE, hmt]
          rw [eE, eD]
          have hnl := nxT_len t0 (unL ks vs) 0 htd
          generalize nxT t0 (unL ks vs) 0 = R at *
          rw [hge, ← hLl, List.take_length] at H
          generalize unL ks vs = EL at *
          generalize ens EL = EA at *
          replace H := v_sub H 10 (x := .sl enT EA (some 0)) (y := .sl enT EA none) ⟨rfl, rfl⟩ rfl (fun az h => by cases h) rfl
          simp only [nilT, reduceIte, Nat.reduceEqDiff] at H
          clear hX; have hX := And.intro @hkl (And.intro @hvsl (And.intro @hz2 (@hnl)))
          replace H := mK [6, 7, 8, 10] 2 0 hN hR H
          refine mW ?_; clear H; intro a w H
          refine mCall [] [] (hdig) H ?_; clear H; intro a w H; try refine wpList_nil ?_
          refine mW ?_; clear H; intro a w H
          refine wp_ret ?_
          refine v_end (nb := 0) (nr := 0) [] [] tab_ok ⟨hN, hR⟩ (rs := [.cell 6 50, .tmp 7]) (ress := [.ba R, .v (.int .i64 0)]) (bx' := []) (rw' := []) (fz' := []) ?_ H ?_ ?_ ?_ ?_ ?_ ?_
          · rfl
          · rfl
          · rfl
          · trivial
          · rfl
          · exact ⟨sub_refl 4 (.ba R), sub_refl 4 (.v (.int .i64 0)), trivial⟩
          · rfl
      · have hne : decide ((vs.length : Int) = (ks.length : Int)) = false := decide_eq_false (by omega)
        have eE : unE ks p vs = 2 := by unfold unE; rw [if_neg (by simp [he]), if_pos hvk]
        have eD : unD ks p vs = List.replicate 32 0 := by unfold unD; rw [eE, if_neg (by decide)]
        rw [eE, eD]
        clear hX; have hX := And.intro @hkl (And.intro @hvsl (And.intro @hz2 (@hne)))
        refine mW ?_; clear H; intro a w H
        refine mC H (fun hb => ?_) (fun hb => ?_)
        · clear hb
          clear hX; have hX := And.intro @hkl (And.intro @hvsl (@hz2))
          refine mW ?_; clear H; intro a w H
          refine wp_ret ?_; exact mEnd [] [] [.cell 6 50, .tmp 7] [_, _] hN hR H
        · simp [hne] at hb
  · have hd0 : decide (muE ks p = 0) = false := decide_eq_false he
    have eE : unE ks p vs = muE ks p := by unfold unE; rw [if_pos he]
    have eD : unD ks p vs = List.replicate 32 0 := by unfold unD; rw [eE, if_neg he]
    rw [eE, eD]
    generalize muE ks p = e at *
    clear hX; have hX := And.intro @hkl (And.intro @hvsl (And.intro @hz2 (@hd0)))
    refine mW ?_; clear H; intro a w H
    refine mC H (fun hb => ?_) (fun hb => ?_)
    · clear hb
      clear hX; have hX := And.intro @hkl (And.intro @hvsl (@hz2))
      refine mW ?_; clear H; intro a w H
      refine wp_ret ?_; exact mEnd [] [] [.cell 6 50, .tmp 7] [_, _] hN hR H
    · simp [hd0] at hb
set_option maxRecDepth 20000 in
set_option maxHeartbeats 8000000 in
theorem uqFollow_v (ks : List (List UInt8)) (hk32 : ∀ k ∈ ks, k.length = 32) (p : List Br) (hw : ∀ b ∈ p, b.wf) (hl1 : ks.length ≤ 34359730000) (hl2 : p.length ≤ 100000) (vs : List (List UInt8)) (hl3 : vs.length ≤ 34359730000) (hvl : ∀ v ∈ vs, v.length ≤ 34359730000) (root : List UInt8) (hroot : root.length = 32) : VC Try.prog 52 [.ba root, .sl (.ba 32) (bas ks) none, .st [.sl brT (brs p) none], .sl .sc (bss vs) none] [] (.tup [.ba (ufD root ks p vs), .v (.int .i64 (ufE root ks p vs))]) := by
  have c1 := uqNext_v ks hk32 p hw hl1 hl2 vs hl3 hvl
  have c2 := places20_v ks hk32 p hw hl1 (Nat.le_trans hl2 (by decide))
  have hUl := unD_len hk32 hw vs
  have hz2 : (List.replicate 32 (0 : UInt8)).length = 32 := List.length_replicate
  have hEz : unE ks p vs = 0 → muE ks p = 0 := fun h => by
    unfold unE at h
    by_cases he : muE ks p = 0
    · exact he
    · rw [if_pos he] at h; exact h
  unfold ufD ufE
  by_cases he : unE ks p vs = 0
  · have hd0 : decide (unE ks p vs = 0) = true := decide_eq_true he
    rw [if_neg (show ¬ (unE ks p vs ≠ 0) from fun h => h he)]
    obtain ⟨_, _, _, t, ht, hmt, hmp, _, _, hdl, _⟩ := muE_zero hw (hEz he)
    have hD : muD ks p = t.dg := by unfold muD; rw [if_pos (hEz he), hmt]
    have hPl := pls_len (t.pl (List.replicate 32 0) 0)
    rw [t.pl_len] at hPl
    have hnp := t.num_pos
    have hg0 : ∃ x1 x2 x3 x4, (pls (muPl ks p)).getD 0 .any = .st [x1, .ba (muD ks p), x2, x3, x4] := by
      rw [hmp, hD]
      cases t <;> exact ⟨_, _, _, _, rfl⟩
    rw [← hmp] at hPl
    rw [← hD] at hdl
    obtain ⟨x1, x2, x3, x4, hg0⟩ := hg0
    clear ht hmt hmp hEz
    generalize unE ks p vs = e at *
    generalize unD ks p vs = U at *
    generalize muE ks p = me at *
    generalize pls (muPl ks p) = PL at *
    generalize muD ks p = D at *
    refine mE Try.func52 ?_; intro N w0 a w hN hR H
    have hX := And.intro @hz2 (And.intro @hUl (And.intro @hroot (@hd0)))
    refine mW ?_; clear H; intro a w H
    refine mCall [] [] (c1) H ?_; clear H; intro a w H; try refine wpList_nil ?_
    refine mW ?_; clear H; intro a w H
    refine mC H (fun hb => ?_) (fun hb => ?_)
    · exact absurd hb (by simp [hd0])
    · clear hb
      replace H := v_ref H 4 0 (Nat.le_trans hN (Nat.le_of_ble_eq_true rfl)) rfl rfl rfl
      simp only [nilT, strip, List.map_cons, List.map_nil, reduceIte, Nat.reduceEqDiff] at H
      clear hX; have hX := And.intro @hz2 (And.intro @hUl (And.intro @hdl (And.intro @hroot (And.intro @hPl (@hg0)))))
      refine mW ?_; clear H; intro a w H
      refine mCall [] [] (c2) H ?_; clear H; intro a w H; try refine wpList_nil ?_
      refine mW ?_; clear H; intro a w H
      refine mS ?_; refine mD 0 [] [] H ?_; clear H; intro gS H
      refine mTN 2 hN H ?_; clear H; intro a w H; simp only [List.drop_succ_cons, List.drop_zero, List.drop_nil]
      refine mT ?_; clear H; intro a w H
      refine v_drawNil H ?_; clear H; intro H
      by_cases hDr : D = root
      · rw [if_pos hDr, if_pos rfl]
        subst hDr
        refine mC H (fun hb => ?_) (fun hb => ?_)
        · simp at hb
        · clear hb
          clear hX; have hX := And.intro @hz2 (@hUl)
          refine mW ?_; clear H; intro a w H
          refine wp_ret ?_; exact mEnd [] [] [.cell 8 50, .tmp 9] [_, _] hN hR H
      · rw [if_neg hDr, if_neg (by decide)]
        refine mC H (fun hb => ?_) (fun hb => ?_)
        · clear hb
          clear hX; have hX := And.intro @hz2 (And.intro @hUl (@hroot))
          refine mW ?_; clear H; intro a w H
          refine wp_ret ?_; exact mEnd [] [] [.cell 8 50, .tmp 9] [_, _] hN hR H
        · simp [hDr] at hb
  · have hd0 : decide (unE ks p vs = 0) = false := decide_eq_false he
    rw [if_pos he, if_neg he]
    generalize unE ks p vs = e at *
    generalize unD ks p vs = U at *
    refine mE Try.func52 ?_; intro N w0 a w hN hR H
    have hX := And.intro @hz2 (And.intro @hUl (And.intro @hroot (@hd0)))
    refine mW ?_; clear H; intro a w H
    refine mCall [] [] (c1) H ?_; clear H; intro a w H; try refine wpList_nil ?_
    refine mW ?_; clear H; intro a w H
    refine mC H (fun hb => ?_) (fun hb => ?_)
    · clear hb
      clear hX; have hX := And.intro @hz2 (And.intro @hUl (@hroot))
      refine mW ?_; clear H; intro a w H
      refine wp_ret ?_; exact mEnd [] [] [.cell 8 50, .tmp 9] [_, _] hN hR H
    · simp [hd0] at hb
end Go.Proofs.Ytigmpdhnhkdeiaa
/- Keys that are the same, sketches that are the same: law20.samePaths, Same. -/
namespace Go.Proofs.Ytigmpdhnhkdeiaa
open Go Go.RowKit
theorem brs_at (l : List Br) (i : Nat) (h : i < l.length) : (brs l).getD i .any = l[i].av := by simp [brs, List.getD_eq_getElem?_getD, h]
attribute [local irreducible] wpT
set_option maxRecDepth 20000 in
set_option maxHeartbeats 4000000 in
theorem sameMu_v (p : List Br) (hw : ∀ b ∈ p, b.wf) (hl : p.length ≤ 34359730000) : VC Try.prog 34 [.st [.sl brT (brs p) none], .st [.sl brT (brs p) none]] [] (.v (.bool true)) := by
  have hpl := brs_len p
  refine mE Try.func34 ?_; intro N w0 a w hN hR H
  have hX := @hpl
  refine mW ?_; clear H; intro a w H
  refine mC H (fun hb => ?_) (fun hb => ?_)
  · simp at hb
  · clear hb
    refine mS ?_
    replace H := mK [2, 3, 4] 2 0 hN hR H
    refine mW ?_; clear H; intro a w H
    refine v_loop (fun i : Nat => ⟨[(5, none, .v (.int .i64 (i : Int))), (4, none, .v (.bool false)), (3, none, .ptr 1 []), (2, none, .ptr 0 [])], [(ti44.ty, .st [.sl brT (brs p) none]), (ti44.ty, .st [.sl brT (brs p) none])], [], []⟩)
      (fun i => i ≤ p.length) (fun i => p.length - i) 0 (Nat.zero_le _) (H.to 2 0 ⟨Nat.le_trans hN (Nat.zero_le _), hR⟩ ⟨rfl, rfl, rfl, rfl, trivial⟩ rfl rfl rfl rfl rfl) ?_
    clear H
    intro i a w hi H
    refine mW ?_; clear H; intro a w H
    refine mC H (fun hb => ?_) (fun hb => ?_)
    · have hlt : i < p.length := by rw [decide_eq_true_eq] at hb; omega
      clear hb
      have hg := brs_at p i hlt
      obtain ⟨b1, b2, b3⟩ := hw _ (List.getElem_mem hlt)
      generalize p[i] = b at *
      obtain ⟨bk, bkey, bv, bg⟩ := b
      simp only [Br.av] at hg
      dsimp only at b1 b2 b3
      clear hX; have hX := And.intro @hpl (And.intro @hg (And.intro @b1 (And.intro @b2 (@b3))))
      refine mS ?_; refine mD 2 [] [] H ?_; clear H; intro gS H
      refine mTN 4 hN H ?_; clear H; intro a w H; simp only [List.drop_succ_cons, List.drop_zero, List.drop_nil]
      refine mTN 5 hN H ?_; clear H; intro a w H; simp only [List.drop_succ_cons, List.drop_zero, List.drop_nil]
      refine mT ?_; clear H; intro a w H
      refine v_drawNil H ?_; clear H; intro H
      refine mC H (fun hb => ?_) (fun hb => ?_)
      · simp at hb
      · clear hb
        refine mS ?_
        replace H := mK [2, 3, 4, 5] 2 0 hN hR H
        refine mW ?_; clear H; intro a w H
        rw [show (i : Int) + 1 = ((i + 1 : Nat) : Int) by omega] at H
        exact ⟨i + 1, hlt, by omega, H.to 2 0 ⟨Nat.le_trans hN (Nat.zero_le _), hR⟩ ⟨rfl, rfl, rfl, rfl, trivial⟩ rfl rfl rfl rfl rfl⟩
    · clear hb
      refine mW ?_; clear H; intro a w H
      refine wp_ret ?_; exact mEnd [] [] [.tmp 4] [_] hN hR H
end Go.Proofs.Ytigmpdhnhkdeiaa
/- A sketch is copied: law20.Copy. -/
namespace Go.Proofs.Ytigmpdhnhkdeiaa
open Go Go.RowKit
attribute [local irreducible] wpT
set_option maxRecDepth 20000 in
set_option maxHeartbeats 4000000 in
theorem copyMu_v (p : List Br) (hw : ∀ b ∈ p, b.wf) (hl : p.length ≤ 34359730000) : VC Try.prog 24 [.st [.sl brT (brs p) none]] [] (.st [.sl brT (brs p) none]) := by
  have hpl := brs_len p
  refine mE Try.func24 ?_; intro N w0 a w hN hR H
  refine mS ?_
  have hX := @hpl
  (try refine wp_region_lit ?_); refine mN 2 hN H ?_; clear H; intro a w H
  refine wpList_nil ?_
  refine mS ?_
  (try refine wp_region_lit ?_); refine mN 4 hN H ?_; clear H; intro a w H
  simp only [List.replicate_zero, List.nil_append] at H
  replace H := v_sub H 6 (x := .sl brT (brs p) (some 0)) (y := .sl brT (brs p) none) ⟨rfl, rfl⟩ rfl (fun az h => by cases h) rfl
  simp only [nilT, reduceIte, Nat.reduceEqDiff] at H
  replace H := mK [1, 2, 6] 2 0 hN hR H
  refine mW ?_; clear H; intro a w H
  refine wp_ret ?_; exact mEnd [] [] [.cell 2 44] [_] hN hR H
end Go.Proofs.Ytigmpdhnhkdeiaa
/- Bytes that were lent are as they were. -/
namespace Go.Proofs.Ytigmpdhnhkdeiaa
open Go Go.RowKit
set_option maxRecDepth 20000 in
theorem kept_v (l : List UInt8) (hl : l.length ≤ 34359738000) : VC Try.prog 22 [.bc (lentOf l) l.length none, .bs l none] [] (.v (.bool true)) := by
  have hll := lent_len l
  have e1 := lent_v l hl
  have h5 : ((l.length : Int) + 5).toNat = l.length + 5 := by omega
  have hT : (lentOf l).take (l.length + 5) = lentOf l := List.take_of_length_le (by omega)
  refine mE Try.func22 ?_; intro N w0 a w hN hR H
  refine mW ?_; clear H; intro a w H
  have hX := And.intro @h5 (And.intro @hT (And.intro @strOf_list (@beq_self_eq_true.{0})))
  refine mS ?_; refine mD 0 [6] [0, 1, 2, 3, 4, 7, 8, 9] H ?_; clear H; intro gS H; refine mT ?_; clear H; intro a w H
  refine mCallT [] [] (e1) H ?_; clear H; intro a w H
  refine mT ?_; clear H; intro a w H
  refine v_drawNil H ?_; clear H; intro H
  refine mW ?_; clear H; intro a w H
  refine wp_ret ?_; exact mEnd [] [] [.tmp 4] [_] hN hR H
end Go.Proofs.Ytigmpdhnhkdeiaa
/- Lent bytes that are on their own. -/
namespace Go.Proofs.Ytigmpdhnhkdeiaa
open Go Go.RowKit
theorem lentX_seeC {X : List XR} {x : XR} {b : List UInt8} (hx : x ∈ X) (h : x.n = b.length ∧ x.c = (lentOf b).length ∧ x.k = (lentOf b).length ∧ x.cells = (lentOf b).map B8) : SeeX X (.v x.v) (.bc (lentOf b) b.length none) := by
  obtain ⟨h1, h2, h3, h4⟩ := h
  have := SeeX.pubc (X := X) x (lentOf b) hx (by omega) h2 h4
  rwa [h1] at this
/-- Lent bytes, on their own. -/
def XT (x : XR) (b : List UInt8) : Prop := x.n = b.length ∧ x.c = (lentOf b).length ∧ x.k = (lentOf b).length ∧ x.cells = (lentOf b).map B8
theorem lent_E (l : List UInt8) (hl : l.length ≤ 34359738000) : VE Try.prog 14 [.bs l none] (fun X bx rw res => bx = [] ∧ rw = [] ∧ ∃ x : XR, X = [x] ∧ res = .v x.v ∧ XT x l) := VE.ofC (lent_v l hl)
def XTL (X : List XR) (ls : List (List UInt8)) : Prop := X.length = ls.length ∧ ∀ i (h1 : i < X.length) (h2 : i < ls.length), XT X[i] ls[i]
theorem XTL.nil : XTL [] [] := ⟨rfl, fun i h => (by cases h)⟩
theorem XTL.snoc {X : List XR} {ls : List (List UInt8)} {x : XR} {l : List UInt8} (h : XTL X ls) (hx : XT x l) : XTL (X ++ [x]) (ls ++ [l]) := by
  refine ⟨by simp [h.1], fun i h1 h2 => ?_⟩
  rw [List.length_append, List.length_singleton] at h1 h2
  by_cases hi : i < X.length
  · rw [List.getElem_append_left hi, List.getElem_append_left (by rw [← h.1]; exact hi)]; exact h.2 i hi (by rw [← h.1]; exact hi)
  · have e1 : i = X.length := by omega
    have e2 : i = ls.length := by rw [← h.1]; exact e1
    rw [List.getElem_append_right (by omega), List.getElem_append_right (by omega)]
    simp only [List.getElem_singleton]
    exact hx
end Go.Proofs.Ytigmpdhnhkdeiaa
/- A span that is lent, its values on their own: law24.Lent. -/
namespace Go.Proofs.Ytigmpdhnhkdeiaa
open Go Go.RowKit
attribute [local irreducible] wpT
end Go.Proofs.Ytigmpdhnhkdeiaa
/- Spans that are the same, spans that are kept. -/
namespace Go.Proofs.Ytigmpdhnhkdeiaa
open Go Go.RowKit
attribute [local irreducible] wpT
/-- Lent bytes in a list. -/
def bcs (l : List (List UInt8)) : List AV := l.map fun b => .bc (lentOf b) b.length none
theorem bcs_len (l : List (List UInt8)) : (bcs l).length = l.length := by simp [bcs]
theorem bcs_get (l : List (List UInt8)) (i : Nat) (h : i < l.length) : (bcs l).getD i .any = .bc (lentOf l[i]) l[i].length none := by simp [bcs, List.getD_eq_getElem?_getD, h]
theorem bcs_see (l : List (List UInt8)) {T : Ty} {tok : Option Nat} {X : List XR} : SeeX X (.sl T (bcs l) tok) (.sl T (bss l) none) := by
  refine .sl (by rw [bcs_len, bss_len]) fun i h1 h2 => ?_
  have : SeeX X (.bc (lentOf (l[i]'(by simpa [bcs_len] using h1))) (l[i]'(by simpa [bcs_len] using h1)).length none) (.bs (l[i]'(by simpa [bcs_len] using h1)) none) := .bc _ _ _ _ (by simp [lentOf])
  simpa [bcs, bss] using this
end Go.Proofs.Ytigmpdhnhkdeiaa
/- UpdateNexts, in values. -/
namespace Go.Proofs.Ytigmpdhnhkdeiaa
open Go Go.RowKit
theorem XTL.seeB {X Y : List XR} {ls : List (List UInt8)} (h : XTL X ls) (hY : ∀ x ∈ X, x ∈ Y) {T : Ty} {tok : Option Nat} : SeeX Y (.sl T (vas (X.map XR.v)) tok) (.sl T (bcs ls) none) := by
  refine .sl (by rw [vas_len, List.length_map, bcs_len]; exact h.1) fun i h1 h2 => ?_
  rw [vas_len, List.length_map] at h1
  rw [bcs_len] at h2
  have := lentX_seeC (hY _ (List.getElem_mem h1)) (h.2 i h1 h2)
  simpa [vas, bcs] using this
/-- The roots that are asked. -/
def unR (root : List UInt8) (ks : List (List UInt8)) (p : List Br) : List (List UInt8) := if muE ks p = 0 then [root, muD ks p] else [root]
theorem unR_32 {root : List UInt8} (hr : root.length = 32) {ks : List (List UInt8)} {p : List Br} (hw : ∀ b ∈ p, b.wf) : ∀ r ∈ unR root ks p, r.length = 32 := fun r h => by
  have hD := muD_len (ks := ks) hw
  unfold unR at h
  split at h
  · simp only [List.mem_cons, List.not_mem_nil, or_false] at h
    rcases h with rfl | rfl
    · exact hr
    · exact hD
  · rw [List.mem_singleton.1 h]; exact hr
theorem ufE_len {root : List UInt8} {ks : List (List UInt8)} (hk32 : ∀ k ∈ ks, k.length = 32) {p : List Br} (hw : ∀ b ∈ p, b.wf) (vs : List (List UInt8)) : (ufD root ks p vs).length = 32 := by
  unfold ufD
  split
  · exact unD_len hk32 hw vs
  · exact List.length_replicate
attribute [local irreducible] wpT
set_option maxRecDepth 20000 in
set_option maxHeartbeats 16000000 in
theorem updateNexts_v (ks : List (List UInt8)) (hk32 : ∀ k ∈ ks, k.length = 32) (p : List Br) (hw : ∀ b ∈ p, b.wf) (vs : List (List UInt8)) (root : List UInt8) (hroot : root.length = 32) (hl1 : ks.length ≤ 34359730000) (hl2 : p.length ≤ 34359730000) (hl3 : vs.length ≤ 34359730000) (hvl : ∀ v ∈ vs, v.length ≤ 34359730000) :
    VC Try.prog 7 [.sl (.ba 32) (bas ks) none, .st [.sl brT (brs p) none], .sl .sc (bss vs) none, .ba root] [] (.v (.bool true)) := by
  have hkl := bas_len ks
  have hpl := brs_len p
  have hvsl := bss_len vs
  have hz2 : (List.replicate 32 (0 : UInt8)).length = 32 := List.length_replicate
  refine mE Try.func7 ?_; intro N w0 a w hN hR H
  have hX := And.intro @hkl (And.intro @hpl (And.intro @hvsl (And.intro @hz2 (@hroot))))
  refine mW ?_; clear H; intro a w H
  refine mC H (fun hb => ?_) (fun hb => ?_)
  · clear hb
    clear hX; have hX := And.intro @hkl (And.intro @hpl (@hz2))
    refine mW ?_; clear H; intro a w H
    refine wp_ret ?_; exact mEnd [] [] [.tmp 8] [_] hN hR H
  · have e : ks.length ≤ 70 ∧ vs.length ≤ 70 ∧ p.length ≤ 3000 := by
      cases hd : decide ((70 : Int) < (ks.length : Int))
      · cases hd2 : decide ((70 : Int) < (vs.length : Int))
        · rw [hd, hd2] at hb
          have : decide ((3000 : Int) < (p.length : Int)) = false := hb
          rw [decide_eq_false_iff_not] at this hd hd2; omega
        · rw [hd, hd2] at hb; cases hb
      · rw [hd] at hb; cases hb
    clear hb
    obtain ⟨hl70, hv70, hp3⟩ := e
    have hM : N.bx.length ≤ 0 ∧ N.rw.length ≤ 0 := ⟨hN, hR⟩
    have c1 := upNext_v ks hk32 p hw hl1 (by omega) vs hl3 hvl
    have c2 := uqNext_v ks hk32 p hw hl1 (by omega) vs hl3 hvl
    have c3 := places20_v ks hk32 p hw hl1 hl2
    have c4 := fun r hr => upFollow_v ks hk32 p hw hl1 (by omega) vs hl3 hvl r hr
    have c5 := fun r hr => uqFollow_v ks hk32 p hw hl1 (by omega) vs hl3 hvl r hr
    have c8 := copyMu_v p hw hl2
    have c10 := sameMu_v p hw hl2
    have hUl := unD_len hk32 hw vs
    have hD := muD_len (ks := ks) hw
    refine mS ?_
    replace H := v_ref H 5 0 (Nat.le_trans hN (Nat.le_of_ble_eq_true rfl)) rfl rfl rfl
    simp only [nilT, strip, List.map_cons, List.map_nil, reduceIte, Nat.reduceEqDiff] at H
    replace H := v_ref H 7 1 (Nat.le_trans hN (Nat.zero_le _)) rfl rfl rfl
    simp only [nilT, strip, List.map_cons, List.map_nil, reduceIte, Nat.reduceEqDiff] at H
    clear hX; have hX := And.intro @hkl (And.intro @hpl (@hz2))
    replace H := mK [0, 2, 5, 7, 8] 2 0 hN hR H
    clear hX; have hX := And.intro @hkl (And.intro @hpl (And.intro @hvsl (And.intro @hz2 (@hroot))))
    refine mW ?_; clear H; intro a w H
    refine mCall [] [] (c8) H ?_; clear H; intro a w H; try refine wpList_nil ?_
    refine mW ?_; clear H; intro a w H
    replace H := v_ref H 9 2 (Nat.le_trans hN (Nat.zero_le _)) rfl rfl rfl
    simp only [nilT, strip, List.map_cons, List.map_nil, reduceIte, Nat.reduceEqDiff] at H
    replace H := v_nilE tab_ok H 10 26 .sc (j := ti26) rfl (by decide) rfl
    simp only [nilT, reduceIte, Nat.reduceEqDiff, List.length_nil, List.nil_append] at H
    refine v_loopI (fun (i : Nat) a w => ∃ X : List XR, XTL X (vs.take i) ∧ RelX w0.heap.size Try.prog w0 N Try.f7.ntmps ⟨[(11, none, .v (.int .i64 (i : Int))), (10, none, .sl .sc (vas (X.map XR.v)) (some 0)), (9, none, .ref ti44.ty (.st [.sl brT (brs p) none])), (8, none, .v (.bool false)), (7, none, .ref (.ba 32) (.ba root)), (5, none, .ref ti44.ty (.st [.sl brT (brs p) none])), (0, none, .sl (.ba 32) (bas ks) none), (2, none, .sl .sc (bss vs) none)], [(ti44.ty, .st [.sl brT (brs p) none]), (.ba 32, .ba root), (ti44.ty, .st [.sl brT (brs p) none])], [2, 1, 0], [(26, i)]⟩ X a w)
      (fun i => i ≤ vs.length) (fun i => vs.length - i) 0 (Nat.zero_le _) ⟨[], XTL.nil, Rel.toX (by exact H.to 3 1 ⟨Nat.le_trans hM.1 (Nat.zero_le _), Nat.le_trans hM.2 (Nat.zero_le _)⟩ ⟨rfl, rfl, rfl, rfl, rfl, rfl, rfl, rfl, trivial⟩ rfl rfl rfl rfl rfl) _⟩ ?_
    clear H hN hR
    rintro i a w1 hi ⟨X, hT, HX⟩
    obtain ⟨N1, hB, hZ, H, hN1, hR1⟩ := HX.open_
    clear HX
    have hN : N1.bx.length ≤ 3 := Nat.le_of_eq hN1
    have hR : N1.rw.length ≤ 1 := Nat.le_of_eq hR1
    clear hN1 hR1
    have hXl : X.length = i := by have := hT.1; rw [List.length_take] at this; omega
    have hval : (vas (X.map XR.v)).length = i := by rw [vas_len, List.length_map]; exact hXl
    clear hX; have hX := And.intro @hkl (And.intro @hpl (And.intro @hvsl (And.intro @hz2 (And.intro @hroot (@hval)))))
    refine mW ?_; clear H; intro a w H
    refine mC H (fun hb => ?_) (fun hb => ?_)
    · have hlt : i < vs.length := by rw [decide_eq_true_eq] at hb; omega
      clear hb
      have hg := bss_get vs i hlt
      have hle := lent_E vs[i] (by have := hvl _ (List.getElem_mem hlt); omega)
      have htk : vs.take (i + 1) = vs.take i ++ [vs[i]] := List.take_succ_eq_append_getElem hlt
      generalize vs[i] = u at *
      refine mS ?_
      clear hX; have hX := And.intro @hkl (And.intro @hpl (And.intro @hvsl (And.intro @hz2 (And.intro @hroot (And.intro @hval (@hg))))))
      (try refine wp_region_lit ?_); refine mN 4 hN H ?_; clear H; intro a w H
      refine mW ?_; clear H; intro a w H
      refine v_callE hle hB (Nat.le_refl _) hZ H (by rintro Y bx' rw' res ⟨rfl, rfl, x, rfl, rfl, _⟩; exact ⟨rfl, rfl⟩) ?_
      clear H
      rintro Y bx' rw' res a w2 ⟨rfl, rfl, x, rfl, rfl, hx⟩ H
      replace H := nfX H
      clear hB hZ hN hR
      obtain ⟨N2, hB, hZ, H, hN2, hR2⟩ := H.open_
      have hN : N2.bx.length ≤ 3 := Nat.le_of_eq hN2
      have hR : N2.rw.length ≤ 1 := Nat.le_of_eq hR2
      clear hN2 hR2
      refine mW ?_; clear H; intro a w H
      have t1 : vas (X.map XR.v) ++ [.v x.v] = vas ((X ++ [x]).map XR.v) := by simp [vas]
      rw [t1, show (i : Int) + 1 = ((i + 1 : Nat) : Int) by omega] at H
      exact ⟨i + 1, hlt, by omega, X ++ [x], by rw [htk]; exact hT.snoc hx, RelX.close hB hZ (by exact H.to 3 1 ⟨hN, hR⟩ ⟨rfl, rfl, rfl, rfl, rfl, rfl, rfl, rfl, trivial⟩ rfl rfl rfl rfl rfl)⟩
    · have hge : i = vs.length := by rw [decide_eq_false_iff_not] at hb; omega
      subst hge
      clear hb
      rw [List.take_length] at hT
      replace H := v_seeX hZ H 10 _ (hT.seeB (fun x hx => hx)) rfl
      simp only [nilT, reduceIte, Nat.reduceEqDiff] at H
      replace H := (RelX.close hB hZ H).to 3 0 ⟨Nat.le_trans hM.1 (Nat.zero_le _), Nat.le_trans hM.2 (Nat.zero_le _)⟩ (t2 := [(10, none, .sl .sc (bcs vs) none), (9, none, .ref ti44.ty (.st [.sl brT (brs p) none])), (8, none, .v (.bool false)), (7, none, .ref (.ba 32) (.ba root)), (5, none, .ref ti44.ty (.st [.sl brT (brs p) none])), (0, none, .sl (.ba 32) (bas ks) none), (2, none, .sl .sc (bss vs) none)]) ⟨rfl, rfl, rfl, rfl, rfl, rfl, rfl, trivial⟩ rfl rfl rfl rfl rfl
      clear hB hZ hN hR hval hXl hT
      obtain ⟨N2, hB, hZ, H, hN2, hR2⟩ := H.open_
      have hN : N2.bx.length ≤ 3 := Nat.le_of_eq hN2
      have hR : N2.rw.length ≤ 0 := Nat.le_of_eq hR2
      clear hN2 hR2
      obtain ⟨wb, hwb⟩ : ∃ wb : World, wb = w := ⟨w, rfl⟩
      subst hwb
      have hcl := bcs_len vs
      have hsb := bcs_see vs (T := .sc) (tok := none) (X := [])
      have hcg := bcs_get vs
      generalize bcs vs = LV at *
      refine mS ?_
      clear hX; have hX := And.intro @hkl (And.intro @hpl (And.intro @hvsl (And.intro @hz2 (And.intro @hroot (And.intro @hcl (And.intro @hUl (@hD)))))))
      (try refine wp_region_lit ?_); refine mN 4 hN H ?_; clear H; intro a w H
      simp only [List.replicate_zero, List.nil_append, List.length_nil, Nat.zero_add] at H
      replace H := v_sub H 12 (x := .sl (.ba 32) (bas ks) (some 0)) (y := .sl (.ba 32) (bas ks) none) ⟨rfl, rfl⟩ rfl (fun az h => by cases h) rfl
      simp only [nilT, reduceIte, Nat.reduceEqDiff] at H
      replace H := mK [0, 2, 5, 7, 8, 9, 10, 12] 3 0 hN hR H
      refine mW ?_; clear H; intro a w H
      replace H := v_seeX (Xs.nil 0 _ _) H 63 _ hsb rfl
      simp only [nilT, reduceIte, Nat.reduceEqDiff] at H
      refine mCall [] [] (c1) H ?_; clear H; intro a w H; try refine wpList_nil ?_
      refine mW ?_; clear H; intro a w H
      refine mCall [] [] (c2) H ?_; clear H; intro a w H; try refine wpList_nil ?_
      refine mW ?_; clear H; intro a w H
      refine mC H (fun hb => ?_) (fun hb => ?_)
      · simp at hb
      clear hb
      refine mW ?_; clear H; intro a w H
      refine mCall [] [] (c3) H ?_; clear H; intro a w H; try refine wpList_nil ?_
      refine mW ?_; clear H; intro a w H
      revert a w
      apply cutG9 (R := fun a w => Rel Try.prog wb N2 Try.f7.ntmps ⟨[(17, none, .sl (.ba 32) (bas (unR root ks p)) none), (12, none, .sl (.ba 32) (bas ks) none), (10, none, .sl .sc LV none), (9, none, .ref ti44.ty (.st [.sl brT (brs p) none])), (8, none, .v (.bool false)), (7, none, .ref (.ba 32) (.ba root)), (5, none, .ref ti44.ty (.st [.sl brT (brs p) none])), (0, none, .sl (.ba 32) (bas ks) none), (2, none, .sl .sc (bss vs) none)], [(ti44.ty, .st [.sl brT (brs p) none]), (.ba 32, .ba root), (ti44.ty, .st [.sl brT (brs p) none])], [2, 1, 0], []⟩ a w)
      · intro key1 a w H
        refine mC H (fun hb => ?_) (fun hb => ?_)
        · rw [decide_eq_true_eq] at hb
          have eR : bas (unR root ks p) = [.ba root, .ba (muD ks p)] := by unfold unR; rw [if_pos hb]; rfl
          obtain ⟨_, _, _, t, ht, hmt, hmp, _, _, hdl, _⟩ := muE_zero hw hb
          have hDe : muD ks p = t.dg := by unfold muD; rw [if_pos hb, hmt]
          have hPl := pls_len (t.pl (List.replicate 32 0) 0)
          rw [t.pl_len] at hPl
          have hnp := t.num_pos
          have hg0 : ∃ x1 x2 x3 x4, (pls (muPl ks p)).getD 0 .any = .st [x1, .ba (muD ks p), x2, x3, x4] := by
            rw [hmp, hDe]
            cases t <;> exact ⟨_, _, _, _, rfl⟩
          rw [← hmp] at hPl
          obtain ⟨x1, x2, x3, x4, hg0⟩ := hg0
          clear ht hmt hmp hDe hdl
          rw [eR] at key1
          have hX := And.intro hX (And.intro hPl hg0)
          refine mS ?_
          (try refine wp_region_lit ?_); refine mN 3 hN H ?_; clear H; intro a w H
          (try refine wp_region_lit ?_); refine mN 5 hN H ?_; clear H; intro a w H
          refine wpList_nil ?_
          replace H := v_sub H 17 (x := .sl (.ba 32) [.ba root, .ba (muD ks p)] (some 0)) (y := .sl (.ba 32) [.ba root, .ba (muD ks p)] none) ⟨rfl, rfl⟩ rfl (fun az h => by cases h) rfl
          simp only [nilT, reduceIte, Nat.reduceEqDiff] at H
          refine mS ?_
          exact key1 _ _ (H.to 3 0 ⟨hN, hR⟩ ⟨rfl, rfl, rfl, rfl, rfl, rfl, rfl, rfl, rfl, trivial⟩ rfl rfl rfl rfl rfl)
        · rw [decide_eq_false_iff_not] at hb
          have eR : bas (unR root ks p) = [.ba root] := by unfold unR; rw [if_neg hb]; rfl
          rw [eR] at key1
          replace H := v_sub H 17 (x := .sl (.ba 32) [.ba root] (some 0)) (y := .sl (.ba 32) [.ba root] none) ⟨rfl, rfl⟩ rfl (fun az h => by cases h) rfl
          simp only [nilT, reduceIte, Nat.reduceEqDiff] at H
          refine mS ?_
          exact key1 _ _ (H.to 3 0 ⟨hN, hR⟩ ⟨rfl, rfl, rfl, rfl, rfl, rfl, rfl, rfl, rfl, trivial⟩ rfl rfl rfl rfl rfl)
      intro a w H
      have hR32 := unR_32 hroot (ks := ks) hw
      have hRl : (unR root ks p).length ≤ 2 := by unfold unR; split <;> simp
      generalize unR root ks p = RT at *
      have hbR := bas_len RT
      clear hX; have hX := And.intro @hkl (And.intro @hpl (And.intro @hvsl (And.intro @hz2 (And.intro @hroot (And.intro @hcl (@hbR))))))
      refine mW ?_; clear H; intro a w H
      refine v_loop (fun i : Nat => ⟨[(20, none, .v (.int .i64 (i : Int))), (17, none, .sl (.ba 32) (bas RT) none), (12, none, .sl (.ba 32) (bas ks) none), (10, none, .sl .sc LV none), (9, none, .ref ti44.ty (.st [.sl brT (brs p) none])), (8, none, .v (.bool false)), (7, none, .ref (.ba 32) (.ba root)), (5, none, .ref ti44.ty (.st [.sl brT (brs p) none])), (0, none, .sl (.ba 32) (bas ks) none), (2, none, .sl .sc (bss vs) none)], [(ti44.ty, .st [.sl brT (brs p) none]), (.ba 32, .ba root), (ti44.ty, .st [.sl brT (brs p) none])], [2, 1, 0], []⟩) (fun i => i ≤ RT.length) (fun i => RT.length - i) 0 (Nat.zero_le _) (H.to 3 0 ⟨hN, hR⟩ ⟨rfl, rfl, rfl, rfl, rfl, rfl, rfl, rfl, rfl, rfl, trivial⟩ rfl rfl rfl rfl rfl) ?_
      clear H
      intro i a w hi H
      refine mW ?_; clear H; intro a w H
      refine mC H (fun hb => ?_) (fun hb => ?_)
      · have hlt : i < RT.length := by rw [decide_eq_true_eq] at hb; omega
        clear hb
        have hg := bas_get RT i hlt
        have hr := hR32 _ (List.getElem_mem hlt)
        have f1 := c4 _ hr
        have f2 := c5 _ hr
        have fl := ufE_len (root := RT[i]) hk32 hw vs
        generalize RT[i] = rt at *
        generalize ufD rt ks p vs = UD at *
        generalize ufE rt ks p vs = UE at *
        refine mS ?_
        clear hX; have hX := And.intro @hkl (And.intro @hpl (And.intro @hvsl (And.intro @hz2 (And.intro @hroot (And.intro @hcl (And.intro @hbR (And.intro @hg (And.intro @hr (@fl)))))))))
        replace H := nf H
        revert a w
        apply cutG9 (R := fun a w => Rel Try.prog wb N2 Try.f7.ntmps ⟨[(22, none, .v (.int .i64 UE)), (21, none, .ptr 3 []), (20, none, .v (.int .i64 (i : Int))), (17, none, .sl (.ba 32) (bas RT) none), (12, none, .sl (.ba 32) (bas ks) none), (10, none, .sl .sc LV none), (9, none, .ref ti44.ty (.st [.sl brT (brs p) none])), (8, none, .v (.bool false)), (7, none, .ref (.ba 32) (.ba root)), (5, none, .ref ti44.ty (.st [.sl brT (brs p) none])), (0, none, .sl (.ba 32) (bas ks) none), (2, none, .sl .sc (bss vs) none)], [(ti44.ty, .st [.sl brT (brs p) none]), (.ba 32, .ba root), (ti44.ty, .st [.sl brT (brs p) none]), (.ba 32, .ba UD)], [2, 1, 0], []⟩ a w)
        · intro key1 a w H
          repeat (first | refine wp_seq ?_ | refine wp_block ?_)
          refine v_drawZ 0 [0, 1, 2, 3, 4, 5, 6, 7, 8, 9, 10, 11, 12, 13] [7, 11, 12] [0, 1, 2, 3, 4, 5, 6, 8, 9, 10] [(7, 11)] (by kernel_rfl) (by kernel_rfl) (by kernel_rfl) (by kernel_rfl) (by kernel_rfl) H (by rfl) ?_; clear H; intro gS H; try replace H := ntf H
          repeat' ((first | refine wpZ_q1 rfl rfl ?_ | refine wpZ_l1 rfl rfl rfl ?_ | refine wpZ_l2 rfl rfl rfl rfl rfl ?_ ?_ | refine wpZ_l3 rfl rfl rfl rfl rfl rfl rfl ?_ ?_ ?_ | refine wpZ_l4 rfl rfl rfl rfl rfl rfl rfl rfl rfl ?_ ?_ ?_ ?_) <;> ((first | (refine wpT_at 7 ?_; (replace H := v_seeXT (Xs.nil 0 _ _) H 112 _ hsb rfl; simp only [nilT, reduceIte, Nat.reduceEqDiff] at H; refine mCallT [] [] (f1) H ?_; clear H; intro a w H)) | (refine v_someT 1 tab_ok hN H rfl ctX ?_; clear H; intro a w H; replace H := ntf H; simp only [List.drop_succ_cons, List.drop_zero, List.drop_nil])); refine wpT_nil ?_; try dsimp only))
          all_goals (refine wpZ_nil ?_; replace H := RelT.toRel H)
          all_goals
            exact key1 _ _ (H.to 4 0 ⟨Nat.le_trans hN (Nat.le_of_ble_eq_true rfl), hR⟩ ⟨rfl, rfl, rfl, rfl, rfl, rfl, rfl, rfl, rfl, rfl, rfl, rfl, trivial⟩ rfl rfl rfl rfl rfl)
        intro a w H
        revert a w
        apply cutG9 (R := fun a w => Rel Try.prog wb N2 Try.f7.ntmps ⟨[(24, none, .v (.int .i64 UE)), (23, none, .ptr 4 []), (22, none, .v (.int .i64 UE)), (21, none, .ptr 3 []), (20, none, .v (.int .i64 (i : Int))), (17, none, .sl (.ba 32) (bas RT) none), (12, none, .sl (.ba 32) (bas ks) none), (10, none, .sl .sc LV none), (9, none, .ref ti44.ty (.st [.sl brT (brs p) none])), (8, none, .v (.bool false)), (7, none, .ref (.ba 32) (.ba root)), (5, none, .ref ti44.ty (.st [.sl brT (brs p) none])), (0, none, .sl (.ba 32) (bas ks) none), (2, none, .sl .sc (bss vs) none)], [(ti44.ty, .st [.sl brT (brs p) none]), (.ba 32, .ba root), (ti44.ty, .st [.sl brT (brs p) none]), (.ba 32, .ba UD), (.ba 32, .ba UD)], [2, 1, 0], []⟩ a w)
        · intro key1 a w H
          repeat (first | refine wp_seq ?_ | refine wp_block ?_)
          refine v_drawZ 0 [0, 1, 2, 3, 4, 5, 6, 7, 8, 9, 10, 11, 12, 13] [7, 11, 12] [0, 1, 2, 3, 4, 5, 6, 8, 9, 10] [(7, 11)] (by kernel_rfl) (by kernel_rfl) (by kernel_rfl) (by kernel_rfl) (by kernel_rfl) H (by rfl) ?_; clear H; intro gS H; try replace H := ntf H
          repeat' ((first | refine wpZ_q1 rfl rfl ?_ | refine wpZ_l1 rfl rfl rfl ?_ | refine wpZ_l2 rfl rfl rfl rfl rfl ?_ ?_ | refine wpZ_l3 rfl rfl rfl rfl rfl rfl rfl ?_ ?_ ?_ | refine wpZ_l4 rfl rfl rfl rfl rfl rfl rfl rfl rfl ?_ ?_ ?_ ?_) <;> ((first | (refine wpT_at 7 ?_; refine mCallT [] [] (f2) H ?_; clear H; intro a w H) | (refine v_someT 1 tab_ok hN H rfl ctX ?_; clear H; intro a w H; replace H := ntf H; simp only [List.drop_succ_cons, List.drop_zero, List.drop_nil])); refine wpT_nil ?_; try dsimp only))
          all_goals (refine wpZ_nil ?_; replace H := RelT.toRel H)
          all_goals
            exact key1 _ _ (H.to 5 0 ⟨Nat.le_trans hN (Nat.le_of_ble_eq_true rfl), hR⟩ ⟨rfl, rfl, rfl, rfl, rfl, rfl, rfl, rfl, rfl, rfl, rfl, rfl, rfl, rfl, trivial⟩ rfl rfl rfl rfl rfl)
        intro a w H
        clear hX; have hX := And.intro @hkl (And.intro @hpl (And.intro @hvsl (And.intro @hz2 (And.intro @hroot (And.intro @hcl (And.intro @hbR (@fl)))))))
        refine mW ?_; clear H; intro a w H
        refine mC H (fun hb => ?_) (fun hb => ?_)
        · simp at hb
        · clear hb
          clear hX; have hX := And.intro @hkl (And.intro @hpl (And.intro @hvsl (And.intro @hz2 (And.intro @hroot (And.intro @hcl (@hbR))))))
          refine mW ?_; clear H; intro a w H
          rw [show (i : Int) + 1 = ((i + 1 : Nat) : Int) by omega] at H
          exact ⟨i + 1, hlt, by omega, H.to 3 0 ⟨hN, hR⟩ ⟨rfl, rfl, rfl, rfl, rfl, rfl, rfl, rfl, rfl, rfl, trivial⟩ rfl rfl rfl rfl rfl⟩
      · clear hb
        clear hX; have hX := And.intro @hkl (And.intro @hpl (And.intro @hvsl (And.intro @hz2 (And.intro @hroot (@hcl)))))
        refine mW ?_; clear H; intro a w H
        refine v_loop (fun i : Nat => ⟨[(25, none, .v (.int .i64 (i : Int))), (12, none, .sl (.ba 32) (bas ks) none), (10, none, .sl .sc LV none), (9, none, .ref ti44.ty (.st [.sl brT (brs p) none])), (8, none, .v (.bool false)), (7, none, .ref (.ba 32) (.ba root)), (5, none, .ref ti44.ty (.st [.sl brT (brs p) none])), (0, none, .sl (.ba 32) (bas ks) none), (2, none, .sl .sc (bss vs) none)], [(ti44.ty, .st [.sl brT (brs p) none]), (.ba 32, .ba root), (ti44.ty, .st [.sl brT (brs p) none])], [2, 1, 0], []⟩) (fun i => i ≤ vs.length) (fun i => vs.length - i) 0 (Nat.zero_le _) (H.to 3 0 ⟨hN, hR⟩ ⟨rfl, rfl, rfl, rfl, rfl, rfl, rfl, rfl, rfl, trivial⟩ rfl rfl rfl rfl rfl) ?_
        clear H
        intro i a w hi H
        refine mW ?_; clear H; intro a w H
        refine mC H (fun hb => ?_) (fun hb => ?_)
        · have hlt : i < vs.length := by rw [decide_eq_true_eq] at hb; omega
          clear hb
          have hg1 := hcg i hlt
          have hg2 := bss_get vs i hlt
          have hkp := kept_v vs[i] (by have := hvl _ (List.getElem_mem hlt); omega)
          generalize vs[i] = v at *
          generalize lentOf v = lv at *
          clear hX; have hX := And.intro @hkl (And.intro @hpl (And.intro @hvsl (And.intro @hz2 (And.intro @hroot (And.intro @hcl (And.intro @hg1 (@hg2)))))))
          refine mS ?_; refine mD 0 [8] [] H ?_; clear H; intro gS H
          refine mTN 3 hN H ?_; clear H; intro a w H; simp only [List.drop_succ_cons, List.drop_zero, List.drop_nil]
          refine mTN 4 hN H ?_; clear H; intro a w H; simp only [List.drop_succ_cons, List.drop_zero, List.drop_nil]
          refine mT ?_; clear H; intro a w H
          refine mCallT [] [] (hkp) H ?_; clear H; intro a w H
          refine mT ?_; clear H; intro a w H
          refine v_drawNil H ?_; clear H; intro H
          refine mC H (fun hb => ?_) (fun hb => ?_)
          · simp at hb
          · clear hb
            clear hX; have hX := And.intro @hkl (And.intro @hpl (And.intro @hvsl (And.intro @hz2 (And.intro @hroot (@hcl)))))
            refine mW ?_; clear H; intro a w H
            rw [show (i : Int) + 1 = ((i + 1 : Nat) : Int) by omega] at H
            exact ⟨i + 1, hlt, by omega, H.to 3 0 ⟨hN, hR⟩ ⟨rfl, rfl, rfl, rfl, rfl, rfl, rfl, rfl, rfl, trivial⟩ rfl rfl rfl rfl rfl⟩
        · clear hb
          refine mW ?_; clear H; intro a w H
          refine v_loop (fun i : Nat => ⟨[(26, none, .v (.int .i64 (i : Int))), (12, none, .sl (.ba 32) (bas ks) none), (10, none, .sl .sc LV none), (9, none, .ref ti44.ty (.st [.sl brT (brs p) none])), (8, none, .v (.bool false)), (7, none, .ref (.ba 32) (.ba root)), (5, none, .ref ti44.ty (.st [.sl brT (brs p) none])), (0, none, .sl (.ba 32) (bas ks) none), (2, none, .sl .sc (bss vs) none)], [(ti44.ty, .st [.sl brT (brs p) none]), (.ba 32, .ba root), (ti44.ty, .st [.sl brT (brs p) none])], [2, 1, 0], []⟩) (fun i => i ≤ ks.length) (fun i => ks.length - i) 0 (Nat.zero_le _) (H.to 3 0 ⟨hN, hR⟩ ⟨rfl, rfl, rfl, rfl, rfl, rfl, rfl, rfl, rfl, trivial⟩ rfl rfl rfl rfl rfl) ?_
          clear H
          intro i a w hi H
          refine mW ?_; clear H; intro a w H
          refine mC H (fun hb => ?_) (fun hb => ?_)
          · have hlt : i < ks.length := by rw [decide_eq_true_eq] at hb; omega
            clear hb
            have hg1 := bas_get ks i hlt
            have hq := hk32 _ (List.getElem_mem hlt)
            generalize ks[i] = kk at *
            clear hX; have hX := And.intro @hkl (And.intro @hpl (And.intro @hvsl (And.intro @hz2 (And.intro @hroot (And.intro @hcl (And.intro @hg1 (@hq)))))))
            refine mS ?_; refine mD 0 [] [] H ?_; clear H; intro gS H
            refine mTN 3 hN H ?_; clear H; intro a w H; simp only [List.drop_succ_cons, List.drop_zero, List.drop_nil]
            refine mTN 4 hN H ?_; clear H; intro a w H; simp only [List.drop_succ_cons, List.drop_zero, List.drop_nil]
            refine mT ?_; clear H; intro a w H
            refine v_drawNil H ?_; clear H; intro H
            refine mC H (fun hb => ?_) (fun hb => ?_)
            · simp at hb
            · clear hb
              clear hX; have hX := And.intro @hkl (And.intro @hpl (And.intro @hvsl (And.intro @hz2 (And.intro @hroot (@hcl)))))
              refine mW ?_; clear H; intro a w H
              rw [show (i : Int) + 1 = ((i + 1 : Nat) : Int) by omega] at H
              exact ⟨i + 1, hlt, by omega, H.to 3 0 ⟨hN, hR⟩ ⟨rfl, rfl, rfl, rfl, rfl, rfl, rfl, rfl, rfl, trivial⟩ rfl rfl rfl rfl rfl⟩
          · clear hb
            refine mW ?_; clear H; intro a w H
            refine mCall [] [] (c10) H ?_; clear H; intro a w H; try refine wpList_nil ?_
            refine mW ?_; clear H; intro a w H
            replace H := (RelX.close hB hZ H).rel
            clear hN hR
            have hN : N.bx.length ≤ 0 := hM.1
            have hR : N.rw.length ≤ 0 := hM.2
            refine wp_ret ?_; exact mEnd [] [] [.tmp 8] [_] hN hR H
end Go.Proofs.Ytigmpdhnhkdeiaa
/- Nodes among the arguments. -/
namespace Go.Proofs.Ytigmpdhnhkdeiaa
open Go Go.RowKit
end Go.Proofs.Ytigmpdhnhkdeiaa
/- Parts of sketches and spans among the arguments. -/
namespace Go.Proofs.Ytigmpdhnhkdeiaa
open Go Go.RowKit
theorem br_sh {M d : Nat} {a : AV} (h : Sh tab M (d + 2) 54 a) : ∃ b : Br, a = b.av ∧ b.wf := by
  obtain ⟨az, rfl, hs⟩ := h.rcd rfl rfl
  clear h; have h := hs; clear hs; dsimp only [List.map] at h
  obtain ⟨a0, r, rfl, h0, h⟩ := shl_cons h
  obtain ⟨a1, r, rfl, h1, h⟩ := shl_cons h
  obtain ⟨a2, r, rfl, h2, h⟩ := shl_cons h
  obtain ⟨a3, r, rfl, h3, h⟩ := shl_cons h
  obtain rfl := shl_nil h
  obtain ⟨n, rfl, hn⟩ := h0.int rfl rfl
  obtain ⟨u, hu⟩ := u8_of hn
  obtain ⟨k, rfl, hk⟩ := h1.arr rfl rfl
  obtain ⟨v, rfl, hv⟩ := h2.arr rfl rfl
  obtain ⟨g, rfl, hg⟩ := h3.arr rfl rfl
  exact ⟨⟨u, k, v, g⟩, by rw [hu]; rfl, ⟨hk, hv, hg⟩⟩
theorem brs_sh {M d : Nat} {a : AV} (h : Sh tab M (d + 3) 22 a) : ∃ l : List Br, a = .sl ti54.ty (l.map Br.av) none ∧ (∀ b ∈ l, b.wf) ∧ l.length ≤ M := by
  obtain ⟨es, rfl, hl, he⟩ := h.slc rfl rfl rfl
  obtain ⟨ys, rfl, hy⟩ := sh_list (q := Br.wf) (f := Br.av) (fun x hx => br_sh hx) he
  exact ⟨ys, rfl, hy, by simpa using hl⟩
end Go.Proofs.Ytigmpdhnhkdeiaa
/- UpdateNexts, of all arguments of its types. -/
namespace Go.Proofs.Ytigmpdhnhkdeiaa
open Go Go.RowKit
theorem muU_sh {M d : Nat} {a : AV} (h : Sh tab M (d + 4) 44 a) : ∃ p : List Br, a = .st [.sl ti54.ty (p.map Br.av) none] ∧ (∀ b ∈ p, b.wf) ∧ p.length ≤ M := by
  obtain ⟨az, rfl, hs⟩ := h.rcd rfl rfl
  clear h; have h := hs; clear hs; dsimp only [List.map] at h
  obtain ⟨a0, r, rfl, h0, h⟩ := shl_cons h
  obtain rfl := shl_nil h
  obtain ⟨p, rfl, hp, hpl⟩ := brs_sh h0
  exact ⟨p, rfl, hp, hpl⟩
theorem updateNexts_az (az : List AV) (h : ShL (Sh tab 1048576 6) [42, 44, 23, 50] az) : VC Try.prog 7 az [] (.v (.bool true)) := by
  obtain ⟨a0, r, rfl, h0, h⟩ := shl_cons h
  obtain ⟨a1, r, rfl, h1, h⟩ := shl_cons h
  obtain ⟨a2, r, rfl, h2, h⟩ := shl_cons h
  obtain ⟨a3, r, rfl, h3, h⟩ := shl_cons h
  obtain rfl := shl_nil h
  obtain ⟨es, rfl, hl0, he⟩ := h0.slc rfl rfl rfl
  obtain ⟨ks, rfl, hk⟩ := sh_list (q := fun l : List UInt8 => l.length = 32) (f := AV.ba) (fun x hx => hx.arr rfl rfl) he
  obtain ⟨p, rfl, hp, hpl⟩ := muU_sh h1
  obtain ⟨fs, rfl, hl2, hf⟩ := h2.slc rfl rfl rfl
  obtain ⟨vs, rfl, hv⟩ := sh_list (q := fun l : List UInt8 => l.length ≤ 1048576) (f := fun l => AV.bs l none) (fun x hx => hx.bytes rfl rfl rfl) hf
  obtain ⟨root, rfl, hr⟩ := h3.arr rfl rfl
  rw [List.length_map] at hl0 hl2
  exact updateNexts_v ks hk p hp vs root hr (Nat.le_trans hl0 (by decide)) (Nat.le_trans hpl (by decide)) (Nat.le_trans hl2 (by decide)) (fun v h => Nat.le_trans (hv v h) (by decide))
end Go.Proofs.Ytigmpdhnhkdeiaa
