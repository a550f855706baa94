/- The walks of the reference's SHA-256: words. -/
import Derived.Test.YtlagngkafllbiaaRShaX
set_option linter.unusedSimpArgs false
set_option linter.unusedVariables false
namespace Go.Proofs.Ytlagngkafllbiaa
open Go Go.RowKit
theorem row_here (xs : List (BitVec 32)) (n : Nat) (x y : BitVec 32) : ((xs ++ [x] ++ List.replicate n 0).map W32).toArray.setIfInBounds xs.length (W32 y) = ((xs ++ [y] ++ List.replicate n 0).map W32).toArray := by
  simp
attribute [local go_sem] or_bytes u32_shr10 u32_shr3 u32_xor u32_and u32_or u32_add u32_add' u32_not u32_next u32_sum3 u32_sum4
set_option maxRecDepth 100000 in
theorem wordsR_any (bs : List UInt8) (hbs : bs.length = 64) (A : Option Addr) (c : Nat) (w : World) (hr : Rd byteE w w.heap.size A bs) :
    Calls Try.prog 104 #[.slice A 64 c] w fun e w' => e = .returned (.agg ((sched (words bs 16) 48).map W32).toArray) ∧ Below w.heap.size w w' := by
  obtain ⟨g, o, rfl, hg, hcell⟩ := rd_byte hr (k := 0) (by omega)
  clear hr
  have HC := Lib.hid hcell; have HL := Lib.hid hbs; clear hcell hbs
  go_enter Try.func104, Try.ntmps104
  go_wp2
  go_loopw [4, 5] (fun i _ wr => ∃ k : Nat, k ≤ 16 ∧ i = .int .i64 k ∧ (∃ c1 : Array Value, c1.size = 64 ∧ Blk wr w.heap.size 136 c1) ∧
      Blk wr (w.heap.size + 1) 136 ((words bs k ++ List.replicate (64 - k) 0).map W32).toArray ∧ Below w.heap.size w wr) (fun i _ _ => 16 - (intOf i).toNat)
  case atStart =>
    refine ⟨0, by omega, rfl, ⟨_, by rfl, (Blk.new _ _ _).alloc _⟩, by rw [words_zero]; exact Blk.newAt _ _ _ (by simp), ?_⟩
    exact ((Below.refl _ _).alloc (Nat.le_refl _) _).alloc (by simp) _
  case round =>
    obtain ⟨k, hk, rfl, ⟨c1, hc1, h2⟩, h3, hb⟩ := hrel
    by_cases hlt : k < 16
    · have H2 := Lib.hid h2; have H3 := Lib.hid h3; have HB := Lib.hid hb; have HC1 := Lib.hid hc1; clear h2 h3 hb hc1
      go_wp2
      obtain ⟨wo, rfl⟩ : ∃ wo : World, wo = wr := ⟨_, rfl⟩
      go_loopw [5] (fun i wr => ∃ j : Nat, j ≤ 4 ∧ i = .int .i64 j ∧ Blk wr w.heap.size 136 c1 ∧
          Blk wr (w.heap.size + 1) 136 ((words bs k ++ [part bs k j] ++ List.replicate (63 - k) 0).map W32).toArray ∧ Below w.heap.size w wr) (fun i _ => 4 - (intOf i).toNat)
      case atStart =>
        refine ⟨0, by omega, rfl, H2.out, ?_, HB.out⟩
        rw [part_zero, List.append_assoc, List.singleton_append, ← List.replicate_succ, show 63 - k + 1 = 64 - k by omega]; exact H3.out
      case round =>
        obtain ⟨j, hj, rfl, e2, e3, eb⟩ := hrel
        by_cases hlj : j < 4
        · have hl := HL.out
          have a1 : wr.cell? ⟨g, o + (4 * k + j), none⟩ = some (B8 (bs.getD (4 * k + j) 0)) := by
            have hlt' : 4 * k + j < bs.length := by omega
            rw [eb.cell (p := ⟨g, o + (4 * k + j), none⟩) hg, HC.out _ hlt', List.getD_eq_getElem?_getD, List.getElem?_eq_getElem hlt']; rfl
          have a2 : wr.cell? ⟨w.heap.size + 1, k, none⟩ = some (W32 (part bs k j)) := by
            rw [e3.cell]; simp [words_length]
          have a3 := e3.free k
          have hn : Blk (wr.setCell ⟨w.heap.size + 1, k, none⟩ (W32 (part bs k (j + 1)))) (w.heap.size + 1) 136 ((words bs k ++ [part bs k (j + 1)] ++ List.replicate (63 - k) 0).map W32).toArray := by
            have := e3.put k (W32 (part bs k (j + 1)))
            have hh := row_here (words bs k) (63 - k) (part bs k j) (part bs k (j + 1))
            rw [words_length] at hh; rw [hh] at this; exact this
          have HP := Lib.hid (part_succ bs k j)
          rw [part_succ] at hn
          generalize bs.getD (4 * k + j) 0 = x at *
          have E2 := Lib.hid e2; have E3 := Lib.hid hn; have EB := Lib.hid eb
          clear e2 e3 eb hn hl H2 H3 HB
          go_wp2
          refine wp_region_T [15] [] (fun _ => True) (by kernel_rfl) (by kernel_rfl) trivial ?_
          repeat (first
            | (refine wpT_here (by rfl) (by rfl) (by rfl) (fun K hK => ?_); go_big_quiet_op; refine hK _ ?_; clear hK K)
            | (refine wpT_loud (by rfl) (by rfl) (fun K hK => ?_); go_big_op; refine hK _ _ trivial ?_; clear hK K))
          refine wpT_nil ?_
          go_wp2
          go_roundw
          case rel => exact ⟨j + 1, by omega, by go_num, (E2.out.farAt (by omega) _).drew, by rw [HP.out]; exact E3.out.drew, (below_putAt EB.out (by omega) _).drew⟩
          case measure => simp [intOf]; omega
        · obtain rfl : j = 4 := by omega
          rw [show ((4 : Nat) : Int) = (4 : Int) from rfl]
          rw [part_four, ← words_succ, show 63 - k = 64 - (k + 1) by omega] at e3
          have E2 := Lib.hid e2; have E3 := Lib.hid e3; have EB := Lib.hid eb
          clear e2 e3 eb H2 H3 HB
          go_wp2
          go_roundw
          case rel => exact ⟨k + 1, by omega, by go_num, ⟨c1, HC1.out, E2.out⟩, E3.out, EB.out⟩
          case measure => simp [intOf]; omega
    · obtain rfl : k = 16 := by omega
      rw [show ((16 : Nat) : Int) = (16 : Int) from rfl]
      have H2 := Lib.hid h2; have H3 := Lib.hid h3; have HB := Lib.hid hb; have HC1 := Lib.hid hc1; clear h2 h3 hb hc1
      go_wp2
      go_loopw [6, 7, 8, 9, 10] (fun i _ _ _ _ wr => ∃ t : Nat, 16 ≤ t ∧ t ≤ 64 ∧ i = .int .i64 t ∧ (∃ c1 : Array Value, c1.size = 64 ∧ Blk wr w.heap.size 136 c1) ∧
          Blk wr (w.heap.size + 1) 136 ((sched (words bs 16) (t - 16) ++ List.replicate (64 - t) 0).map W32).toArray ∧ Below w.heap.size w wr) (fun i _ _ _ _ _ => 64 - (intOf i).toNat)
      case atStart => exact ⟨16, by omega, by omega, rfl, ⟨c1, HC1.out, H2.out⟩, by rw [show 16 - 16 = 0 from rfl, sched_zero]; exact H3.out, HB.out⟩
      case round =>
        clear H2 H3 HB HC1 hk hlt
        obtain ⟨t, ht1, ht2, rfl, ⟨c1, hc1, h2⟩, h3, hb⟩ := hrel
        by_cases hlt : t < 64
        · have hl : (sched (words bs 16) (t - 16)).length = t := by rw [sched_length, words_length]; omega
          have HN : Hid (sched (words bs 16) (t + 1 - 16) = sched (words bs 16) (t - 16) ++ [nextWord (sched (words bs 16) (t - 16))]) := by
            rw [show t + 1 - 16 = (t - 16) + 1 by omega]; exact sched_succ _ _
          generalize sched (words bs 16) (t - 16) = s at *
          have cell : ∀ i, i < t → wr.cell? ⟨w.heap.size + 1, i, none⟩ = some (W32 (s.getD i 0)) := by
            intro i hi; rw [h3.cell]; simp [List.getElem?_append, hl, hi]
          have a2 := cell (t - 2) (by omega)
          have a7 := cell (t - 7) (by omega)
          have a15 := cell (t - 15) (by omega)
          have a16 := cell (t - 16) (by omega)
          have at_ : wr.cell? ⟨w.heap.size + 1, t, none⟩ = some (W32 0) := by
            rw [h3.cell]; simp [hl, show 0 < 64 - t by omega]
          have af := h3.free t
          have HX : Hid (nextWord s = sg1 (s.getD (t - 2) 0) + s.getD (t - 7) 0 + sg0 (s.getD (t - 15) 0) + s.getD (t - 16) 0) := by unfold nextWord; rw [hl]; exact rfl
          have hn : ((s ++ List.replicate (64 - t) 0).map W32).toArray.setIfInBounds t (W32 (nextWord s)) = (((s ++ [nextWord s]) ++ List.replicate (64 - (t + 1)) 0).map W32).toArray := by
            have := row_next s (64 - t) (nextWord s) (by omega)
            rw [hl] at this; rw [this, show 64 - t - 1 = 64 - (t + 1) by omega]
          have h3' : ∀ x, x = nextWord s → Blk (wr.setCell ⟨w.heap.size + 1, t, none⟩ (W32 x)) (w.heap.size + 1) 136 (((s ++ [nextWord s]) ++ List.replicate (64 - (t + 1)) 0).map W32).toArray := by
            rintro x rfl; have := h3.put t (W32 (nextWord s)); rw [hn] at this; exact this
          have H2 := Lib.hid h2; have H3 := Lib.hid h3'; have HB := Lib.hid hb; have HC1 := Lib.hid hc1
          clear h2 h3 h3' hb hc1 hn cell hl
          generalize s.getD (t - 2) 0 = x2 at *
          generalize s.getD (t - 7) 0 = x7 at *
          generalize s.getD (t - 15) 0 = x15 at *
          generalize s.getD (t - 16) 0 = x16 at *
          go_wp2_with (go_at_call 106; refine (turned_int _ _ (by omega) (by omega) _).mono ?_; rintro e w' ⟨rfl, n, rfl⟩)
          refine wp_region_T [15] [] (fun _ => True) (by kernel_rfl) (by kernel_rfl) trivial ?_
          repeat (first
            | (refine wpT_here (by rfl) (by rfl) (by rfl) (fun K hK => ?_); go_big_quiet_op; refine hK _ ?_; clear hK K)
            | (refine wpT_loud (by rfl) (by rfl) (fun K hK => ?_); go_big_op; refine hK _ _ trivial ?_; clear hK K))
          refine wpT_nil ?_
          go_wp2
          go_roundw
          case rel =>
            refine ⟨t + 1, by omega, by omega, by go_num, ⟨c1, HC1.out, (H2.out.farAt (by omega) _).drewN _⟩, ?_, below_drewN (below_putAt HB.out (by omega) _) _⟩
            rw [HN.out]
            exact (H3.out _ HX.out.symm).drewN _
          case measure => simp [intOf]; omega
        · obtain rfl : t = 64 := by omega
          rw [show ((64 : Nat) : Int) = (64 : Int) from rfl]
          have hl : ((sched (words bs 16) 48).map W32).length = 64 := by simp [sched_length, words_length]
          have h3' : Blk wr (w.heap.size + 1) 136 ((sched (words bs 16) 48).map W32).toArray := by simpa using h3
          have H2 := Lib.hid h2; have H3 := Lib.hid h3'; have HB := Lib.hid hb; have HC := Lib.hid hc1; have HL := Lib.hid hl
          clear h2 h3 h3' hb hc1 hl
          go_wp2_with ((with_reducible show wpList _ _ _ _ _ _); first
            | (refine wpList_ldAll rfl 136 _ rfl H3.out rfl (by kernel_rfl) (by rw [HL.out]; kernel_rfl) ?_)
            | (refine wpList_stAll rfl 136 _ _ rfl H2.out rfl rfl (by rw [HL.out]; kernel_rfl) (by rw [HL.out, HC.out]) (one_map _ _ fun _ => rfl) ?_))
          refine bodyPost_ret (results_ldAll (mid := (sched (words bs 16) 48).map W32) rfl _ (H2.out.row _) rfl (by kernel_rfl) (by rw [HL.out]; kernel_rfl)) rfl ⟨rfl, Below.row HB.out (by omega) _⟩
end Go.Proofs.Ytlagngkafllbiaa
