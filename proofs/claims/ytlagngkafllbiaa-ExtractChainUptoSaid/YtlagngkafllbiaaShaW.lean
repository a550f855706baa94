/- The walks of the program's SHA-256: the schedule. -/

import Derived.Test.YtlagngkafllbiaaA1
import Derived.BigQuiet
import Derived.BigRegion
import Derived.Deep.Draws
import Derived.Deep.LoopGhost
import Derived.Outline
import Derived.Lib.Hide
set_option linter.unusedSimpArgs false
namespace Go.Proofs.Ytlagngkafllbiaa
open Go Go.RowKit
abbrev W32 (x : BitVec 32) : Value := .int .u32 (n32 x)


theorem and31 : ∀ k : Fin 32, 0 < k.val → bits .and .u64 (IntKind.u64.wrap (-(k.val:Int))) 31 = 32 - (k.val : Int) := by decide +kernel
theorem rot_any (x : BitVec 32) (k : Nat) (hk : 0 < k) (hk2 : k < 32) (w : World) :
    Calls Try.prog 98 #[.int .u32 (n32 x), .int .i64 (-(k:Int))] w fun e w' => e = .returned (.int .u32 (n32 (ror x k))) ∧ w' = w := by
  have h1 : bits .and .u64 (IntKind.u64.wrap (-(k:Int))) 31 = (32 - (k : Int)) := and31 ⟨k, hk2⟩ hk
  have h2 : (0 : Int) ≤ 32 - (k:Int) := by omega
  have h3 : (32 - (k:Int)) ≤ 32 := by omega
  go_enter Try.func98, Try.ntmps98
  go_wp2
  go_ret
  refine ⟨?_, rfl⟩
  show Ending.returned (.int .u32 (bits BinOp.or IntKind.u32 (n32 x * 2 ^ (32 - k) % 4294967296) (n32 x / 2 ^ (32 - (32 - k))))) = _
  rw [u32_shl, u32_shr, u32_or, show 32 - (32 - k) = k by omega]; rfl
theorem right_any (x : BitVec 32) (k : Nat) (hk : 0 < k) (hk2 : k < 32) (w : World) :
    Calls Try.prog 87 #[.int .u32 (n32 x), .int .i64 k] w fun e w' => e = .returned (.int .u32 (n32 (ror x k))) ∧ w' = w := by
  go_enter Try.func87, Try.ntmps87
  go_wp2_with (go_at_call 98; refine (rot_any _ _ (by omega) (by omega) _).mono ?_; rintro e w' ⟨rfl, rfl⟩)
  go_ret
  exact ⟨rfl, rfl⟩

theorem right_int (x : BitVec 32) (n : Int) (h0 : 0 < n) (h1 : n < 32) (w : World) :
    Calls Try.prog 87 #[.int .u32 (n32 x), .int .i64 n] w fun e w' => e = .returned (.int .u32 (n32 (ror x n.toNat))) ∧ w' = w := by
  obtain ⟨k, rfl⟩ := Int.eq_ofNat_of_zero_le (Int.le_of_lt h0)
  exact right_any x k (by omega) (by omega) w
/-- The next cell of a row of words is filled. -/
theorem row_next (xs : List (BitVec 32)) (n : Nat) (x : BitVec 32) (hn : 0 < n) : ((xs ++ List.replicate n 0).map W32).toArray.setIfInBounds xs.length (W32 x) = ((xs ++ [x] ++ List.replicate (n - 1) 0).map W32).toArray := by
  obtain ⟨m, rfl⟩ : ∃ m, n = m + 1 := ⟨n - 1, by omega⟩
  simp [List.replicate_succ, List.set_append]

attribute [local go_sem] or_bytes u32_shr10 u32_shr3 u32_xor u32_and u32_or u32_add u32_add' u32_not
set_option maxRecDepth 100000 in
theorem schedule_any (bs : List UInt8) (hbs : bs.length = 64) (w : World) :
    Calls Try.prog 85 #[.agg (bs.map B8).toArray] w fun e w' => e = .returned (.agg ((sched (words bs 16) 48).map W32).toArray) ∧ Below w.heap.size w w' := by
  go_enter Try.func85, Try.ntmps85
  go_wp2
  go_loopw [4, 10] (fun _ i wr => ∃ k : Nat, k ≤ 16 ∧ i = .int .i64 k ∧ Blk wr w.heap.size 103 (bs.map B8).toArray ∧ (∃ c1 : Array Value, c1.size = 64 ∧ Blk wr (w.heap.size + 1) 136 c1) ∧
      Blk wr (w.heap.size + 1 + 1) 136 ((words bs k ++ List.replicate (64 - k) 0).map W32).toArray ∧ Below w.heap.size w wr) (fun _ i _ => 16 - (intOf i).toNat)
  case atStart =>
    refine ⟨0, by omega, rfl, ((Blk.new _ _ _).alloc _).alloc _, ⟨_, by rfl, (Blk.newAt _ _ _ (by simp)).alloc _⟩, by rw [words_zero]; exact Blk.newAt _ _ _ (by simp), ?_⟩
    exact (((Below.refl _ _).alloc (Nat.le_refl _) _).alloc (by simp) _).alloc (by simp; omega) _
  case round =>
    obtain ⟨k, hk, rfl, h1, ⟨c1, hc1, h2⟩, h3, hb⟩ := hrel
    by_cases hlt : k < 16
    · have a0 : wr.cell? ⟨w.heap.size, 4 * k, none⟩ = some (B8 (bs.getD (4 * k) 0)) := by rw [h1.cell]; simp [show 4 * k < bs.length by omega]
      have a1 : wr.cell? ⟨w.heap.size, 4 * k + 1, none⟩ = some (B8 (bs.getD (4 * k + 1) 0)) := by rw [h1.cell]; simp [show 4 * k + 1 < bs.length by omega]
      have a2 : wr.cell? ⟨w.heap.size, 4 * k + 2, none⟩ = some (B8 (bs.getD (4 * k + 2) 0)) := by rw [h1.cell]; simp [show 4 * k + 2 < bs.length by omega]
      have a3 : wr.cell? ⟨w.heap.size, 4 * k + 3, none⟩ = some (B8 (bs.getD (4 * k + 3) 0)) := by rw [h1.cell]; simp [show 4 * k + 3 < bs.length by omega]
      have a4 : wr.cell? ⟨w.heap.size + 1 + 1, k, none⟩ = some (W32 0) := by
        rw [h3.cell]; simp [List.getElem?_append, words_length, show 0 < 64 - k by omega]
      have a5 := h3.free k
      have b0 := (bs.getD (4 * k) 0).toNat_lt
      have b1 := (bs.getD (4 * k + 1) 0).toNat_lt
      have b2 := (bs.getD (4 * k + 2) 0).toNat_lt
      have b3 := (bs.getD (4 * k + 3) 0).toNat_lt
      have hn : ((words bs k ++ List.replicate (64 - k) 0).map W32).toArray.setIfInBounds k (W32 (wordAt bs k)) = ((words bs (k + 1) ++ List.replicate (64 - (k + 1)) 0).map W32).toArray := by
        have := row_next (words bs k) (64 - k) (wordAt bs k) (by omega)
        rw [words_length] at this; rw [this, words_succ, show 64 - k - 1 = 64 - (k + 1) by omega]
      have h3' : ∀ x, x = wordAt bs k → Blk (wr.setCell ⟨w.heap.size + 1 + 1, k, none⟩ (W32 x)) (w.heap.size + 1 + 1) 136 ((words bs (k + 1) ++ List.replicate (64 - (k + 1)) 0).map W32).toArray := by
        rintro x rfl; have := h3.put k (W32 (wordAt bs k)); rw [hn] at this; exact this
      have HX : Hid (wordAt bs k = word4 (bs.getD (4 * k) 0) (bs.getD (4 * k + 1) 0) (bs.getD (4 * k + 2) 0) (bs.getD (4 * k + 3) 0)) := wordAt_def _ _
      generalize bs.getD (4 * k) 0 = x0 at *
      generalize bs.getD (4 * k + 1) 0 = x1 at *
      generalize bs.getD (4 * k + 2) 0 = x2 at *
      generalize bs.getD (4 * k + 3) 0 = x3 at *
      have H1 := Lib.hid h1; have H2 := Lib.hid h2; have H3 := Lib.hid h3'; have HB := Lib.hid hb; have HC := Lib.hid hc1; clear h1 h2 h3 h3' hb hc1 hn
      go_wp2
      refine wp_region_T [31] [] (fun _ => True) (by kernel_rfl) (by kernel_rfl) trivial ?_
      repeat (first
        | (refine wpT_here (by rfl) (by rfl) (by rfl) (fun K hK => ?_); go_big_quiet_op; refine hK _ ?_; clear hK K)
        | (refine wpT_loud (by rfl) (by rfl) (fun K hK => ?_); go_big_op; refine hK _ _ trivial ?_; clear hK K))
      refine wpT_nil ?_
      go_wp2
      go_roundw
      case rel => exact ⟨k + 1, by omega, by go_num, (H1.out.far (by simp; omega) _).drew, ⟨c1, HC.out, (H2.out.far (by simp) _).drew⟩, (H3.out _ HX.out.symm).drew, (HB.out.setCell (by simp; omega) _).drew⟩
      case measure => simp [intOf]; omega
    · obtain rfl : k = 16 := by omega
      rw [show ((16 : Nat) : Int) = (16 : Int) from rfl]
      have H1 := Lib.hid h1; have H2 := Lib.hid h2; have H3 := Lib.hid h3; have HB := Lib.hid hb; have HC := Lib.hid hc1; clear h1 h2 h3 hb hc1
      go_wp2
      go_loopw [5, 6, 7, 8, 9] (fun i _ _ _ _ wr => ∃ t : Nat, 16 ≤ t ∧ t ≤ 64 ∧ i = .int .i64 t ∧ Blk wr w.heap.size 103 (bs.map B8).toArray ∧ (∃ c1 : Array Value, c1.size = 64 ∧ Blk wr (w.heap.size + 1) 136 c1) ∧
          Blk wr (w.heap.size + 1 + 1) 136 ((sched (words bs 16) (t - 16) ++ List.replicate (64 - t) 0).map W32).toArray ∧ Below w.heap.size w wr) (fun i _ _ _ _ _ => 64 - (intOf i).toNat)
      case atStart => exact ⟨16, by omega, by omega, rfl, H1.out, ⟨c1, HC.out, H2.out⟩, by rw [show 16 - 16 = 0 from rfl, sched_zero]; exact H3.out, HB.out⟩
      case round =>
        clear H1 H2 H3 HB HC hk hlt
        obtain ⟨t, ht1, ht2, rfl, h1, ⟨c1, hc1, h2⟩, h3, hb⟩ := hrel
        by_cases hlt : t < 64
        · have hl : (sched (words bs 16) (t - 16)).length = t := by rw [sched_length, words_length]; omega
          have HN : Hid (sched (words bs 16) (t + 1 - 16) = sched (words bs 16) (t - 16) ++ [nextWord (sched (words bs 16) (t - 16))]) := by
            rw [show t + 1 - 16 = (t - 16) + 1 by omega]; exact sched_succ _ _
          generalize sched (words bs 16) (t - 16) = s at *
          have cell : ∀ i, i < t → wr.cell? ⟨w.heap.size + 1 + 1, i, none⟩ = some (W32 (s.getD i 0)) := by
            intro i hi; rw [h3.cell]; simp [List.getElem?_append, hl, hi]
          have a2 := cell (t - 2) (by omega)
          have a7 := cell (t - 7) (by omega)
          have a15 := cell (t - 15) (by omega)
          have a16 := cell (t - 16) (by omega)
          have at_ : wr.cell? ⟨w.heap.size + 1 + 1, t, none⟩ = some (W32 0) := by
            rw [h3.cell]; simp [List.getElem?_append, hl, show 0 < 64 - t by omega]
          have af := h3.free t
          have HX : Hid (nextWord s = sg1 (s.getD (t - 2) 0) + s.getD (t - 7) 0 + sg0 (s.getD (t - 15) 0) + s.getD (t - 16) 0) := by unfold nextWord; rw [hl]; exact rfl
          have hn : ((s ++ List.replicate (64 - t) 0).map W32).toArray.setIfInBounds t (W32 (nextWord s)) = (((s ++ [nextWord s]) ++ List.replicate (64 - (t + 1)) 0).map W32).toArray := by
            have := row_next s (64 - t) (nextWord s) (by omega)
            rw [hl] at this; rw [this, show 64 - t - 1 = 64 - (t + 1) by omega]
          have h3' : ∀ x, x = nextWord s → Blk (wr.setCell ⟨w.heap.size + 1 + 1, t, none⟩ (W32 x)) (w.heap.size + 1 + 1) 136 (((s ++ [nextWord s]) ++ List.replicate (64 - (t + 1)) 0).map W32).toArray := by
            rintro x rfl; have := h3.put t (W32 (nextWord s)); rw [hn] at this; exact this
          have H1 := Lib.hid h1; have H2 := Lib.hid h2; have H3 := Lib.hid h3'; have HB := Lib.hid hb; have HC := Lib.hid hc1; have HL := Lib.hid hl
          clear h1 h2 h3 h3' hb hc1 hn cell hl
          generalize s.getD (t - 2) 0 = x2 at *
          generalize s.getD (t - 7) 0 = x7 at *
          generalize s.getD (t - 15) 0 = x15 at *
          generalize s.getD (t - 16) 0 = x16 at *
          go_wp2
          refine wp_region_T [] [] (fun _ => True) (by kernel_rfl) (by kernel_rfl) trivial ?_
          repeat (first
            | (refine wpT_here (by rfl) (by rfl) (by rfl) (fun K hK => ?_); go_big_quiet_op; refine hK _ ?_; clear hK K)
            | (refine wpT_loud (by rfl) (by rfl) (fun K hK => ?_); go_big_op; refine hK _ _ trivial ?_; clear hK K))
          refine wpT_nil ?_
          go_wp2_with (go_at_call 87; refine (right_int _ _ (by omega) (by omega) _).mono ?_; rintro e w' ⟨rfl, rfl⟩)
          refine wp_region_T [15] [] (fun _ => True) (by kernel_rfl) (by kernel_rfl) trivial ?_
          repeat (first
            | (refine wpT_here (by rfl) (by rfl) (by rfl) (fun K hK => ?_); go_big_quiet_op; refine hK _ ?_; clear hK K)
            | (refine wpT_loud (by rfl) (by rfl) (fun K hK => ?_); go_big_op; refine hK _ _ trivial ?_; clear hK K))
          refine wpT_nil ?_
          go_wp2
          go_roundw
          case rel =>
            refine ⟨t + 1, by omega, by omega, by go_num, (H1.out.far (by simp; omega) _).drew.drew, ⟨c1, HC.out, (H2.out.far (by simp) _).drew.drew⟩, ?_, (HB.out.setCell (by simp; omega) _).drew.drew⟩
            rw [HN.out]
            exact (H3.out _ HX.out.symm).drew.drew
          case measure => simp [intOf]; omega
        · obtain rfl : t = 64 := by omega
          rw [show ((64 : Nat) : Int) = (64 : Int) from rfl]
          have hl : ((sched (words bs 16) 48).map W32).length = 64 := by simp [sched_length, words_length]
          have h3' : Blk wr (w.heap.size + 1 + 1) 136 ((sched (words bs 16) 48).map W32).toArray := by simpa using h3
          have H1 := Lib.hid h1; have H2 := Lib.hid h2; have H3 := Lib.hid h3'; have HB := Lib.hid hb; have HC := Lib.hid hc1; have HL := Lib.hid hl
          clear h1 h2 h3 h3' hb hc1 hl
          go_wp2_with (first
            | (refine wpList_ldAll rfl 136 _ rfl H3.out rfl (by kernel_rfl) (by rw [HL.out]; kernel_rfl) ?_)
            | (refine wpList_stAll rfl 136 _ _ rfl H2.out rfl rfl (by rw [HL.out]; kernel_rfl) (by rw [HL.out, HC.out]) (one_map _ _ fun _ => rfl) ?_))
          refine bodyPost_ret (results_ldAll (mid := (sched (words bs 16) 48).map W32) rfl _ (H2.out.row _) rfl (by kernel_rfl) (by rw [HL.out]; kernel_rfl)) rfl ⟨rfl, Below.row HB.out (by omega) _⟩
end Go.Proofs.Ytlagngkafllbiaa
