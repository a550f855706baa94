/- The walks of the program's SHA-256: the schedule. -/
import Derived.Test.YtlagngkafllbiaaA1
import Derived.BigQuiet
import Derived.BigRegion
import Derived.Deep.Draws
import Derived.Deep.LoopGhost
import Derived.Outline
import Derived.Lib.Hide
import Derived.Test.YtlagngkafllbiaaA4
import Derived.Lib.BitFns
set_option linter.unusedSimpArgs false
set_option linter.unusedVariables false
namespace Go.Proofs.Ytlagngkafllbiaa
open Go Go.RowKit
abbrev W32 (x : BitVec 32) : Value := .int .u32 (n32 x)


theorem and31 : ∀ k : Fin 32, 0 < k.val → bits .and .u64 (IntKind.u64.wrap (-(k.val:Int))) 31 = 32 - (k.val : Int) := by decide +kernel
theorem rot_any (x : BitVec 32) (k : Nat) (hk : 0 < k) (hk2 : k < 32) (w : World) :
    Calls Try.prog 98 #[.int .u32 (n32 x), .int .i64 (-(k:Int))] w fun e w' => e = .returned (.int .u32 (n32 (ror x k))) ∧ w' = w := by
  have h1 : bits .and .u64 (IntKind.u64.wrap (-(k:Int))) 31 = (32 - (k : Int)) := and31 ⟨k, hk2⟩ hk
  have h2 : (0 : Int) ≤ 32 - (k:Int) := by omega
  have h3 : (32 - (k:Int)) ≤ 32 := by omega
  go_enter Try.func98, Try.ntmps98
  go_wp2
  go_ret
  refine ⟨?_, rfl⟩
  show Ending.returned (.int .u32 (bits BinOp.or IntKind.u32 (n32 x * 2 ^ (32 - k) % 4294967296) (n32 x / 2 ^ (32 - (32 - k))))) = _
  rw [u32_shl, u32_shr, u32_or, show 32 - (32 - k) = k by omega]; rfl
theorem right_any (x : BitVec 32) (k : Nat) (hk : 0 < k) (hk2 : k < 32) (w : World) :
    Calls Try.prog 87 #[.int .u32 (n32 x), .int .i64 k] w fun e w' => e = .returned (.int .u32 (n32 (ror x k))) ∧ w' = w := by
  go_enter Try.func87, Try.ntmps87
  go_wp2_with (go_at_call 98; refine (rot_any _ _ (by omega) (by omega) _).mono ?_; rintro e w' ⟨rfl, rfl⟩)
  go_ret
  exact ⟨rfl, rfl⟩

theorem right_int (x : BitVec 32) (n : Int) (h0 : 0 < n) (h1 : n < 32) (w : World) :
    Calls Try.prog 87 #[.int .u32 (n32 x), .int .i64 n] w fun e w' => e = .returned (.int .u32 (n32 (ror x n.toNat))) ∧ w' = w := by
  obtain ⟨k, rfl⟩ := Int.eq_ofNat_of_zero_le (Int.le_of_lt h0)
  exact right_any x k (by omega) (by omega) w
/-- The next cell of a row of words is filled. -/
theorem row_next (xs : List (BitVec 32)) (n : Nat) (x : BitVec 32) (hn : 0 < n) : ((xs ++ List.replicate n 0).map W32).toArray.setIfInBounds xs.length (W32 x) = ((xs ++ [x] ++ List.replicate (n - 1) 0).map W32).toArray := by
  obtain ⟨m, rfl⟩ : ∃ m, n = m + 1 := ⟨n - 1, by omega⟩
  simp [List.replicate_succ, List.set_append]

attribute [local go_sem] or_bytes u32_shr10 u32_shr3 u32_xor u32_and u32_or u32_add u32_add' u32_not
set_option maxRecDepth 100000 in
theorem schedule_any (bs : List UInt8) (hbs : bs.length = 64) (w : World) :
    Calls Try.prog 85 #[.agg (bs.map B8).toArray] w fun e w' => e = .returned (.agg ((sched (words bs 16) 48).map W32).toArray) ∧ Below w.heap.size w w' := by
  go_enter Try.func85, Try.ntmps85
  go_wp2
  go_loopw [4, 10] (fun _ i wr => ∃ k : Nat, k ≤ 16 ∧ i = .int .i64 k ∧ Blk wr w.heap.size 103 (bs.map B8).toArray ∧ (∃ c1 : Array Value, c1.size = 64 ∧ Blk wr (w.heap.size + 1) 136 c1) ∧
      Blk wr (w.heap.size + 1 + 1) 136 ((words bs k ++ List.replicate (64 - k) 0).map W32).toArray ∧ Below w.heap.size w wr) (fun _ i _ => 16 - (intOf i).toNat)
  case atStart =>
    refine ⟨0, by omega, rfl, ((Blk.new _ _ _).alloc _).alloc _, ⟨_, by rfl, (Blk.newAt _ _ _ (by simp)).alloc _⟩, by rw [words_zero]; exact Blk.newAt _ _ _ (by simp), ?_⟩
    exact (((Below.refl _ _).alloc (Nat.le_refl _) _).alloc (by simp) _).alloc (by simp; omega) _
  case round =>
    obtain ⟨k, hk, rfl, h1, ⟨c1, hc1, h2⟩, h3, hb⟩ := hrel
    by_cases hlt : k < 16
    · have a0 : wr.cell? ⟨w.heap.size, 4 * k, none⟩ = some (B8 (bs.getD (4 * k) 0)) := by rw [h1.cell]; simp [show 4 * k < bs.length by omega]
      have a1 : wr.cell? ⟨w.heap.size, 4 * k + 1, none⟩ = some (B8 (bs.getD (4 * k + 1) 0)) := by rw [h1.cell]; simp [show 4 * k + 1 < bs.length by omega]
      have a2 : wr.cell? ⟨w.heap.size, 4 * k + 2, none⟩ = some (B8 (bs.getD (4 * k + 2) 0)) := by rw [h1.cell]; simp [show 4 * k + 2 < bs.length by omega]
      have a3 : wr.cell? ⟨w.heap.size, 4 * k + 3, none⟩ = some (B8 (bs.getD (4 * k + 3) 0)) := by rw [h1.cell]; simp [show 4 * k + 3 < bs.length by omega]
      have a4 : wr.cell? ⟨w.heap.size + 1 + 1, k, none⟩ = some (W32 0) := by
        rw [h3.cell]; simp [List.getElem?_append, words_length, show 0 < 64 - k by omega]
      have a5 := h3.free k
      have b0 := (bs.getD (4 * k) 0).toNat_lt
      have b1 := (bs.getD (4 * k + 1) 0).toNat_lt
      have b2 := (bs.getD (4 * k + 2) 0).toNat_lt
      have b3 := (bs.getD (4 * k + 3) 0).toNat_lt
      have hn : ((words bs k ++ List.replicate (64 - k) 0).map W32).toArray.setIfInBounds k (W32 (wordAt bs k)) = ((words bs (k + 1) ++ List.replicate (64 - (k + 1)) 0).map W32).toArray := by
        have := row_next (words bs k) (64 - k) (wordAt bs k) (by omega)
        rw [words_length] at this; rw [this, words_succ, show 64 - k - 1 = 64 - (k + 1) by omega]
      have h3' : ∀ x, x = wordAt bs k → Blk (wr.setCell ⟨w.heap.size + 1 + 1, k, none⟩ (W32 x)) (w.heap.size + 1 + 1) 136 ((words bs (k + 1) ++ List.replicate (64 - (k + 1)) 0).map W32).toArray := by
        rintro x rfl; have := h3.put k (W32 (wordAt bs k)); rw [hn] at this; exact this
      have HX : Hid (wordAt bs k = word4 (bs.getD (4 * k) 0) (bs.getD (4 * k + 1) 0) (bs.getD (4 * k + 2) 0) (bs.getD (4 * k + 3) 0)) := wordAt_def _ _
      generalize bs.getD (4 * k) 0 = x0 at *
      generalize bs.getD (4 * k + 1) 0 = x1 at *
      generalize bs.getD (4 * k + 2) 0 = x2 at *
      generalize bs.getD (4 * k + 3) 0 = x3 at *
      have H1 := Lib.hid h1; have H2 := Lib.hid h2; have H3 := Lib.hid h3'; have HB := Lib.hid hb; have HC := Lib.hid hc1; clear h1 h2 h3 h3' hb hc1 hn
      go_wp2
      refine wp_region_T [31] [] (fun _ => True) (by kernel_rfl) (by kernel_rfl) trivial ?_
      repeat (first
        | (refine wpT_here (by rfl) (by rfl) (by rfl) (fun K hK => ?_); go_big_quiet_op; refine hK _ ?_; clear hK K)
        | (refine wpT_loud (by rfl) (by rfl) (fun K hK => ?_); go_big_op; refine hK _ _ trivial ?_; clear hK K))
      refine wpT_nil ?_
      go_wp2
      go_roundw
      case rel => exact ⟨k + 1, by omega, by go_num, (H1.out.far (by simp; omega) _).drew, ⟨c1, HC.out, (H2.out.far (by simp) _).drew⟩, (H3.out _ HX.out.symm).drew, (HB.out.setCell (by simp; omega) _).drew⟩
      case measure => simp [intOf]; omega
    · obtain rfl : k = 16 := by omega
      rw [show ((16 : Nat) : Int) = (16 : Int) from rfl]
      have H1 := Lib.hid h1; have H2 := Lib.hid h2; have H3 := Lib.hid h3; have HB := Lib.hid hb; have HC := Lib.hid hc1; clear h1 h2 h3 hb hc1
      go_wp2
      go_loopw [5, 6, 7, 8, 9] (fun i _ _ _ _ wr => ∃ t : Nat, 16 ≤ t ∧ t ≤ 64 ∧ i = .int .i64 t ∧ Blk wr w.heap.size 103 (bs.map B8).toArray ∧ (∃ c1 : Array Value, c1.size = 64 ∧ Blk wr (w.heap.size + 1) 136 c1) ∧
          Blk wr (w.heap.size + 1 + 1) 136 ((sched (words bs 16) (t - 16) ++ List.replicate (64 - t) 0).map W32).toArray ∧ Below w.heap.size w wr) (fun i _ _ _ _ _ => 64 - (intOf i).toNat)
      case atStart => exact ⟨16, by omega, by omega, rfl, H1.out, ⟨c1, HC.out, H2.out⟩, by rw [show 16 - 16 = 0 from rfl, sched_zero]; exact H3.out, HB.out⟩
      case round =>
        clear H1 H2 H3 HB HC hk hlt
        obtain ⟨t, ht1, ht2, rfl, h1, ⟨c1, hc1, h2⟩, h3, hb⟩ := hrel
        by_cases hlt : t < 64
        · have hl : (sched (words bs 16) (t - 16)).length = t := by rw [sched_length, words_length]; omega
          have HN : Hid (sched (words bs 16) (t + 1 - 16) = sched (words bs 16) (t - 16) ++ [nextWord (sched (words bs 16) (t - 16))]) := by
            rw [show t + 1 - 16 = (t - 16) + 1 by omega]; exact sched_succ _ _
          generalize sched (words bs 16) (t - 16) = s at *
          have cell : ∀ i, i < t → wr.cell? ⟨w.heap.size + 1 + 1, i, none⟩ = some (W32 (s.getD i 0)) := by
            intro i hi; rw [h3.cell]; simp [List.getElem?_append, hl, hi]
          have a2 := cell (t - 2) (by omega)
          have a7 := cell (t - 7) (by omega)
          have a15 := cell (t - 15) (by omega)
          have a16 := cell (t - 16) (by omega)
          have at_ : wr.cell? ⟨w.heap.size + 1 + 1, t, none⟩ = some (W32 0) := by
            rw [h3.cell]; simp [List.getElem?_append, hl, show 0 < 64 - t by omega]
          have af := h3.free t
          have HX : Hid (nextWord s = sg1 (s.getD (t - 2) 0) + s.getD (t - 7) 0 + sg0 (s.getD (t - 15) 0) + s.getD (t - 16) 0) := by unfold nextWord; rw [hl]; exact rfl
          have hn : ((s ++ List.replicate (64 - t) 0).map W32).toArray.setIfInBounds t (W32 (nextWord s)) = (((s ++ [nextWord s]) ++ List.replicate (64 - (t + 1)) 0).map W32).toArray := by
            have := row_next s (64 - t) (nextWord s) (by omega)
            rw [hl] at this; rw [this, show 64 - t - 1 = 64 - (t + 1) by omega]
          have h3' : ∀ x, x = nextWord s → Blk (wr.setCell ⟨w.heap.size + 1 + 1, t, none⟩ (W32 x)) (w.heap.size + 1 + 1) 136 (((s ++ [nextWord s]) ++ List.replicate (64 - (t + 1)) 0).map W32).toArray := by
            rintro x rfl; have := h3.put t (W32 (nextWord s)); rw [hn] at this; exact this
          have H1 := Lib.hid h1; have H2 := Lib.hid h2; have H3 := Lib.hid h3'; have HB := Lib.hid hb; have HC := Lib.hid hc1; have HL := Lib.hid hl
          clear h1 h2 h3 h3' hb hc1 hn cell hl
          generalize s.getD (t - 2) 0 = x2 at *
          generalize s.getD (t - 7) 0 = x7 at *
          generalize s.getD (t - 15) 0 = x15 at *
          generalize s.getD (t - 16) 0 = x16 at *
          go_wp2
          refine wp_region_T [] [] (fun _ => True) (by kernel_rfl) (by kernel_rfl) trivial ?_
          repeat (first
            | (refine wpT_here (by rfl) (by rfl) (by rfl) (fun K hK => ?_); go_big_quiet_op; refine hK _ ?_; clear hK K)
            | (refine wpT_loud (by rfl) (by rfl) (fun K hK => ?_); go_big_op; refine hK _ _ trivial ?_; clear hK K))
          refine wpT_nil ?_
          go_wp2_with (go_at_call 87; refine (right_int _ _ (by omega) (by omega) _).mono ?_; rintro e w' ⟨rfl, rfl⟩)
          refine wp_region_T [15] [] (fun _ => True) (by kernel_rfl) (by kernel_rfl) trivial ?_
          repeat (first
            | (refine wpT_here (by rfl) (by rfl) (by rfl) (fun K hK => ?_); go_big_quiet_op; refine hK _ ?_; clear hK K)
            | (refine wpT_loud (by rfl) (by rfl) (fun K hK => ?_); go_big_op; refine hK _ _ trivial ?_; clear hK K))
          refine wpT_nil ?_
          go_wp2
          go_roundw
          case rel =>
            refine ⟨t + 1, by omega, by omega, by go_num, (H1.out.far (by simp; omega) _).drew.drew, ⟨c1, HC.out, (H2.out.far (by simp) _).drew.drew⟩, ?_, (HB.out.setCell (by simp; omega) _).drew.drew⟩
            rw [HN.out]
            exact (H3.out _ HX.out.symm).drew.drew
          case measure => simp [intOf]; omega
        · obtain rfl : t = 64 := by omega
          rw [show ((64 : Nat) : Int) = (64 : Int) from rfl]
          have hl : ((sched (words bs 16) 48).map W32).length = 64 := by simp [sched_length, words_length]
          have h3' : Blk wr (w.heap.size + 1 + 1) 136 ((sched (words bs 16) 48).map W32).toArray := by simpa using h3
          have H1 := Lib.hid h1; have H2 := Lib.hid h2; have H3 := Lib.hid h3'; have HB := Lib.hid hb; have HC := Lib.hid hc1; have HL := Lib.hid hl
          clear h1 h2 h3 h3' hb hc1 hl
          go_wp2_with (first
            | (refine wpList_ldAll rfl 136 _ rfl H3.out rfl (by kernel_rfl) (by rw [HL.out]; kernel_rfl) ?_)
            | (refine wpList_stAll rfl 136 _ _ rfl H2.out rfl rfl (by rw [HL.out]; kernel_rfl) (by rw [HL.out, HC.out]) (one_map _ _ fun _ => rfl) ?_))
          refine bodyPost_ret (results_ldAll (mid := (sched (words bs 16) 48).map W32) rfl _ (H2.out.row _) rfl (by kernel_rfl) (by rw [HL.out]; kernel_rfl)) rfl ⟨rfl, Below.row HB.out (by omega) _⟩
end Go.Proofs.Ytlagngkafllbiaa
/- The walks of the program's SHA-256: the block step. -/
namespace Go.Proofs.Ytlagngkafllbiaa
open Go Go.RowKit
abbrev S8.arr (s : S8) : Array Value := #[W32 s.a, W32 s.b, W32 s.c, W32 s.d, W32 s.e, W32 s.f, W32 s.g, W32 s.h]
set_option maxRecDepth 100000 in
theorem constants_any (w : World) : Calls Try.prog 86 #[] w fun e w' => e = .returned (.agg (kList.map W32).toArray) ∧ Below w.heap.size w w' := by
  go_enter Try.func86, Try.ntmps86
  go_wp2_with (first
    | (refine wpList_build rfl 136 _ rfl (.agg (kList.map W32).toArray) (fun _ => by kernel_rfl) ?_)
    | (refine wpList_stAll rfl 136 _ _ rfl (Blk.new _ _ _) rfl rfl (by kernel_rfl) (by rw [List.length_map, kList_length]; rfl) (one_map _ _ fun _ => rfl) ?_))
  refine bodyPost_ret (results_ldAll (mid := kList.map W32) rfl _ (g := w.heap.size) (t := 136) ?_ rfl (by kernel_rfl) (by kernel_rfl)) rfl ⟨rfl, ?_⟩
  · exact (Blk.new _ _ _).row _
  · exact Below.row ((Below.refl _ _).alloc (Nat.le_refl _) _) (Nat.le_refl _) _
end Go.Proofs.Ytlagngkafllbiaa
/- The walks of the program's SHA-256: the block step. -/
namespace Go.Proofs.Ytlagngkafllbiaa
open Go Go.RowKit
attribute [local go_sem] or_bytes u32_shr10 u32_shr3 u32_xor u32_and u32_or u32_add u32_add' u32_not u32_not'
set_option maxRecDepth 100000 in
theorem step_any (s : S8) (bs : List UInt8) (hbs : bs.length = 64) (w : World) :
    Calls Try.prog 58 #[.agg s.arr, .agg (bs.map B8).toArray] w fun e w' => e = .returned (.agg (step s bs).arr) ∧ Below w.heap.size w w' := by
  have hsl : ((sched (words bs 16) 48).map W32).length = 64 := by simp [sched_length, words_length]
  have hbl : (bs.map B8).length = 64 := by simpa using hbs
  have HSL := Lib.hid hsl; have HBL := Lib.hid hbl; clear hsl hbl
  have HBS := Lib.hid hbs; clear hbs
  go_enter Try.func58, Try.ntmps58
  go_wp2_with (refine wpList_ldAll rfl 103 _ rfl (g := w.heap.size + 1) (t := 103) (mid := bs.map B8) ((Blk.newAt _ _ _ (by simp)).alloc _) rfl (by kernel_rfl) (by rw [HBL.out]; kernel_rfl) ?_)
  refine (schedule_any _ HBS.out _).mono ?_
  rintro e w1 ⟨rfl, hb1⟩; have HB1 := Lib.hid hb1; clear hb1

  go_wp2_with fail

  refine (constants_any _).mono ?_
  rintro e w2 ⟨rfl, hb2⟩; have HB2 := Lib.hid hb2; clear hb2
  dsimp only
  iterate 7 go_step
  refine wpList_stAll rfl 136 (.tmp 5) _ rfl ((Blk.new _ _ _).alloc _) rfl rfl (by rw [HSL.out]; kernel_rfl) (by rw [HSL.out]; rfl) (one_map _ _ fun _ => rfl) ?_
  refine wpList_stAll rfl 136 (.tmp 6) _ rfl ((Blk.newAt _ _ _ (by simp)).rowFar (by simp) _) rfl rfl (by kernel_rfl) (by rw [List.length_map, kList_length]; rfl) (one_map _ _ fun _ => rfl) ?_
  have hz1 : w.heap.size + 1 + 1 + 1 ≤ w1.heap.size := by have := HB1.out.size; simpa using this
  have hz2 : w1.heap.size ≤ w2.heap.size := HB2.out.size
  refine wpList_forget (fun w3 => Blk w3 w.heap.size 101 s.arr ∧ (∃ z, z.size = 8 ∧ Blk w3 (w.heap.size + 1 + 1) 101 z) ∧ Blk w3 w2.heap.size 136 ((sched (words bs 16) 48).map W32).toArray ∧ Blk w3 (w2.heap.size + 1) 136 (kList.map W32).toArray ∧ Below w.heap.size w w3 ∧ w2.heap.size + 1 < w3.heap.size) ?_ ?_
  · have b0 : Blk w1 w.heap.size 101 s.arr := (((Blk.new _ _ _).alloc _).alloc _).below HB1.out (by simp; omega)
    have b2 : Blk w1 (w.heap.size + 1 + 1) 101 _ := (Blk.newAt _ _ _ (by simp)).below HB1.out (by simp)
    have bb : Below w.heap.size w w1 := ((((Below.refl _ _).alloc (Nat.le_refl _) _).alloc (by simp) _).alloc (by simp; omega) _).trans (HB1.out.mono (by simp; omega))
    refine ⟨((((b0.below HB2.out (by omega)).alloc _).alloc _).rowFar (by omega) _).rowFar (by omega) _, ⟨_, by rfl, ((((b2.below HB2.out (by omega)).alloc _).alloc _).rowFar (by omega) _).rowFar (by omega) _⟩,
      (((Blk.new _ _ _).alloc _).row _).rowFar (by omega) _, ((Blk.newAt _ _ _ (by simp)).rowFar (by simp) _).row _, ?_, by simp⟩
    exact Below.row (Below.row (((bb.trans (HB2.out.mono (by omega))).alloc (by omega) _).alloc (by simp; omega) _) (by omega) _) (by omega) _
  rintro w3 ⟨c1, ⟨z, hz, c2⟩, c3, c4, c5, hz3⟩
  have C1 := Lib.hid c1; have C2 := Lib.hid c2; have C3 := Lib.hid c3; have C4 := Lib.hid c4; have C5 := Lib.hid c5; have HZ := Lib.hid hz
  clear c1 c2 c3 c4 c5 hz HB1 HB2
  go_wp2_with ((with_reducible show wpList _ _ _ _ _ _); refine wpList_ldAll rfl 101 (.tmp 2) rfl (mid := s.arr.toList) C1.out rfl (by kernel_rfl) (by kernel_rfl) ?_)
  have HB0 := Lib.hid ((C5.out.alloc (by have := C5.out.size; omega) (Obj.cells s.arr 101)))
  have H7 : Hid (Blk (w3.alloc (Obj.cells s.arr 101)) w3.heap.size 101 s.arr) := Blk.new _ _ _
  have hw3 : w.heap.size + 1 + 1 < w3.heap.size := by omega
  go_loopw [8, 9, 10, 11, 12, 18] (fun _ _ _ _ _ i wr => ∃ t : Nat, t ≤ 64 ∧ i = .int .i64 t ∧ Blk wr w.heap.size 101 s.arr ∧ (∃ z : Array Value, z.size = 8 ∧ Blk wr (w.heap.size + 1 + 1) 101 z) ∧
      Blk wr w2.heap.size 136 ((sched (words bs 16) 48).map W32).toArray ∧ Blk wr (w2.heap.size + 1) 136 (kList.map W32).toArray ∧ Blk wr w3.heap.size 101 (rnds (sched (words bs 16) 48) s t).arr ∧ Below w.heap.size w wr)
    (fun _ _ _ _ _ i _ => 64 - (intOf i).toNat)
  case atStart => exact ⟨0, by omega, rfl, C1.out.alloc _, ⟨z, HZ.out, C2.out.alloc _⟩, C3.out.alloc _, C4.out.alloc _, by rw [rnds_zero]; exact H7.out, HB0.out⟩
  case round =>
    obtain ⟨t, ht, rfl, d1, ⟨z2, hz2', d2⟩, d3, d4, d5, d6⟩ := hrel
    clear C1 C2 C3 C4 C5 HZ HB0 H7
    by_cases hlt : t < 64
    · have HN := Lib.hid (rnds_succ (sched (words bs 16) 48) s t)
      have k1 : wr.cell? ⟨w2.heap.size + 1, t, none⟩ = some (W32 (kList.getD t 0)) := by
        rw [d4.cell]; have := kList_length; simp [show t < kList.length by omega]
      have k2 : wr.cell? ⟨w2.heap.size, t, none⟩ = some (W32 ((sched (words bs 16) 48).getD t 0)) := by
        rw [d3.cell]; have := HSL.out; simp only [List.length_map] at this; simp [show t < (sched (words bs 16) 48).length by omega]
      generalize kList.getD t 0 = kt at *
      generalize (sched (words bs 16) 48).getD t 0 = wt at *
      have r0 : wr.cell? ⟨w3.heap.size, 0, none⟩ = some (W32 (rnds (sched (words bs 16) 48) s t).a) := d5.cell 0
      have r1 : wr.cell? ⟨w3.heap.size, 1, none⟩ = some (W32 (rnds (sched (words bs 16) 48) s t).b) := d5.cell 1
      have r2 : wr.cell? ⟨w3.heap.size, 2, none⟩ = some (W32 (rnds (sched (words bs 16) 48) s t).c) := d5.cell 2
      have r3 : wr.cell? ⟨w3.heap.size, 3, none⟩ = some (W32 (rnds (sched (words bs 16) 48) s t).d) := d5.cell 3
      have r4 : wr.cell? ⟨w3.heap.size, 4, none⟩ = some (W32 (rnds (sched (words bs 16) 48) s t).e) := d5.cell 4
      have r5 : wr.cell? ⟨w3.heap.size, 5, none⟩ = some (W32 (rnds (sched (words bs 16) 48) s t).f) := d5.cell 5
      have r6 : wr.cell? ⟨w3.heap.size, 6, none⟩ = some (W32 (rnds (sched (words bs 16) 48) s t).g) := d5.cell 6
      have r7 : wr.cell? ⟨w3.heap.size, 7, none⟩ = some (W32 (rnds (sched (words bs 16) 48) s t).h) := d5.cell 7
      have D1 := Lib.hid d1; have D2 := Lib.hid d2; have D3 := Lib.hid d3; have D4 := Lib.hid d4; have D5 := Lib.hid d5; have D6 := Lib.hid d6; have HX := Lib.hid HN.out; have HZ := Lib.hid hz2'
      clear d1 d2 d3 d4 d5 d6 HN hz2'
      generalize rnds (sched (words bs 16) 48) s t = r at *
      go_wp2
      refine wp_region_T [] [] (fun _ => True) (by kernel_rfl) (by kernel_rfl) trivial ?_
      repeat (first
        | (refine wpT_here (by rfl) (by rfl) (by rfl) (fun K hK => ?_); go_big_quiet_op; refine hK _ ?_; clear hK K)
        | (refine wpT_loud (by rfl) (by rfl) (fun K hK => ?_); go_big_op; refine hK _ _ trivial ?_; clear hK K))
      refine wpT_nil ?_
      go_wp2
      refine wp_region_T [3, 5, 8] [0, 1, 4, 6, 7, 11, 12, 13, 14, 15, 16, 17, 18, 19, 20, 22, 23, 24, 26, 27, 28] (fun w' => w' = wr.drew.drew) (by kernel_rfl) (by kernel_rfl) rfl ?_
      repeat (first
        | (refine wpT_here (by rfl) (by rfl) (by rfl) (fun K hK => ?_); go_big_quiet_op; refine hK _ ?_; clear hK K)
        | (refine wpT_amb (by rfl) (by rfl) (by rfl) rfl (fun K hK => ?_); go_big_quiet_op; refine hK _ ?_; clear hK K)
        | (refine wpT_loud (by rfl) (by rfl) (fun K hK => ?_); go_step; refine (right_int _ _ (by omega) (by omega) _).mono ?_; rintro e w' ⟨rfl, rfl⟩; dsimp only; refine hK _ _ rfl ?_; clear hK K))
      refine wpT_nil ?_
      go_wp2
      refine wp_region_T [1, 3, 6] [2, 4, 5, 8, 9, 10, 11, 12, 13, 14, 15, 16, 17, 18, 19, 20, 21, 22] (fun w' => w' = wr.drew.drew.drew) (by kernel_rfl) (by kernel_rfl) rfl ?_
      repeat (first
        | (refine wpT_here (by rfl) (by rfl) (by rfl) (fun K hK => ?_); go_big_quiet_op; refine hK _ ?_; clear hK K)
        | (refine wpT_amb (by rfl) (by rfl) (by rfl) rfl (fun K hK => ?_); go_big_quiet_op; refine hK _ ?_; clear hK K)
        | (refine wpT_loud (by rfl) (by rfl) (fun K hK => ?_); go_step; refine (right_int _ _ (by omega) (by omega) _).mono ?_; rintro e w' ⟨rfl, rfl⟩; dsimp only; refine hK _ _ rfl ?_; clear hK K))
      refine wpT_nil ?_
      go_wp2_with ((with_reducible show wpList _ _ _ _ _ _); refine wpList_stAll rfl 101 (.tmp 7) _ rfl D5.out rfl rfl (by kernel_rfl) rfl (by simp [Value.oneCell']) ?_)
      go_roundw
      case rel =>
        exact ⟨t + 1, by omega, by go_num, D1.out.drew.drew.drew.rowFar (by omega) _, ⟨z2, HZ.out, D2.out.drew.drew.drew.rowFar (by omega) _⟩, D3.out.drew.drew.drew.rowFar (by omega) _, D4.out.drew.drew.drew.rowFar (by omega) _, by rw [HX.out, u32_sum5, u32_sum14]; exact D5.out.drew.drew.drew.row _, Below.row D6.out.drew.drew.drew (by omega) _⟩
      case measure => simp [intOf]; omega
    · obtain rfl : t = 64 := by omega
      rw [show ((64 : Nat) : Int) = (64 : Int) from rfl]
      have D1 := Lib.hid d1; have D2 := Lib.hid d2; have D5 := Lib.hid d5; have D6 := Lib.hid d6; have HZ := Lib.hid hz2'; have HD := Lib.hid (step_def s bs)
      clear d1 d2 d3 d4 d5 d6 hz2'
      obtain ⟨r, hr⟩ : ∃ r, r = rnds (sched (words bs 16) 48) s 64 := ⟨_, rfl⟩
      rw [← hr] at D5 HD
      clear hr
      go_wp2
      go_loopw [13, 98] (fun _ i wr' => ∃ k : Nat, k ≤ 8 ∧ i = .int .i64 k ∧ Blk wr' w.heap.size 101 ((mix s r k).map W32).toArray ∧ (∃ z : Array Value, z.size = 8 ∧ Blk wr' (w.heap.size + 1 + 1) 101 z) ∧
          Blk wr' w3.heap.size 101 (r.l.map W32).toArray ∧ Below w.heap.size w wr') (fun _ i _ => 8 - (intOf i).toNat)
      case atStart => exact ⟨0, by omega, rfl, by rw [mix_zero]; exact D1.out, ⟨z2, HZ.out, D2.out⟩, D5.out, D6.out⟩
      case round =>
        obtain ⟨k, hk, rfl, e1, ⟨z3, hz3', e2⟩, e5, e6⟩ := hrel
        clear D1 D2 D5 D6 HZ
        by_cases hlk : k < 8
        · have hl : r.l.length = 8 := rfl
          have k1 : wr.cell? ⟨w.heap.size, k, none⟩ = some (W32 (s.l.getD k 0)) := by
            rw [e1.cell]; simp [mix_at s r k hlk]
          have k2 : wr.cell? ⟨w3.heap.size, k, none⟩ = some (W32 (r.l.getD k 0)) := by
            rw [e5.cell]; simp [show k < r.l.length by omega]
          have k3 := e1.free k
          have hs : Blk (wr.setCell ⟨w.heap.size, k, none⟩ (W32 (s.l.getD k 0 + r.l.getD k 0))) w.heap.size 101 ((mix s r (k + 1)).map W32).toArray := by
            have := e1.put k (W32 (s.l.getD k 0 + r.l.getD k 0))
            rw [List.setIfInBounds_toArray, ← List.map_set, mix_set s r k hlk] at this
            exact this
          generalize s.l.getD k 0 = x at *
          generalize r.l.getD k 0 = y at *
          have E1 := Lib.hid hs; have E2 := Lib.hid e2; have E5 := Lib.hid e5; have E6 := Lib.hid e6; have HZ := Lib.hid hz3'
          clear e1 e2 e5 e6 hz3' hs hl
          go_wp2
          refine wp_region_T [8] [] (fun _ => True) (by kernel_rfl) (by kernel_rfl) trivial ?_
          repeat (first
            | (refine wpT_here (by rfl) (by rfl) (by rfl) (fun K hK => ?_); go_big_quiet_op; refine hK _ ?_; clear hK K)
            | (refine wpT_loud (by rfl) (by rfl) (fun K hK => ?_); go_big_op; refine hK _ _ trivial ?_; clear hK K))
          refine wpT_nil ?_
          go_wp2
          go_roundw
          case rel => exact ⟨k + 1, by omega, by go_num, E1.out.drew, ⟨z3, HZ.out, (E2.out.farAt (by omega) _).drew⟩, (E5.out.farAt (by omega) _).drew, (below_putAt E6.out (by omega) _).drew⟩
          case measure => simp [intOf]; omega
        · obtain rfl : k = 8 := by omega
          rw [show ((8 : Nat) : Int) = (8 : Int) from rfl]
          rw [mix_eight] at e1
          have E1 := Lib.hid e1; have E2 := Lib.hid e2; have E6 := Lib.hid e6; have HZ := Lib.hid hz3'
          clear e1 e2 e5 e6 hz3'
          go_wp2_with ((with_reducible show wpList _ _ _ _ _ _); first
            | (refine wpList_ldAll rfl 101 (.tmp 2) rfl E1.out rfl (by kernel_rfl) (by kernel_rfl) ?_)
            | (refine wpList_stAll rfl 101 (.tmp 4) _ rfl E2.out rfl rfl (by kernel_rfl) HZ.out (one_map _ _ fun _ => rfl) ?_))
          refine bodyPost_ret (results_ldAll (mid := (addS s r).l.map W32) rfl _ (E2.out.row _) rfl (by kernel_rfl) (by kernel_rfl)) rfl ⟨?_, Below.row E6.out (by omega) _⟩
          rw [HD.out]; rfl
end Go.Proofs.Ytlagngkafllbiaa
/- The walks of the reference's SHA-256: words, the block step. -/
namespace Go.Proofs.Ytlagngkafllbiaa
open Go Go.RowKit
theorem turned_any (x : BitVec 32) (k : Nat) (hk : 0 < k) (hk2 : k < 32) (w : World) :
    Calls Try.prog 106 #[.int .u32 (n32 x), .int .i64 k] w fun e w' => e = .returned (.int .u32 (n32 (ror x k))) ∧ ∃ n, w' = w.drewN n := by
  have h2 : (0 : Int) ≤ 32 - (k:Int) := by omega
  have h3 : (32 - (k:Int)) ≤ 32 := by omega
  go_enter Try.func106, Try.ntmps106
  go_wp2
  refine wp_region_T [] [] (fun _ => True) (by kernel_rfl) (by kernel_rfl) trivial ?_
  repeat (first
    | (refine wpT_here (by rfl) (by rfl) (by rfl) (fun K hK => ?_); go_big_quiet_op; refine hK _ ?_; clear hK K)
    | (refine wpT_loud (by rfl) (by rfl) (fun K hK => ?_); go_big_op; refine hK _ _ trivial ?_; clear hK K))
  refine wpT_nil ?_
  go_wp2
  go_ret
  refine ⟨?_, 1, rfl⟩
  show Ending.returned (.int .u32 (bits BinOp.or IntKind.u32 (n32 x / 2 ^ k) (n32 x * 2 ^ (32 - k) % 4294967296))) = _
  rw [u32_shl, u32_shr, u32_or, BitVec.or_comm]; rfl
theorem turned_int (x : BitVec 32) (n : Int) (h0 : 0 < n) (h1 : n < 32) (w : World) :
    Calls Try.prog 106 #[.int .u32 (n32 x), .int .i64 n] w fun e w' => e = .returned (.int .u32 (n32 (ror x n.toNat))) ∧ ∃ n, w' = w.drewN n := by
  obtain ⟨k, rfl⟩ := Int.eq_ofNat_of_zero_le (Int.le_of_lt h0)
  exact turned_any x k (by omega) (by omega) w
set_option maxRecDepth 100000 in
theorem constantsR_any (w : World) : Calls Try.prog 105 #[] w fun e w' => e = .returned (.agg (kList.map W32).toArray) ∧ Below w.heap.size w w' := by
  go_enter Try.func105, Try.ntmps105
  go_wp2_with (first
    | (refine wpList_build rfl 136 _ rfl (.agg (kList.map W32).toArray) (fun _ => by kernel_rfl) ?_)
    | (refine wpList_stAll rfl 136 _ _ rfl (Blk.new _ _ _) rfl rfl (by kernel_rfl) (by rw [List.length_map, kList_length]; rfl) (one_map _ _ fun _ => rfl) ?_))
  refine bodyPost_ret (results_ldAll (mid := kList.map W32) rfl _ (g := w.heap.size) (t := 136) ?_ rfl (by kernel_rfl) (by kernel_rfl)) rfl ⟨rfl, ?_⟩
  · exact (Blk.new _ _ _).row _
  · exact Below.row ((Below.refl _ _).alloc (Nat.le_refl _) _) (Nat.le_refl _) _
end Go.Proofs.Ytlagngkafllbiaa
/- The walks of the reference's SHA-256: words. -/
namespace Go.Proofs.Ytlagngkafllbiaa
open Go Go.RowKit
theorem row_here (xs : List (BitVec 32)) (n : Nat) (x y : BitVec 32) : ((xs ++ [x] ++ List.replicate n 0).map W32).toArray.setIfInBounds xs.length (W32 y) = ((xs ++ [y] ++ List.replicate n 0).map W32).toArray := by
  simp
attribute [local go_sem] or_bytes u32_shr10 u32_shr3 u32_xor u32_and u32_or u32_add u32_add' u32_not u32_next u32_sum3 u32_sum4
set_option maxRecDepth 100000 in
theorem wordsR_any (bs : List UInt8) (hbs : bs.length = 64) (A : Option Addr) (c : Nat) (w : World) (hr : Rd byteE w w.heap.size A bs) :
    Calls Try.prog 104 #[.slice A 64 c] w fun e w' => e = .returned (.agg ((sched (words bs 16) 48).map W32).toArray) ∧ Below w.heap.size w w' := by
  obtain ⟨g, o, rfl, hg, hcell⟩ := rd_byte hr (k := 0) (by omega)
  clear hr
  have HC := Lib.hid hcell; have HL := Lib.hid hbs; clear hcell hbs
  go_enter Try.func104, Try.ntmps104
  go_wp2
  go_loopw [4, 5] (fun i _ wr => ∃ k : Nat, k ≤ 16 ∧ i = .int .i64 k ∧ (∃ c1 : Array Value, c1.size = 64 ∧ Blk wr w.heap.size 136 c1) ∧
      Blk wr (w.heap.size + 1) 136 ((words bs k ++ List.replicate (64 - k) 0).map W32).toArray ∧ Below w.heap.size w wr) (fun i _ _ => 16 - (intOf i).toNat)
  case atStart =>
    refine ⟨0, by omega, rfl, ⟨_, by rfl, (Blk.new _ _ _).alloc _⟩, by rw [words_zero]; exact Blk.newAt _ _ _ (by simp), ?_⟩
    exact ((Below.refl _ _).alloc (Nat.le_refl _) _).alloc (by simp) _
  case round =>
    obtain ⟨k, hk, rfl, ⟨c1, hc1, h2⟩, h3, hb⟩ := hrel
    by_cases hlt : k < 16
    · have H2 := Lib.hid h2; have H3 := Lib.hid h3; have HB := Lib.hid hb; have HC1 := Lib.hid hc1; clear h2 h3 hb hc1
      go_wp2
      obtain ⟨wo, rfl⟩ : ∃ wo : World, wo = wr := ⟨_, rfl⟩
      go_loopw [5] (fun i wr => ∃ j : Nat, j ≤ 4 ∧ i = .int .i64 j ∧ Blk wr w.heap.size 136 c1 ∧
          Blk wr (w.heap.size + 1) 136 ((words bs k ++ [part bs k j] ++ List.replicate (63 - k) 0).map W32).toArray ∧ Below w.heap.size w wr) (fun i _ => 4 - (intOf i).toNat)
      case atStart =>
        refine ⟨0, by omega, rfl, H2.out, ?_, HB.out⟩
        rw [part_zero, List.append_assoc, List.singleton_append, ← List.replicate_succ, show 63 - k + 1 = 64 - k by omega]; exact H3.out
      case round =>
        obtain ⟨j, hj, rfl, e2, e3, eb⟩ := hrel
        by_cases hlj : j < 4
        · have hl := HL.out
          have a1 : wr.cell? ⟨g, o + (4 * k + j), none⟩ = some (B8 (bs.getD (4 * k + j) 0)) := by
            have hlt' : 4 * k + j < bs.length := by omega
            rw [eb.cell (p := ⟨g, o + (4 * k + j), none⟩) hg, HC.out _ hlt', List.getD_eq_getElem?_getD, List.getElem?_eq_getElem hlt']; rfl
          have a2 : wr.cell? ⟨w.heap.size + 1, k, none⟩ = some (W32 (part bs k j)) := by
            rw [e3.cell]; simp [words_length]
          have a3 := e3.free k
          have hn : Blk (wr.setCell ⟨w.heap.size + 1, k, none⟩ (W32 (part bs k (j + 1)))) (w.heap.size + 1) 136 ((words bs k ++ [part bs k (j + 1)] ++ List.replicate (63 - k) 0).map W32).toArray := by
            have := e3.put k (W32 (part bs k (j + 1)))
            have hh := row_here (words bs k) (63 - k) (part bs k j) (part bs k (j + 1))
            rw [words_length] at hh; rw [hh] at this; exact this
          have HP := Lib.hid (part_succ bs k j)
          rw [part_succ] at hn
          generalize bs.getD (4 * k + j) 0 = x at *
          have E2 := Lib.hid e2; have E3 := Lib.hid hn; have EB := Lib.hid eb
          clear e2 e3 eb hn hl H2 H3 HB
          go_wp2
          refine wp_region_T [15] [] (fun _ => True) (by kernel_rfl) (by kernel_rfl) trivial ?_
          repeat (first
            | (refine wpT_here (by rfl) (by rfl) (by rfl) (fun K hK => ?_); go_big_quiet_op; refine hK _ ?_; clear hK K)
            | (refine wpT_loud (by rfl) (by rfl) (fun K hK => ?_); go_big_op; refine hK _ _ trivial ?_; clear hK K))
          refine wpT_nil ?_
          go_wp2
          go_roundw
          case rel => exact ⟨j + 1, by omega, by go_num, (E2.out.farAt (by omega) _).drew, by rw [HP.out]; exact E3.out.drew, (below_putAt EB.out (by omega) _).drew⟩
          case measure => simp [intOf]; omega
        · obtain rfl : j = 4 := by omega
          rw [show ((4 : Nat) : Int) = (4 : Int) from rfl]
          rw [part_four, ← words_succ, show 63 - k = 64 - (k + 1) by omega] at e3
          have E2 := Lib.hid e2; have E3 := Lib.hid e3; have EB := Lib.hid eb
          clear e2 e3 eb H2 H3 HB
          go_wp2
          go_roundw
          case rel => exact ⟨k + 1, by omega, by go_num, ⟨c1, HC1.out, E2.out⟩, E3.out, EB.out⟩
          case measure => simp [intOf]; omega
    · obtain rfl : k = 16 := by omega
      rw [show ((16 : Nat) : Int) = (16 : Int) from rfl]
      have H2 := Lib.hid h2; have H3 := Lib.hid h3; have HB := Lib.hid hb; have HC1 := Lib.hid hc1; clear h2 h3 hb hc1
      go_wp2
      go_loopw [6, 7, 8, 9, 10] (fun i _ _ _ _ wr => ∃ t : Nat, 16 ≤ t ∧ t ≤ 64 ∧ i = .int .i64 t ∧ (∃ c1 : Array Value, c1.size = 64 ∧ Blk wr w.heap.size 136 c1) ∧
          Blk wr (w.heap.size + 1) 136 ((sched (words bs 16) (t - 16) ++ List.replicate (64 - t) 0).map W32).toArray ∧ Below w.heap.size w wr) (fun i _ _ _ _ _ => 64 - (intOf i).toNat)
      case atStart => exact ⟨16, by omega, by omega, rfl, ⟨c1, HC1.out, H2.out⟩, by rw [show 16 - 16 = 0 from rfl, sched_zero]; exact H3.out, HB.out⟩
      case round =>
        clear H2 H3 HB HC1 hk hlt
        obtain ⟨t, ht1, ht2, rfl, ⟨c1, hc1, h2⟩, h3, hb⟩ := hrel
        by_cases hlt : t < 64
        · have hl : (sched (words bs 16) (t - 16)).length = t := by rw [sched_length, words_length]; omega
          have HN : Hid (sched (words bs 16) (t + 1 - 16) = sched (words bs 16) (t - 16) ++ [nextWord (sched (words bs 16) (t - 16))]) := by
            rw [show t + 1 - 16 = (t - 16) + 1 by omega]; exact sched_succ _ _
          generalize sched (words bs 16) (t - 16) = s at *
          have cell : ∀ i, i < t → wr.cell? ⟨w.heap.size + 1, i, none⟩ = some (W32 (s.getD i 0)) := by
            intro i hi; rw [h3.cell]; simp [List.getElem?_append, hl, hi]
          have a2 := cell (t - 2) (by omega)
          have a7 := cell (t - 7) (by omega)
          have a15 := cell (t - 15) (by omega)
          have a16 := cell (t - 16) (by omega)
          have at_ : wr.cell? ⟨w.heap.size + 1, t, none⟩ = some (W32 0) := by
            rw [h3.cell]; simp [hl, show 0 < 64 - t by omega]
          have af := h3.free t
          have HX : Hid (nextWord s = sg1 (s.getD (t - 2) 0) + s.getD (t - 7) 0 + sg0 (s.getD (t - 15) 0) + s.getD (t - 16) 0) := by unfold nextWord; rw [hl]; exact rfl
          have hn : ((s ++ List.replicate (64 - t) 0).map W32).toArray.setIfInBounds t (W32 (nextWord s)) = (((s ++ [nextWord s]) ++ List.replicate (64 - (t + 1)) 0).map W32).toArray := by
            have := row_next s (64 - t) (nextWord s) (by omega)
            rw [hl] at this; rw [this, show 64 - t - 1 = 64 - (t + 1) by omega]
          have h3' : ∀ x, x = nextWord s → Blk (wr.setCell ⟨w.heap.size + 1, t, none⟩ (W32 x)) (w.heap.size + 1) 136 (((s ++ [nextWord s]) ++ List.replicate (64 - (t + 1)) 0).map W32).toArray := by
            rintro x rfl; have := h3.put t (W32 (nextWord s)); rw [hn] at this; exact this
          have H2 := Lib.hid h2; have H3 := Lib.hid h3'; have HB := Lib.hid hb; have HC1 := Lib.hid hc1
          clear h2 h3 h3' hb hc1 hn cell hl
          generalize s.getD (t - 2) 0 = x2 at *
          generalize s.getD (t - 7) 0 = x7 at *
          generalize s.getD (t - 15) 0 = x15 at *
          generalize s.getD (t - 16) 0 = x16 at *
          go_wp2_with (go_at_call 106; refine (turned_int _ _ (by omega) (by omega) _).mono ?_; rintro e w' ⟨rfl, n, rfl⟩)
          refine wp_region_T [15] [] (fun _ => True) (by kernel_rfl) (by kernel_rfl) trivial ?_
          repeat (first
            | (refine wpT_here (by rfl) (by rfl) (by rfl) (fun K hK => ?_); go_big_quiet_op; refine hK _ ?_; clear hK K)
            | (refine wpT_loud (by rfl) (by rfl) (fun K hK => ?_); go_big_op; refine hK _ _ trivial ?_; clear hK K))
          refine wpT_nil ?_
          go_wp2
          go_roundw
          case rel =>
            refine ⟨t + 1, by omega, by omega, by go_num, ⟨c1, HC1.out, (H2.out.farAt (by omega) _).drewN _⟩, ?_, below_drewN (below_putAt HB.out (by omega) _) _⟩
            rw [HN.out]
            exact (H3.out _ HX.out.symm).drewN _
          case measure => simp [intOf]; omega
        · obtain rfl : t = 64 := by omega
          rw [show ((64 : Nat) : Int) = (64 : Int) from rfl]
          have hl : ((sched (words bs 16) 48).map W32).length = 64 := by simp [sched_length, words_length]
          have h3' : Blk wr (w.heap.size + 1) 136 ((sched (words bs 16) 48).map W32).toArray := by simpa using h3
          have H2 := Lib.hid h2; have H3 := Lib.hid h3'; have HB := Lib.hid hb; have HC := Lib.hid hc1; have HL := Lib.hid hl
          clear h2 h3 h3' hb hc1 hl
          go_wp2_with ((with_reducible show wpList _ _ _ _ _ _); first
            | (refine wpList_ldAll rfl 136 _ rfl H3.out rfl (by kernel_rfl) (by rw [HL.out]; kernel_rfl) ?_)
            | (refine wpList_stAll rfl 136 _ _ rfl H2.out rfl rfl (by rw [HL.out]; kernel_rfl) (by rw [HL.out, HC.out]) (one_map _ _ fun _ => rfl) ?_))
          refine bodyPost_ret (results_ldAll (mid := (sched (words bs 16) 48).map W32) rfl _ (H2.out.row _) rfl (by kernel_rfl) (by rw [HL.out]; kernel_rfl)) rfl ⟨rfl, Below.row HB.out (by omega) _⟩
end Go.Proofs.Ytlagngkafllbiaa
/- The walks of the reference's SHA-256: the block step. -/
namespace Go.Proofs.Ytlagngkafllbiaa
open Go Go.RowKit
attribute [local go_sem] or_bytes u32_shr10 u32_shr3 u32_xor u32_and u32_or u32_add u32_add' u32_not u32_not' u32_not2
set_option maxRecDepth 100000 in
theorem stepR_any (s : S8) (bs : List UInt8) (hbs : bs.length = 64) (A : Option Addr) (c : Nat) (w : World) (hr : Rd byteE w w.heap.size A bs) :
    Calls Try.prog 101 #[.agg s.arr, .slice A 64 c] w fun e w' => e = .returned (.agg (step s bs).arr) ∧ Below w.heap.size w w' := by
  have hsl : ((sched (words bs 16) 48).map W32).length = 64 := by simp [sched_length, words_length]
  have HSL := Lib.hid hsl; clear hsl
  have HBS := Lib.hid hbs; clear hbs
  have HR := Lib.hid hr; clear hr
  go_enter Try.func101, Try.ntmps101
  go_wp2_with fail
  refine (wordsR_any bs HBS.out A c _ (((HR.out.alloc (Nat.le_refl _) _).alloc (by simp) _).more (by simp; omega))).mono ?_
  rintro e w1 ⟨rfl, hb1⟩; have HB1 := Lib.hid hb1; clear hb1
  dsimp only
  go_wp2_with ((with_reducible show wpList _ _ _ _ _ _); refine wpList_stAll rfl 136 (.tmp 5) _ rfl (Blk.new _ _ _) rfl rfl (by rw [HSL.out]; kernel_rfl) (by rw [HSL.out]; rfl) (one_map _ _ fun _ => rfl) ?_)
  have hz1 : w.heap.size + 1 + 1 ≤ w1.heap.size := by have := HB1.out.size; simpa using this
  refine (constantsR_any _).mono ?_
  rintro e w2 ⟨rfl, hb2⟩
  have hz2 : w1.heap.size < w2.heap.size := by have := hb2.size; simp at this; omega
  have HB2 := Lib.hid hb2; clear hb2
  dsimp only
  go_wp2_with (first
   | (with_reducible show wpList _ _ _ _ _ _); refine wpList_ldAll rfl 101 (.tmp 2) rfl (mid := s.arr.toList) C1.out rfl (by kernel_rfl) (by kernel_rfl) ?_
   | (with_reducible show wpList _ _ _ _ _ _)
     refine wpList_stAll rfl 136 (.tmp 6) _ rfl (Blk.new _ _ _) rfl rfl (by kernel_rfl) (by rw [List.length_map, kList_length]; rfl) (one_map _ _ fun _ => rfl) ?_
     refine wpList_forget (fun w3 => Blk w3 w.heap.size 101 s.arr ∧ (∃ z : Array Value, z.size = 8 ∧ Blk w3 (w.heap.size + 1) 101 z) ∧ Blk w3 w1.heap.size 136 ((sched (words bs 16) 48).map W32).toArray ∧ Blk w3 w2.heap.size 136 (kList.map W32).toArray ∧ Below w.heap.size w w3 ∧ w2.heap.size < w3.heap.size) ?hf ?_
     rotate_left
     rintro w3 ⟨c1, ⟨z, hz, c2⟩, c3, c4, c5, hz3⟩
     have C1 := Lib.hid c1; have C2 := Lib.hid c2; have C3 := Lib.hid c3; have C4 := Lib.hid c4; have C5 := Lib.hid c5; have HZ := Lib.hid hz
     clear c1 c2 c3 c4 c5 hz HB1 HB2)
  case hf =>
    have b0 : Blk w1 w.heap.size 101 s.arr := ((Blk.new _ _ _).alloc _).below HB1.out (by simp; omega)
    have b2 : Blk w1 (w.heap.size + 1) 101 _ := (Blk.newAt _ _ _ (by simp)).below HB1.out (by simp)
    have bb : Below w.heap.size w w1 := (((Below.refl _ _).alloc (Nat.le_refl _) _).alloc (by simp) _).trans (HB1.out.mono (by simp; omega))
    have b5 : Blk w2 w1.heap.size 136 _ := ((Blk.new w1 _ _).row _).below HB2.out (by simp)
    refine ⟨((((b0.alloc _).rowFar (by omega) _).below HB2.out (by simp; omega)).alloc _).rowFar (by omega) _, ⟨_, by rfl, ((((b2.alloc _).rowFar (by omega) _).below HB2.out (by simp; omega)).alloc _).rowFar (by omega) _⟩,
      (b5.alloc _).rowFar (by omega) _, (Blk.new _ _ _).row _, ?_, by simp⟩
    exact Below.row (((Below.row (bb.alloc (by omega) _) (by omega) _).trans (HB2.out.mono (by simp; omega))).alloc (by omega) _) (by omega) _
  have HB0 := Lib.hid ((C5.out.alloc (by have := C5.out.size; omega) (Obj.cells s.arr 101)))
  have H7 : Hid (Blk (w3.alloc (Obj.cells s.arr 101)) w3.heap.size 101 s.arr) := Blk.new _ _ _
  have hw3 : w.heap.size + 1 + 1 < w3.heap.size := by omega
  go_loopw [8, 9, 10, 11, 12, 13, 14] (fun i _ _ _ _ _ _ wr => ∃ t : Nat, t ≤ 64 ∧ i = .int .i64 t ∧ Blk wr w.heap.size 101 s.arr ∧ (∃ z : Array Value, z.size = 8 ∧ Blk wr (w.heap.size + 1) 101 z) ∧
      Blk wr w1.heap.size 136 ((sched (words bs 16) 48).map W32).toArray ∧ Blk wr w2.heap.size 136 (kList.map W32).toArray ∧ Blk wr w3.heap.size 101 (rnds (sched (words bs 16) 48) s t).arr ∧ Below w.heap.size w wr)
    (fun i _ _ _ _ _ _ _ => 64 - (intOf i).toNat)
  case atStart => exact ⟨0, by omega, rfl, C1.out.alloc _, ⟨z, HZ.out, C2.out.alloc _⟩, C3.out.alloc _, C4.out.alloc _, by rw [rnds_zero]; exact H7.out, HB0.out⟩
  case round =>
    obtain ⟨t, ht, rfl, d1, ⟨z2, hz2', d2⟩, d3, d4, d5, d6⟩ := hrel
    clear C1 C2 C3 C4 C5 HZ HB0 H7
    by_cases hlt : t < 64
    · have HN := Lib.hid (rnds_succ (sched (words bs 16) 48) s t)
      have k1 : wr.cell? ⟨w2.heap.size, t, none⟩ = some (W32 (kList.getD t 0)) := by
        rw [d4.cell]; have := kList_length; simp [show t < kList.length by omega]
      have k2 : wr.cell? ⟨w1.heap.size, t, none⟩ = some (W32 ((sched (words bs 16) 48).getD t 0)) := by
        rw [d3.cell]; have := HSL.out; simp only [List.length_map] at this; simp [show t < (sched (words bs 16) 48).length by omega]
      generalize kList.getD t 0 = kt at *
      generalize (sched (words bs 16) 48).getD t 0 = wt at *
      have r0 : wr.cell? ⟨w3.heap.size, 0, none⟩ = some (W32 (rnds (sched (words bs 16) 48) s t).a) := d5.cell 0
      have r1 : wr.cell? ⟨w3.heap.size, 1, none⟩ = some (W32 (rnds (sched (words bs 16) 48) s t).b) := d5.cell 1
      have r2 : wr.cell? ⟨w3.heap.size, 2, none⟩ = some (W32 (rnds (sched (words bs 16) 48) s t).c) := d5.cell 2
      have r3 : wr.cell? ⟨w3.heap.size, 3, none⟩ = some (W32 (rnds (sched (words bs 16) 48) s t).d) := d5.cell 3
      have r4 : wr.cell? ⟨w3.heap.size, 4, none⟩ = some (W32 (rnds (sched (words bs 16) 48) s t).e) := d5.cell 4
      have r5 : wr.cell? ⟨w3.heap.size, 5, none⟩ = some (W32 (rnds (sched (words bs 16) 48) s t).f) := d5.cell 5
      have r6 : wr.cell? ⟨w3.heap.size, 6, none⟩ = some (W32 (rnds (sched (words bs 16) 48) s t).g) := d5.cell 6
      have r7 : wr.cell? ⟨w3.heap.size, 7, none⟩ = some (W32 (rnds (sched (words bs 16) 48) s t).h) := d5.cell 7
      have D1 := Lib.hid d1; have D2 := Lib.hid d2; have D3 := Lib.hid d3; have D4 := Lib.hid d4; have D5 := Lib.hid d5; have D6 := Lib.hid d6; have HX := Lib.hid HN.out; have HZ := Lib.hid hz2'
      clear d1 d2 d3 d4 d5 d6 HN hz2'
      generalize rnds (sched (words bs 16) 48) s t = r at *
      go_wp2_with (go_at_call 106; refine (turned_int _ _ (by omega) (by omega) _).mono ?_; rintro e w' ⟨rfl, n, rfl⟩)
      refine wp_region_T [] [] (fun _ => True) (by kernel_rfl) (by kernel_rfl) trivial ?_
      repeat (first
        | (refine wpT_here (by rfl) (by rfl) (by rfl) (fun K hK => ?_); go_big_quiet_op; refine hK _ ?_; clear hK K)
        | (refine wpT_loud (by rfl) (by rfl) (fun K hK => ?_); go_big_op; refine hK _ _ trivial ?_; clear hK K))
      refine wpT_nil ?_
      go_wp2_with ((with_reducible show wpList _ _ _ _ _ _); refine wpList_stAll rfl 101 (.tmp 7) _ rfl (D5.out.drewN _) rfl rfl (by kernel_rfl) rfl (by simp [Value.oneCell']) ?_)
      go_roundw
      case rel =>
        exact ⟨t + 1, by omega, by go_num, (D1.out.drewN _).rowFar (by omega) _, ⟨z2, HZ.out, (D2.out.drewN _).rowFar (by omega) _⟩, (D3.out.drewN _).rowFar (by omega) _, (D4.out.drewN _).rowFar (by omega) _, by rw [HX.out]; exact (D5.out.drewN _).row _, Below.row (below_drewN D6.out _) (by omega) _⟩
      case measure => simp [intOf]; omega
    · obtain rfl : t = 64 := by omega
      rw [show ((64 : Nat) : Int) = (64 : Int) from rfl]
      have D1 := Lib.hid d1; have D2 := Lib.hid d2; have D5 := Lib.hid d5; have D6 := Lib.hid d6; have HZ := Lib.hid hz2'; have HD := Lib.hid (step_def s bs)
      clear d1 d2 d3 d4 d5 d6 hz2'
      obtain ⟨r, hr⟩ : ∃ r, r = rnds (sched (words bs 16) 48) s 64 := ⟨_, rfl⟩
      rw [← hr] at D5 HD
      clear hr
      go_wp2
      go_loopw [15] (fun i wr' => ∃ k : Nat, k ≤ 8 ∧ i = .int .i64 k ∧ Blk wr' w.heap.size 101 ((mix s r k).map W32).toArray ∧ (∃ z : Array Value, z.size = 8 ∧ Blk wr' (w.heap.size + 1) 101 z) ∧
          Blk wr' w3.heap.size 101 (r.l.map W32).toArray ∧ Below w.heap.size w wr') (fun i _ => 8 - (intOf i).toNat)
      case atStart => exact ⟨0, by omega, rfl, by rw [mix_zero]; exact D1.out, ⟨z2, HZ.out, D2.out⟩, D5.out, D6.out⟩
      case round =>
        obtain ⟨k, hk, rfl, e1, ⟨z3, hz3', e2⟩, e5, e6⟩ := hrel
        clear D1 D2 D5 D6 HZ
        by_cases hlk : k < 8
        · have hl : r.l.length = 8 := rfl
          have k1 : wr.cell? ⟨w.heap.size, k, none⟩ = some (W32 (s.l.getD k 0)) := by
            rw [e1.cell]; simp [mix_at s r k hlk]
          have k2 : wr.cell? ⟨w3.heap.size, k, none⟩ = some (W32 (r.l.getD k 0)) := by
            rw [e5.cell]; simp [show k < r.l.length by omega]
          have k3 := e1.free k
          have hs : Blk (wr.setCell ⟨w.heap.size, k, none⟩ (W32 (s.l.getD k 0 + r.l.getD k 0))) w.heap.size 101 ((mix s r (k + 1)).map W32).toArray := by
            have := e1.put k (W32 (s.l.getD k 0 + r.l.getD k 0))
            rw [List.setIfInBounds_toArray, ← List.map_set, mix_set s r k hlk] at this
            exact this
          generalize s.l.getD k 0 = x at *
          generalize r.l.getD k 0 = y at *
          have E1 := Lib.hid hs; have E2 := Lib.hid e2; have E5 := Lib.hid e5; have E6 := Lib.hid e6; have HZ := Lib.hid hz3'
          clear e1 e2 e5 e6 hz3' hs hl
          go_wp2
          refine wp_region_T [9] [] (fun _ => True) (by kernel_rfl) (by kernel_rfl) trivial ?_
          repeat (first
            | (refine wpT_here (by rfl) (by rfl) (by rfl) (fun K hK => ?_); go_big_quiet_op; refine hK _ ?_; clear hK K)
            | (refine wpT_loud (by rfl) (by rfl) (fun K hK => ?_); go_big_op; refine hK _ _ trivial ?_; clear hK K))
          refine wpT_nil ?_
          go_wp2
          go_roundw
          case rel => exact ⟨k + 1, by omega, by go_num, E1.out.drew, ⟨z3, HZ.out, (E2.out.farAt (by omega) _).drew⟩, (E5.out.farAt (by omega) _).drew, (below_putAt E6.out (by omega) _).drew⟩
          case measure => simp [intOf]; omega
        · obtain rfl : k = 8 := by omega
          rw [show ((8 : Nat) : Int) = (8 : Int) from rfl]
          rw [mix_eight] at e1
          have E1 := Lib.hid e1; have E2 := Lib.hid e2; have E6 := Lib.hid e6; have HZ := Lib.hid hz3'
          clear e1 e2 e5 e6 hz3'
          go_wp2_with ((with_reducible show wpList _ _ _ _ _ _); first
            | (refine wpList_ldAll rfl 101 (.tmp 2) rfl E1.out rfl (by kernel_rfl) (by kernel_rfl) ?_)
            | (refine wpList_stAll rfl 101 (.tmp 4) _ rfl E2.out rfl rfl (by kernel_rfl) HZ.out (one_map _ _ fun _ => rfl) ?_))
          refine bodyPost_ret (results_ldAll (mid := (addS s r).l.map W32) rfl _ (E2.out.row _) rfl (by kernel_rfl) (by kernel_rfl)) rfl ⟨?_, Below.row E6.out (by omega) _⟩
          rw [HD.out]; rfl
end Go.Proofs.Ytlagngkafllbiaa
/- The walk of the reference's SHA-256 of a list of bytes. -/
namespace Go.Proofs.Ytlagngkafllbiaa
open Go Go.RowKit
theorem pad_step (n k : Nat) (hk : k < padN n) : (n + 1 + k) % 64 ≠ 56 := by unfold padN at hk; omega
theorem pad_end (n : Nat) : (n + 1 + padN n) % 64 = 56 := by unfold padN; omega
/-- The next byte of a row is filled. -/
theorem row_nextB (xs : List UInt8) (n : Nat) (x : UInt8) (hn : 0 < n) : ((xs ++ List.replicate n 0).map B8).toArray.setIfInBounds xs.length (B8 x) = ((xs ++ [x] ++ List.replicate (n - 1) 0).map B8).toArray := by
  obtain ⟨m, rfl⟩ : ∃ m, n = m + 1 := ⟨n - 1, by omega⟩
  simp [List.replicate_succ]
/-- A byte of a word, as the code reckons it. -/
theorem byte_of (x : BitVec 32) (r : Nat) (hr : r < 4) (v : Int) (hv : v = n32 x / ((256 ^ (3 - r) : Nat) : Int) % 256) : Value.int .u8 v = B8 (UInt8.ofNat (x.toNat / 256 ^ (3 - r))) := by
  rw [B8_ofNat, hv]; unfold n32
  rcases (by omega : r = 0 ∨ r = 1 ∨ r = 2 ∨ r = 3) with rfl | rfl | rfl | rfl <;> refine congrArg _ ?_ <;> simp only [Nat.reduceSub, Nat.reducePow] <;> omega
set_option maxRecDepth 100000 in
set_option maxHeartbeats 1600000 in
theorem sumR_any (l : List UInt8) (A : Option Addr) (c : Nat) (w : World) (hr : Rd byteE w w.heap.size A l) (hl : l.length ≤ 140737488355000) :
    Calls Try.prog 92 #[.slice A l.length c] w fun e w' => e = .returned (.agg ((sum l).map B8).toArray) ∧ Below w.heap.size w w' := by
  have HR := Lib.hid hr; clear hr
  have hpn : padN l.length < 64 := by unfold padN; omega
  go_enter Try.func92, Try.ntmps92
  iterate 6 go_step
  refine wpList_forget (fun w0 => (∃ z : Array Value, z.size = 32 ∧ Blk w0 w.heap.size 22 z) ∧ Below w.heap.size w w0 ∧ w.heap.size < w0.heap.size) ?_ ?_
  · exact ⟨⟨_, by rfl, Blk.new _ _ _⟩, (Below.refl _ _).alloc (Nat.le_refl _) _, by simp⟩
  rintro w0 ⟨⟨z, hz, b0⟩, bb, hw0⟩
  have hr0 := (HR.out.below bb).more (Nat.le_of_lt hw0)
  have BB := Lib.hid bb; have HZ := Lib.hid hz; have B0 := Lib.hid b0; have R0 := Lib.hid hr0; clear bb hz b0 hr0
  go_wp2_with (first
    | (at_builtin; refine wpList_app rfl byteE_fits (.tmp 10) (.tmp 11) 24 rfl Try.underlying24 rfl (base := w0.heap.size) (own_new _ _ (Nat.le_refl _)) rfl (R0.out.alloc (Nat.le_refl _) _) rfl (by simp only [maxLen, List.length_nil]; omega) (by simp only [byteE, List.length_nil]; omega) (by rw [World.size_alloc]; omega) ?_
       intro v1 w1 sp1 h1 h2 h3
       have BB1 := Lib.hid (below_own (BB.out.alloc (by omega) _) h2 (own_new w0 _ (Nat.le_refl _)) (Nat.le_of_lt hw0) (by rw [World.size_alloc]; omega))
       have B1 := Lib.hid ((B0.out.alloc (.cells #[] 5)).own h2 (own_new w0 _ (Nat.le_refl _)) hw0)
       have hs1 : w0.heap.size ≤ w1.heap.size := by have := h2.size; rw [World.size_alloc] at this; omega
       rw [List.nil_append] at h1
       have O1 := Lib.hid h1
       clear h1 h2 h3 BB B0 R0)
    | (at_builtin; refine wpList_app rfl byteE_fits (.tmp 13) (.tmp 14) 24 rfl Try.underlying24 rfl (O1.out.alloc _) rfl (rd_one _ (x := 128) rfl) rfl (by simp only [maxLen]; omega) (by simp only [byteE]; omega) (by rw [World.size_alloc]; omega) ?_
       intro v2 w2 sp2 h1 h2 h3
       have BB2 := Lib.hid (below_own (BB1.out.alloc (by omega) _) h2 (O1.out.alloc _) (Nat.le_of_lt hw0) (by rw [World.size_alloc]; omega))
       have B2 := Lib.hid ((B1.out.alloc _).own h2 (O1.out.alloc _) hw0)
       have hs2 : w0.heap.size ≤ w2.heap.size := by have := h2.size; rw [World.size_alloc] at this; omega
       have O2 := Lib.hid h1
       clear h1 h2 h3 BB1 B1 O1))
  go_loopw [3] (fun v wr => ∃ k : Nat, k ≤ padN l.length ∧ (∃ sp, Own byteE wr w0.heap.size v (l ++ [128] ++ List.replicate k 0) sp) ∧ Below w.heap.size w wr ∧ Blk wr w.heap.size 22 z ∧ w0.heap.size ≤ wr.heap.size)
    (fun v _ => l.length + 1 + padN l.length - slen v)
  case atStart => exact ⟨0, Nat.zero_le _, ⟨sp2, by simpa using O2.out⟩, BB2.out, B2.out, hs2⟩
  case round =>
    obtain ⟨k, hk, ⟨sp, ho⟩, hb, hz', hs⟩ := hrel
    clear BB2 B2 O2
    have hlen : (l ++ [128] ++ List.replicate k 0).length = l.length + 1 + k := by rw [List.length_append, List.length_append, List.length_replicate]; rfl
    obtain ⟨Av, cv, rfl, hcv1, hcv2⟩ := ho.shape hlen
    have HO := Lib.hid ho; have HB := Lib.hid hb; have HZ' := Lib.hid hz'; have HLEN := Lib.hid hlen
    clear ho hb hz' hlen hcv1 hcv2
    have hps := pad_step l.length k
    have hpe := pad_end l.length
    by_cases hlt : k < padN l.length
    · have hne : ¬ (((l.length : Int) + 1 + (k : Int)) % 64 = 56) := by have := hps hlt; omega
      clear hps hpe
      go_wp2_with (at_builtin; refine wpList_app rfl byteE_fits (.tmp 20) (.tmp 21) 24 rfl Try.underlying24 rfl (HO.out.alloc _) rfl (rd_one _ (x := 0) rfl) rfl (by rw [HLEN.out]; simp only [maxLen]; omega) (by rw [HLEN.out]; simp only [byteE]; omega) (by rw [World.size_alloc]; omega) ?_; intro v1 w1 sp1 h1 h2 h3)
      rw [List.append_assoc, ← List.replicate_succ'] at h1
      have hlen' : (l ++ [128] ++ List.replicate (k + 1) 0).length = l.length + 1 + (k + 1) := by rw [List.length_append, List.length_append, List.length_replicate]; rfl
      obtain ⟨A1, c1, rfl, _, _⟩ := h1.shape hlen'
      have BB1 := Lib.hid (below_own (HB.out.alloc (by omega) _) h2 (HO.out.alloc _) (Nat.le_of_lt hw0) (by rw [World.size_alloc]; omega))
      have B1 := Lib.hid ((HZ'.out.alloc _).own h2 (HO.out.alloc _) hw0)
      have hs1 : w0.heap.size ≤ w1.heap.size := by have := h2.size; rw [World.size_alloc] at this; omega
      have O1 := Lib.hid h1
      clear h1 h2 h3 HB HZ' HO hlen'
      go_wp2
      go_roundw
      case rel => exact ⟨k + 1, hlt, ⟨sp1, O1.out⟩, BB1.out, B1.out, hs1⟩
      case measure => simp [slen]; omega
    · obtain rfl : k = padN l.length := by omega
      have hne : (((l.length : Int) + 1 + ((padN l.length : Nat) : Int)) % 64 = 56) := by omega
      clear hps hpe
      have HNE := Lib.hid hne; clear hne
      have hbl : ((((l.length : Int) + 1 + ((padN l.length : Nat) : Int)) % 64) != 56) = false := by simpa using HNE.out
      go_wp2
      clear hbl
      go_loopw [3, 5] (fun v i wr => ∃ m : Nat, m ≤ 8 ∧ i = .int .i64 ((m : Int) - 1) ∧ (∃ sp, Own byteE wr w0.heap.size v (l ++ [128] ++ List.replicate (padN l.length) 0 ++ (be (l.length * 8) 8).take (8 - m)) sp) ∧ Below w.heap.size w wr ∧ Blk wr w.heap.size 22 z ∧ w0.heap.size ≤ wr.heap.size)
        (fun _ i _ => (intOf i + 1).toNat)
      case atStart => exact ⟨8, by omega, rfl, ⟨sp, by simpa using HO.out⟩, HB.out, HZ'.out, hs⟩
      case round =>
        clear HO HB HZ' hs
        obtain ⟨m, hm, rfl, ⟨sp3, ho⟩, hb, hz', hs⟩ := hrel
        have hlen : (l ++ [128] ++ List.replicate (padN l.length) 0 ++ (be (l.length * 8) 8).take (8 - m)).length = l.length + 1 + padN l.length + (8 - m) := by
          rw [List.length_append, List.length_append, List.length_append, List.length_replicate, List.length_take, be_length]; simp only [List.length_cons, List.length_nil]; omega
        obtain ⟨g3, c3, rfl, hcv1, hcv2, hg3, hg3'⟩ := ho.shapePos hlen (by omega)
        have HO := Lib.hid ho; have HB := Lib.hid hb; have HZ' := Lib.hid hz'; have HL3 := Lib.hid hlen
        clear ho hb hz' hlen
        by_cases hm0 : m = 0
        · subst hm0
          have hpad : l ++ [128] ++ List.replicate (padN l.length) 0 ++ (be (l.length * 8) 8).take (8 - 0) = pad l := by
            rw [pad_def, List.take_of_length_le (by rw [be_length]; omega)]
          have e : l.length + 1 + padN l.length + (8 - 0) = (pad l).length := by rw [pad_size]; omega
          have hN64 := pad_length l
          have hNle : (pad l).length ≤ 140737488355200 := by rw [pad_size]; omega
          have ho' := HO.out
          rw [hpad, e] at ho'
          have HO' := Lib.hid ho'
          clear ho' hpad HO HL3
          rw [e] at hcv1 ⊢
          rw [show ((0 : Nat) : Int) - 1 = -1 from rfl]
          clear e
          have hcc := hcv1
          obtain ⟨wb, rfl⟩ : ∃ wb : World, wb = wr := ⟨_, rfl⟩
          have H4 : Hid (Blk (wb.alloc (Obj.cells h0.arr 101)) wb.heap.size 101 h0.arr) := Blk.new _ _ _
          have HB4 := Lib.hid (HB.out.alloc (by omega) (Obj.cells h0.arr 101))
          go_wp2
          go_loopw [7] (fun i wr => ∃ q : Nat, 64 * q ≤ (pad l).length ∧ i = .int .i64 ((64 * q : Nat) : Int) ∧ Blk wr wb.heap.size 101 (steps h0 q (pad l)).arr ∧ Own byteE wr w0.heap.size (.slice (some ⟨g3, 0, none⟩) (pad l).length c3) (pad l) sp3 ∧ Below w.heap.size w wr ∧ Blk wr w.heap.size 22 z ∧ wb.heap.size < wr.heap.size)
            (fun i _ => (pad l).length - (intOf i).toNat)
          case atStart => exact ⟨0, by omega, rfl, by rw [steps_zero]; exact H4.out, HO'.out.alloc _, HB4.out, HZ'.out.alloc _, by simp⟩
          case round =>
            clear H4 HB4 HO' HZ' HB
            obtain ⟨q, hq, rfl, k1, k2, k3, k4, k5⟩ := hrel
            by_cases hlt : 64 * q < (pad l).length
            · have hq64 : 64 * q + 64 ≤ (pad l).length := by omega
              have hblk : ((pad l).drop (64 * q)).length = (pad l).length - 64 * q := List.length_drop
              have hrd : Rd byteE wr wr.heap.size (some ⟨g3, 64 * q, none⟩) (((pad l).drop (64 * q)).take 64) := by
                have := (k2.rd.cut (k := 64 * q) (cap := c3) (by omega)).take 64
                rw [if_neg (by omega)] at this
                simpa [byteE, addr_add] using this
              have htl : (((pad l).drop (64 * q)).take 64).length = 64 := by rw [List.length_take, hblk]; omega
              have HRD := Lib.hid hrd; have HTL := Lib.hid htl; have HST := Lib.hid (steps_next h0 q (pad l))
              have K1 := Lib.hid k1; have K2 := Lib.hid k2; have K3 := Lib.hid k3; have K4 := Lib.hid k4
              clear hrd htl hblk k1 k2 k3 k4 hq
              go_wp2
              refine wp_region_T [6, 7] [] (fun _ => True) (by kernel_rfl) (by kernel_rfl) (by first | rfl | trivial | assumption) ?_
              repeat (first
                | (refine wpT_skip (by rfl) ?_)
                | (refine wpT_ldAll (by rfl) (by rfl) (by rfl) 101 _ rfl (mid := (steps h0 q (pad l)).arr.toList) K1.out.drew rfl (by kernel_rfl) (by kernel_rfl) ?_; go_simp)
                | (refine wpT_here (by rfl) (by rfl) (by rfl) (fun K hK => ?_); go_big_quiet_op; refine hK _ ?_; clear hK K)
                | (refine wpT_loud (by rfl) (by rfl) (fun K hK => ?_); first | (go_step; refine (stepR_any (steps h0 q (pad l)) _ HTL.out _ _ _ (HRD.out.drew)).mono ?_; rintro e w5 ⟨rfl, hb5⟩; have HB5 := Lib.hid hb5; clear hb5; dsimp only; refine hK _ _ trivial ?_) | (refine wp_stAll 101 _ _ rfl (K1.out.drew.below HB5.out (by rw [World.size_drew]; omega)) rfl rfl (by kernel_rfl) (Eq.trans (b := 8) rfl rfl) (by simp [Value.oneCell']) ?_; refine hK _ _ trivial ?_); clear hK K))
              refine wpT_nil ?_
              have K1' := Lib.hid ((K1.out.drew.below HB5.out (by rw [World.size_drew]; omega)).row (step (steps h0 q (pad l)) (List.take 64 (List.drop (64 * q) (pad l)))).arr)
              have K2' := Lib.hid ((K2.out.drew.belowSize HB5.out).row (k := wb.heap.size) (by simp [Value.ownBlock]; omega) (step (steps h0 q (pad l)) (List.take 64 (List.drop (64 * q) (pad l)))).arr)
              have K3' := Lib.hid (Below.row (K3.out.drew.trans (HB5.out.mono (by rw [World.size_drew]; omega))) (g := wb.heap.size) (by omega) (step (steps h0 q (pad l)) (List.take 64 (List.drop (64 * q) (pad l)))).arr)
              have K4' := Lib.hid ((K4.out.drew.below HB5.out (by rw [World.size_drew]; omega)).rowFar (k := wb.heap.size) (by omega) (step (steps h0 q (pad l)) (List.take 64 (List.drop (64 * q) (pad l)))).arr)
              have K5' : wb.heap.size < w5.heap.size := by have := HB5.out.size; rw [World.size_drew] at this; omega
              clear K1 K2 K3 K4 HRD HB5
              go_wp2
              go_roundw
              case rel => exact ⟨q + 1, by omega, by go_num, by rw [HST.out]; exact K1'.out, K2'.out, K3'.out, K4'.out, by simpa using K5'⟩
              case measure => simp [intOf]; omega
            · have hqq : 64 * q = (pad l).length := by omega
              have hsum : sum l = out (steps h0 q (pad l)) := by rw [sum_def, show (pad l).length / 64 = q by omega]
              have HSUM := Lib.hid hsum; clear hsum
              have K1 := Lib.hid k1; have K3 := Lib.hid k3; have K4 := Lib.hid k4
              clear k1 k2 k3 k4 hq hqq
              obtain ⟨S, hS⟩ : ∃ S, S = steps h0 q (pad l) := ⟨_, rfl⟩
              rw [← hS] at K1 HSUM
              clear hS
              obtain ⟨wc, rfl⟩ : ∃ wc : World, wc = wr := ⟨_, rfl⟩
              have h00 : ((out S).take 0 ++ List.replicate (32 - 0) 0).map B8 = List.replicate 32 (B8 0) := by simp
              have H00 := Lib.hid h00; clear h00
              have KB := Lib.hid (K3.out.alloc (by omega) (Obj.cells (List.replicate 32 (B8 0)).toArray 22))
              go_wp2
              go_loopw [9] (fun i wr => ∃ k : Nat, k ≤ 32 ∧ i = .int .i64 k ∧ Blk wr wc.heap.size 22 (((out S).take k ++ List.replicate (32 - k) 0).map B8).toArray ∧ Blk wr wb.heap.size 101 S.arr ∧ Below w.heap.size w wr ∧ Blk wr w.heap.size 22 z)
                (fun i _ => 32 - (intOf i).toNat)
              case atStart => exact ⟨0, by omega, rfl, by rw [H00.out]; exact Blk.new _ _ _, K1.out.alloc _, KB.out, K4.out.alloc _⟩
              case round =>
                clear KB K1 K3 K4
                obtain ⟨k, hk, rfl, f1, f2, f3, f4⟩ := hrel
                by_cases hlt : k < 32
                · have hdiv : ((k : Int) / 4) = ((k / 4 : Nat) : Int) := by omega
                  have hk4 : k / 4 < 8 := by omega
                  have hkk : 4 * (k / 4) + k % 4 = k := by omega
                  have hr4 : k % 4 < 4 := by omega
                  have hx := out_at S (k / 4) (k % 4) hk4 hr4
                  rw [hkk] at hx
                  have hlen : ((out S).take k).length = k := by rw [List.length_take, out_length]; omega
                  have c1 : wr.cell? ⟨wb.heap.size, k / 4, none⟩ = some (W32 (S.l.getD (k / 4) 0)) := by
                    have hb : Blk wr wb.heap.size 101 (S.l.map W32).toArray := f2
                    rw [hb.cell]; have : S.l.length = 8 := rfl; simp [show k / 4 < S.l.length by omega]
                  have c2 : wr.cell? ⟨wc.heap.size, k, none⟩ = some (B8 0) := by
                    rw [f1.cell]; simp [List.getElem?_append, out_length, hk, Nat.min_eq_left, show 0 < 32 - k by omega]
                  have c3 := f1.free k
                  have hn : ∀ v, v = B8 (UInt8.ofNat ((S.l.getD (k / 4) 0).toNat / 256 ^ (3 - k % 4))) → Blk (wr.setCell ⟨wc.heap.size, k, none⟩ v) wc.heap.size 22 (((out S).take (k + 1) ++ List.replicate (32 - (k + 1)) 0).map B8).toArray := by
                    rintro v rfl
                    have := f1.put k (B8 (UInt8.ofNat ((S.l.getD (k / 4) 0).toNat / 256 ^ (3 - k % 4))))
                    have hh := row_nextB ((out S).take k) (32 - k) (UInt8.ofNat ((S.l.getD (k / 4) 0).toNat / 256 ^ (3 - k % 4))) (by omega)
                    rw [hlen] at hh
                    rw [hh] at this
                    rw [List.take_add_one, hx]
                    exact this
                  have HN := Lib.hid hn; have F2 := Lib.hid f2; have F3 := Lib.hid f3; have F4 := Lib.hid f4; have HBO := Lib.hid (byte_of (S.l.getD (k / 4) 0) (k % 4) hr4)
                  clear hn f1 f2 f3 f4 hx hlen hkk hr4
                  generalize S.l.getD (k / 4) 0 = x at *
                  have hmod : ((k : Int) % 4) = ((k % 4 : Nat) : Int) := by omega
                  have hm4 : k % 4 = 0 ∨ k % 4 = 1 ∨ k % 4 = 2 ∨ k % 4 = 3 := by omega
                  generalize k % 4 = r at *
                  generalize k / 4 = q4 at *
                  rcases hm4 with rfl | rfl | rfl | rfl
                  all_goals
                    go_wp2
                    go_roundw
                    case rel => exact ⟨k + 1, by omega, by go_num, HN.out _ (HBO.out _ (by simp only [Nat.reduceSub, Nat.reducePow]; first | rfl | omega)), F2.out.farAt (by omega) _, below_putAt F3.out (by omega) _, F4.out.farAt (by omega) _⟩
                    case measure => simp [intOf]; omega
                · obtain rfl : k = 32 := by omega
                  rw [show ((32 : Nat) : Int) = (32 : Int) from rfl]
                  have hm : ((out S).take 32 ++ List.replicate (32 - 32) 0) = sum l := by rw [HSUM.out, List.take_of_length_le (by rw [out_length]; omega)]; simp
                  rw [hm] at f1
                  have hl3 : ((sum l).map B8).length = 32 := by rw [List.length_map, sum_length]
                  have F1 := Lib.hid f1; have F3 := Lib.hid f3; have F4 := Lib.hid f4; have HL3' := Lib.hid hl3
                  clear f1 f2 f3 f4 hm hl3
                  go_wp2_with ((with_reducible show wpList _ _ _ _ _ _); first
                    | (refine wpList_ldAll rfl 22 (.tmp 8) rfl F1.out rfl (by kernel_rfl) (by rw [HL3'.out]; kernel_rfl) ?_)
                    | (refine wpList_stAll rfl 22 (.tmp 2) _ rfl F4.out rfl rfl (by rw [HL3'.out]; kernel_rfl) (by rw [HL3'.out, HZ.out]) (one_map _ _ fun _ => rfl) ?_))
                  refine bodyPost_ret (results_ldAll (mid := (sum l).map B8) rfl _ (F4.out.row _) rfl (by kernel_rfl) (by rw [HL3'.out]; kernel_rfl)) rfl ⟨rfl, Below.row F3.out (by omega) _⟩
        · have hbe : ∀ x, (be (l.length * 8) 8)[8 - m]? = some x → (be (l.length * 8) 8).take (8 - m) ++ [x] = (be (l.length * 8) 8).take (8 - (m - 1)) := by
            intro x hx
            rw [show 8 - (m - 1) = (8 - m) + 1 by omega, List.take_add_one, hx]; rfl
          have HBE := Lib.hid hbe; clear hbe
          have hl2 : l.length + 1 + padN l.length + (8 - m) ≤ 140737488355200 := by omega
          have hxb : ∀ val, val = B8 (UInt8.ofNat (l.length * 8 / 256 ^ (m - 1))) → ∀ W : World, Rd byteE (W.alloc (.cells #[val] 5)) (W.heap.size + 1) (some ⟨W.heap.size, 0, none⟩) [UInt8.ofNat (l.length * 8 / 256 ^ (m - 1))] := fun _ h W => rd_one W h
          have HXB := Lib.hid hxb; clear hxb
          have HAT : Hid ((be (l.length * 8) 8).take (8 - m) ++ [UInt8.ofNat (l.length * 8 / 256 ^ (m - 1))] = (be (l.length * 8) 8).take (8 - (m - 1))) := by
            refine HBE.out _ ?_
            rcases (by omega : m = 1 ∨ m = 2 ∨ m = 3 ∨ m = 4 ∨ m = 5 ∨ m = 6 ∨ m = 7 ∨ m = 8) with rfl | rfl | rfl | rfl | rfl | rfl | rfl | rfl <;> rfl
          have hA : (l ++ [128] ++ List.replicate (padN l.length) 0 ++ (be (l.length * 8) 8).take (8 - (m - 1))).length = l.length + 1 + padN l.length + (8 - (m - 1)) := by
            rw [List.length_append, List.length_append, List.length_append, List.length_replicate, List.length_take, be_length]; simp only [List.length_cons, List.length_nil]; omega
          have HA := Lib.hid hA; clear hA
          rcases (by omega : m = 1 ∨ m = 2 ∨ m = 3 ∨ m = 4 ∨ m = 5 ∨ m = 6 ∨ m = 7 ∨ m = 8) with rfl | rfl | rfl | rfl | rfl | rfl | rfl | rfl
          all_goals
            go_wp2_with (at_builtin; refine wpList_app rfl byteE_fits (.tmp 31) (.tmp 37) 24 rfl Try.underlying24 rfl (HO.out.alloc _) rfl (HXB.out _ (by rw [B8_ofNat]; simp only [Nat.reduceSub, Nat.reducePow]; refine congrArg _ ?_; omega) _) rfl (by rw [HL3.out]; simp only [maxLen]; omega) (by rw [HL3.out]; simp only [byteE]; omega) (by rw [World.size_alloc]; omega) ?_; intro v4 w4 sp4 h1 h2 h3)
            rw [List.append_assoc, HAT.out] at h1
            have BB4 := Lib.hid (below_own (HB.out.alloc (by omega) _) h2 (HO.out.alloc _) (Nat.le_of_lt hw0) (by rw [World.size_alloc]; omega))
            have B4 := Lib.hid ((HZ'.out.alloc _).own h2 (HO.out.alloc _) hw0)
            have hs4 : w0.heap.size ≤ w4.heap.size := by have := h2.size; rw [World.size_alloc] at this; omega
            have O4 := Lib.hid h1
            clear h1 h2 h3 HB HZ' HO HXB HBE
            go_wp2
            go_roundw
            case rel => exact ⟨_, by omega, by rfl, ⟨sp4, O4.out⟩, BB4.out, B4.out, hs4⟩
            case measure => simp [intOf]
end Go.Proofs.Ytlagngkafllbiaa
/- Contracts in memory made contracts in values: the block step of SHA-256, the document's sum. -/
namespace Go.Proofs.Ytlagngkafllbiaa
open Go Go.RowKit
section
variable {P : Program}
theorem VC.ofA {f : FuncId} {args : List AV} {res : AV} (hf : Fok P f)
    (h : ∀ (w : World) (N : Gh) (vs : List Value), Mem N w → vs.length = args.length → (∀ (i : Nat) x v, args[i]? = some x → vs[i]? = some v → RV N x v) →
      Calls P f vs.toArray w fun e w' => ∃ v, e = .returned v ∧ Below w.heap.size w w' ∧ RV N res v) : VC P f args [] res := by
  refine ⟨hf, fun w N vs hI hl hv => (h w N vs hI.mem hl hv).mono ?_⟩
  rintro e w' ⟨v, rfl, hb, hr⟩
  exact ⟨N, v, rfl, hI.keep (fun k hk => hb.block k hk) hb.size hb.os hb.tape hb.output, hr⟩
theorem two {args : List AV} {vs : List Value} {N : Gh} {x y : AV} (hl : vs.length = [x, y].length) (hv : ∀ (i : Nat) a v, [x, y][i]? = some a → vs[i]? = some v → RV N a v) : ∃ u v, vs = [u, v] ∧ RV N x u ∧ RV N y v := by
  match vs, hl with
  | [u, v], _ => exact ⟨u, v, rfl, hv 0 x u rfl rfl, hv 1 y v rfl rfl⟩
theorem one_ {vs : List Value} {N : Gh} {x : AV} (hl : vs.length = [x].length) (hv : ∀ (i : Nat) a v, [x][i]? = some a → vs[i]? = some v → RV N a v) : ∃ u, vs = [u] ∧ RV N x u := by
  match vs, hl with
  | [u], _ => exact ⟨u, rfl, hv 0 x u rfl rfl⟩
theorem RC.bs_rd {g : Gh} {w : World} (hM : Mem g w) {l : List UInt8} {u : Value} (h : RV g (.bs l none) u) : ∃ A c, u = .slice A l.length c ∧ Rd byteE w w.heap.size A l := by
  obtain ⟨_, A, c, e, _, _, hr⟩ := h.bs_inv.bs_inv
  injection e with e
  refine ⟨A, c, e, ?_⟩
  rcases hr with h | ⟨b, o, hA, hj⟩
  · exact .inl h
  · by_cases hl : l = []
    · exact .inl hl
    · refine .inr ⟨b, o, hA, ?_, fun j u hu => ?_⟩
      · have h0 : 0 < l.length := List.length_pos_iff.2 hl
        exact hM.lt (hj 0 h0)
      · rw [byteE_all, List.getElem?_map] at hu
        obtain ⟨x, hx, rfl⟩ := Option.map_eq_some_iff.1 hu
        obtain ⟨hjl, e⟩ := List.getElem?_eq_some_iff.1 hx
        exact hM.ro _ _ _ (by rw [← e]; exact hj j hjl)
/-- The eight words. -/
def s8v (s : S8) : AV := .st [.v (W32 s.a), .v (W32 s.b), .v (W32 s.c), .v (W32 s.d), .v (W32 s.e), .v (W32 s.f), .v (W32 s.g), .v (W32 s.h)]
def s8T : Ty := .cn .sc (.cn .sc (.cn .sc (.cn .sc (.cn .sc (.cn .sc (.cn .sc (.cn .sc .nl)))))))
theorem s8v_inv {g : Gh} {s : S8} {u : Value} (h : RV g (s8v s) u) : u = .agg s.arr := by
  obtain ⟨T, cs, _, hr, rfl⟩ := h.st_inv
  unfold s8v at *
  cases hr with | cn h1 hr => cases h1; cases hr with | cn h1 hr => cases h1; cases hr with | cn h1 hr => cases h1; cases hr with | cn h1 hr => cases h1; cases hr with | cn h1 hr => cases h1; cases hr with | cn h1 hr => cases h1; cases hr with | cn h1 hr => cases h1; cases hr with | cn h1 hr => cases h1; cases hr; rfl
theorem s8v_rc (g : Gh) (s : S8) : RC g s8T (s8v s) s.arr.toList := by
  show RC g s8T (s8v s) ([_] ++ ([_] ++ ([_] ++ ([_] ++ ([_] ++ ([_] ++ ([_] ++ ([_] ++ []))))))))
  exact .cn (.v rfl) (.cn (.v rfl) (.cn (.v rfl) (.cn (.v rfl) (.cn (.v rfl) (.cn (.v rfl) (.cn (.v rfl) (.cn (.v rfl) .nl)))))))
end
theorem step_v (s : S8) (b : List UInt8) (hb : b.length = 64) : VC Try.prog 58 [s8v s, .ba b] [] (s8v (step s b)) := by
  refine VC.ofA ⟨_, Try.func58, by kernel_rfl, by kernel_rfl⟩ fun w N vs hM hl hv => ?_
  obtain ⟨u, v, rfl, h1, h2⟩ := two (args := []) hl hv
  have e1 := s8v_inv h1; have e2 := h2.ba_inv
  subst e1 e2
  refine (step_any s b hb w).mono ?_
  rintro e w' ⟨rfl, hw⟩
  exact ⟨_, rfl, hw, (show RV1 N (s8v (step s b)) _ from .inl ⟨s8T, _, rfl, s8v_rc N _, rfl⟩).rv⟩
theorem sumR_v (l : List UInt8) (hl : l.length ≤ 140737488355000) : VC Try.prog 92 [.bs l none] [] (.ba (sum l)) := by
  refine VC.ofA ⟨_, Try.func92, by kernel_rfl, by kernel_rfl⟩ fun w N vs hM hn hv => ?_
  obtain ⟨u, rfl, h1⟩ := one_ hn hv
  obtain ⟨A, c, rfl, hr⟩ := RC.bs_rd hM h1
  refine (sumR_any l A c w hr hl).mono ?_
  rintro e w' ⟨rfl, hw⟩
  exact ⟨_, rfl, hw, (show RV1 N (.ba (sum l)) _ from .inl ⟨.ba 32, _, rfl, .ba (sum_length l), rfl⟩).rv⟩
end Go.Proofs.Ytlagngkafllbiaa
/- How many bits a byte has: math/bits. -/
namespace Go.Proofs.Ytlagngkafllbiaa
open Go Go.RowKit
set_option maxHeartbeats 1000000 in
set_option maxRecDepth 100000 in
theorem len8_any (x : Int) (w : World) (h0 : 0 ≤ x) (h1 : x ≤ 255) : Calls Try.prog 102 #[.int .u8 x] w fun e w' => e = .returned (.int .i64 (Lib.bitLen x.toNat)) ∧ w' = w := by
  rw [← Lib.len8_int x h0 h1]
  go_enter Try.func102, Try.ntmps102
  go_wp2
  go_ret
  refine ⟨?_, rfl⟩
  generalize Lib.len8 x = y
  have e : wrap64 y = (y + 9223372036854775808) % 18446744073709551616 - 9223372036854775808 := by unfold wrap64; rfl
  show Ending.returned (.int .i64 (wrap64 y)) = _
  rw [e]
theorem len8_v (c : UInt8) : VC Try.prog 102 [.v (B8 c)] [] (.v (.int .i64 (Lib.bitLen c.toNat))) := by
  refine VC.ofA ⟨_, Try.func102, by kernel_rfl, by kernel_rfl⟩ fun w N vs hM hl hv => ?_
  obtain ⟨u, rfl, h1⟩ := one_ hl hv
  have e1 := h1.v_inv
  subst e1
  have hc := c.toNat_lt
  refine (len8_any c.toNat w (by omega) (by omega)).mono fun e w' hp => ?_
  obtain ⟨rfl, rfl⟩ := hp
  exact ⟨_, rfl, Below.refl _ _, by rw [Int.toNat_natCast]; exact RV.v_of rfl⟩
end Go.Proofs.Ytlagngkafllbiaa
/- The types of the program, as they lie in memory. By program (gen_tab.py). -/
namespace Go.Proofs.Ytlagngkafllbiaa
open Go Go.RowKit
def ti2 : TI := ⟨.int .i64, .sc, (.v (.int .i64 0)), 8⟩
theorem ti2_ok : ti2.ok Try.prog 2 := ti_ok (zc := [(.int .i64 0)]) (by kernel_rfl) (by kernel_rfl) (fun _ => (.v rfl)) (fun k h => by cases h; rfl)
def ti3 : TI := ⟨.int .i64, .sc, (.v (.int .i64 0)), 8⟩
theorem ti3_ok : ti3.ok Try.prog 3 := ti_ok (zc := [(.int .i64 0)]) (by kernel_rfl) (by kernel_rfl) (fun _ => (.v rfl)) (fun k h => by cases h; rfl)
def ti4 : TI := ⟨.bool, .sc, (.v (.bool false)), 1⟩
theorem ti4_ok : ti4.ok Try.prog 4 := ti_ok (zc := [(.bool false)]) (by kernel_rfl) (by kernel_rfl) (fun _ => (.v rfl)) (fun k h => by cases h)
def ti5 : TI := ⟨.int .u8, .sc, (.v (.int .u8 0)), 1⟩
theorem ti5_ok : ti5.ok Try.prog 5 := ti_ok (zc := [(.int .u8 0)]) (by kernel_rfl) (by kernel_rfl) (fun _ => (.v rfl)) (fun k h => by cases h; rfl)
def ti9 : TI := ⟨.str, .sc, (.v (.string ⟨#[]⟩)), 16⟩
theorem ti9_ok : ti9.ok Try.prog 9 := ti_ok (zc := [(.string ⟨#[]⟩)]) (by kernel_rfl) (by kernel_rfl) (fun _ => (.v rfl)) (fun k h => by cases h)
def ti21 : TI := ⟨.int .i32, .sc, (.v (.int .i32 0)), 4⟩
theorem ti21_ok : ti21.ok Try.prog 21 := ti_ok (zc := [(.int .i32 0)]) (by kernel_rfl) (by kernel_rfl) (fun _ => (.v rfl)) (fun k h => by cases h; rfl)
def ti22 : TI := ⟨.arr 32 5, (.ba 32), (.ba (List.replicate 32 0)), 32⟩
theorem ti22_ok : ti22.ok Try.prog 22 := ti_ok (zc := ((List.replicate 32 (0 : UInt8)).map B8)) (by kernel_rfl) (by kernel_rfl) (fun _ => (.ba rfl)) (fun k h => by cases h)
def ti23 : TI := ⟨.arr 32 5, (.ba 32), (.ba (List.replicate 32 0)), 32⟩
theorem ti23_ok : ti23.ok Try.prog 23 := ti_ok (zc := ((List.replicate 32 (0 : UInt8)).map B8)) (by kernel_rfl) (by kernel_rfl) (fun _ => (.ba rfl)) (fun k h => by cases h)
def ti24 : TI := ⟨.slc 5, .sc, (.v (.slice none 0 0)), 24⟩
theorem ti24_ok : ti24.ok Try.prog 24 := ti_ok (zc := [(.slice none 0 0)]) (by kernel_rfl) (by kernel_rfl) (fun _ => (.v rfl)) (fun k h => by cases h)
def ti26 : TI := ⟨.slc 24, .sc, (.v (.slice none 0 0)), 24⟩
theorem ti26_ok : ti26.ok Try.prog 26 := ti_ok (zc := [(.slice none 0 0)]) (by kernel_rfl) (by kernel_rfl) (fun _ => (.v rfl)) (fun k h => by cases h)
def ti27 : TI := ⟨.int .i64, .sc, (.v (.int .i64 0)), 8⟩
theorem ti27_ok : ti27.ok Try.prog 27 := ti_ok (zc := [(.int .i64 0)]) (by kernel_rfl) (by kernel_rfl) (fun _ => (.v rfl)) (fun k h => by cases h; rfl)
def ti30 : TI := ⟨.arr 32 5, (.ba 32), (.ba (List.replicate 32 0)), 32⟩
theorem ti30_ok : ti30.ok Try.prog 30 := ti_ok (zc := ((List.replicate 32 (0 : UInt8)).map B8)) (by kernel_rfl) (by kernel_rfl) (fun _ => (.ba rfl)) (fun k h => by cases h)
def ti41 : TI := ⟨.slc 30, .sc, (.v (.slice none 0 0)), 24⟩
theorem ti41_ok : ti41.ok Try.prog 41 := ti_ok (zc := [(.slice none 0 0)]) (by kernel_rfl) (by kernel_rfl) (fun _ => (.v rfl)) (fun k h => by cases h)
def ti42 : TI := ⟨.rcd [(0, 4), (1, 30)], (.cn .sc (.cn (.ba 32) (.nl))), (.st [(.v (.bool false)), (.ba (List.replicate 32 0))]), 33⟩
theorem ti42_ok : ti42.ok Try.prog 42 := ti_ok (zc := (([(.bool false)]) ++ ((((List.replicate 32 (0 : UInt8)).map B8)) ++ ([])))) (by kernel_rfl) (by kernel_rfl) (fun _ => (.cn (.v rfl) (.cn (.ba rfl) (.nl)))) (fun k h => by cases h)
def ti43 : TI := ⟨.rcd [(0, 4), (1, 30)], (.cn .sc (.cn (.ba 32) (.nl))), (.st [(.v (.bool false)), (.ba (List.replicate 32 0))]), 33⟩
theorem ti43_ok : ti43.ok Try.prog 43 := ti_ok (zc := (([(.bool false)]) ++ ((((List.replicate 32 (0 : UInt8)).map B8)) ++ ([])))) (by kernel_rfl) (by kernel_rfl) (fun _ => (.cn (.v rfl) (.cn (.ba rfl) (.nl)))) (fun k h => by cases h)
def ti51 : TI := ⟨.rcd [(0, 4), (1, 24), (2, 24)], (.cn .sc (.cn .sc (.cn .sc (.nl)))), (.st [(.v (.bool false)), (.v (.slice none 0 0)), (.v (.slice none 0 0))]), 56⟩
theorem ti51_ok : ti51.ok Try.prog 51 := ti_ok (zc := (([(.bool false)]) ++ (([(.slice none 0 0)]) ++ (([(.slice none 0 0)]) ++ ([]))))) (by kernel_rfl) (by kernel_rfl) (fun _ => (.cn (.v rfl) (.cn (.v rfl) (.cn (.v rfl) (.nl))))) (fun k h => by cases h)
def ti52 : TI := ⟨.rcd [(0, 4), (1, 24), (2, 24)], (.cn .sc (.cn .sc (.cn .sc (.nl)))), (.st [(.v (.bool false)), (.v (.slice none 0 0)), (.v (.slice none 0 0))]), 56⟩
theorem ti52_ok : ti52.ok Try.prog 52 := ti_ok (zc := (([(.bool false)]) ++ (([(.slice none 0 0)]) ++ (([(.slice none 0 0)]) ++ ([]))))) (by kernel_rfl) (by kernel_rfl) (fun _ => (.cn (.v rfl) (.cn (.v rfl) (.cn (.v rfl) (.nl))))) (fun k h => by cases h)
def ti53 : TI := ⟨.rcd [(0, 24), (1, 24)], (.cn .sc (.cn .sc (.nl))), (.st [(.v (.slice none 0 0)), (.v (.slice none 0 0))]), 48⟩
theorem ti53_ok : ti53.ok Try.prog 53 := ti_ok (zc := (([(.slice none 0 0)]) ++ (([(.slice none 0 0)]) ++ ([])))) (by kernel_rfl) (by kernel_rfl) (fun _ => (.cn (.v rfl) (.cn (.v rfl) (.nl)))) (fun k h => by cases h)
def ti54 : TI := ⟨.rcd [(0, 24), (1, 24)], (.cn .sc (.cn .sc (.nl))), (.st [(.v (.slice none 0 0)), (.v (.slice none 0 0))]), 48⟩
theorem ti54_ok : ti54.ok Try.prog 54 := ti_ok (zc := (([(.slice none 0 0)]) ++ (([(.slice none 0 0)]) ++ ([])))) (by kernel_rfl) (by kernel_rfl) (fun _ => (.cn (.v rfl) (.cn (.v rfl) (.nl)))) (fun k h => by cases h)
def ti60 : TI := ⟨.int .u8, .sc, (.v (.int .u8 0)), 1⟩
theorem ti60_ok : ti60.ok Try.prog 60 := ti_ok (zc := [(.int .u8 0)]) (by kernel_rfl) (by kernel_rfl) (fun _ => (.v rfl)) (fun k h => by cases h; rfl)
def ti61 : TI := ⟨.rcd [(0, 60), (1, 23), (33, 30), (65, 30), (97, 30)], (.cn .sc (.cn (.ba 32) (.cn (.ba 32) (.cn (.ba 32) (.cn (.ba 32) (.nl)))))), (.st [(.v (.int .u8 0)), (.ba (List.replicate 32 0)), (.ba (List.replicate 32 0)), (.ba (List.replicate 32 0)), (.ba (List.replicate 32 0))]), 129⟩
theorem ti61_ok : ti61.ok Try.prog 61 := ti_ok (zc := (([(.int .u8 0)]) ++ ((((List.replicate 32 (0 : UInt8)).map B8)) ++ ((((List.replicate 32 (0 : UInt8)).map B8)) ++ ((((List.replicate 32 (0 : UInt8)).map B8)) ++ ((((List.replicate 32 (0 : UInt8)).map B8)) ++ ([]))))))) (by kernel_rfl) (by kernel_rfl) (fun _ => (.cn (.v rfl) (.cn (.ba rfl) (.cn (.ba rfl) (.cn (.ba rfl) (.cn (.ba rfl) (.nl))))))) (fun k h => by cases h)
def ti62 : TI := ⟨.rcd [(0, 60), (1, 23), (33, 30), (65, 30), (97, 30)], (.cn .sc (.cn (.ba 32) (.cn (.ba 32) (.cn (.ba 32) (.cn (.ba 32) (.nl)))))), (.st [(.v (.int .u8 0)), (.ba (List.replicate 32 0)), (.ba (List.replicate 32 0)), (.ba (List.replicate 32 0)), (.ba (List.replicate 32 0))]), 129⟩
theorem ti62_ok : ti62.ok Try.prog 62 := ti_ok (zc := (([(.int .u8 0)]) ++ ((((List.replicate 32 (0 : UInt8)).map B8)) ++ ((((List.replicate 32 (0 : UInt8)).map B8)) ++ ((((List.replicate 32 (0 : UInt8)).map B8)) ++ ((((List.replicate 32 (0 : UInt8)).map B8)) ++ ([]))))))) (by kernel_rfl) (by kernel_rfl) (fun _ => (.cn (.v rfl) (.cn (.ba rfl) (.cn (.ba rfl) (.cn (.ba rfl) (.cn (.ba rfl) (.nl))))))) (fun k h => by cases h)
def ti63 : TI := ⟨.rcd [(0, 41), (1, 62)], (.cn .sc (.cn (.cn .sc (.cn (.ba 32) (.cn (.ba 32) (.cn (.ba 32) (.cn (.ba 32) (.nl)))))) (.nl))), (.st [(.v (.slice none 0 0)), (.st [(.v (.int .u8 0)), (.ba (List.replicate 32 0)), (.ba (List.replicate 32 0)), (.ba (List.replicate 32 0)), (.ba (List.replicate 32 0))])]), 160⟩
theorem ti63_ok : ti63.ok Try.prog 63 := ti_ok (zc := (([(.slice none 0 0)]) ++ (((([(.int .u8 0)]) ++ ((((List.replicate 32 (0 : UInt8)).map B8)) ++ ((((List.replicate 32 (0 : UInt8)).map B8)) ++ ((((List.replicate 32 (0 : UInt8)).map B8)) ++ ((((List.replicate 32 (0 : UInt8)).map B8)) ++ ([]))))))) ++ ([])))) (by kernel_rfl) (by kernel_rfl) (fun _ => (.cn (.v rfl) (.cn (.cn (.v rfl) (.cn (.ba rfl) (.cn (.ba rfl) (.cn (.ba rfl) (.cn (.ba rfl) (.nl)))))) (.nl)))) (fun k h => by cases h)
def ti64 : TI := ⟨.rcd [(0, 41), (1, 62)], (.cn .sc (.cn (.cn .sc (.cn (.ba 32) (.cn (.ba 32) (.cn (.ba 32) (.cn (.ba 32) (.nl)))))) (.nl))), (.st [(.v (.slice none 0 0)), (.st [(.v (.int .u8 0)), (.ba (List.replicate 32 0)), (.ba (List.replicate 32 0)), (.ba (List.replicate 32 0)), (.ba (List.replicate 32 0))])]), 160⟩
theorem ti64_ok : ti64.ok Try.prog 64 := ti_ok (zc := (([(.slice none 0 0)]) ++ (((([(.int .u8 0)]) ++ ((((List.replicate 32 (0 : UInt8)).map B8)) ++ ((((List.replicate 32 (0 : UInt8)).map B8)) ++ ((((List.replicate 32 (0 : UInt8)).map B8)) ++ ((((List.replicate 32 (0 : UInt8)).map B8)) ++ ([]))))))) ++ ([])))) (by kernel_rfl) (by kernel_rfl) (fun _ => (.cn (.v rfl) (.cn (.cn (.v rfl) (.cn (.ba rfl) (.cn (.ba rfl) (.cn (.ba rfl) (.cn (.ba rfl) (.nl)))))) (.nl)))) (fun k h => by cases h)
def ti73 : TI := ⟨.ptr 105, .sc, (.v (.pointer none)), 8⟩
theorem ti73_ok : ti73.ok Try.prog 73 := ti_ok (zc := [(.pointer none)]) (by kernel_rfl) (by kernel_rfl) (fun _ => (.v rfl)) (fun k h => by cases h)
def ti85 : TI := ⟨.rcd [(0, 4), (1, 4), (2, 4)], (.cn .sc (.cn .sc (.cn .sc (.nl)))), (.st [(.v (.bool false)), (.v (.bool false)), (.v (.bool false))]), 3⟩
theorem ti85_ok : ti85.ok Try.prog 85 := ti_ok (zc := (([(.bool false)]) ++ (([(.bool false)]) ++ (([(.bool false)]) ++ ([]))))) (by kernel_rfl) (by kernel_rfl) (fun _ => (.cn (.v rfl) (.cn (.v rfl) (.cn (.v rfl) (.nl))))) (fun k h => by cases h)
def ti86 : TI := ⟨.rcd [(0, 4), (1, 4), (2, 4)], (.cn .sc (.cn .sc (.cn .sc (.nl)))), (.st [(.v (.bool false)), (.v (.bool false)), (.v (.bool false))]), 3⟩
theorem ti86_ok : ti86.ok Try.prog 86 := ti_ok (zc := (([(.bool false)]) ++ (([(.bool false)]) ++ (([(.bool false)]) ++ ([]))))) (by kernel_rfl) (by kernel_rfl) (fun _ => (.cn (.v rfl) (.cn (.v rfl) (.cn (.v rfl) (.nl))))) (fun k h => by cases h)
def ti100 : TI := ⟨.int .u32, .sc, (.v (.int .u32 0)), 4⟩
theorem ti100_ok : ti100.ok Try.prog 100 := ti_ok (zc := [(.int .u32 0)]) (by kernel_rfl) (by kernel_rfl) (fun _ => (.v rfl)) (fun k h => by cases h; rfl)
def ti101 : TI := ⟨.arr 8 100, (.cn .sc (.cn .sc (.cn .sc (.cn .sc (.cn .sc (.cn .sc (.cn .sc (.cn .sc (.nl))))))))), (.st [(.v (.int .u32 0)), (.v (.int .u32 0)), (.v (.int .u32 0)), (.v (.int .u32 0)), (.v (.int .u32 0)), (.v (.int .u32 0)), (.v (.int .u32 0)), (.v (.int .u32 0))]), 32⟩
theorem ti101_ok : ti101.ok Try.prog 101 := ti_ok (zc := (([(.int .u32 0)]) ++ (([(.int .u32 0)]) ++ (([(.int .u32 0)]) ++ (([(.int .u32 0)]) ++ (([(.int .u32 0)]) ++ (([(.int .u32 0)]) ++ (([(.int .u32 0)]) ++ (([(.int .u32 0)]) ++ ([])))))))))) (by kernel_rfl) (by kernel_rfl) (fun _ => (.cn (.v rfl) (.cn (.v rfl) (.cn (.v rfl) (.cn (.v rfl) (.cn (.v rfl) (.cn (.v rfl) (.cn (.v rfl) (.cn (.v rfl) (.nl)))))))))) (fun k h => by cases h)
def ti103 : TI := ⟨.arr 64 5, (.ba 64), (.ba (List.replicate 64 0)), 64⟩
theorem ti103_ok : ti103.ok Try.prog 103 := ti_ok (zc := ((List.replicate 64 (0 : UInt8)).map B8)) (by kernel_rfl) (by kernel_rfl) (fun _ => (.ba rfl)) (fun k h => by cases h)
def ti104 : TI := ⟨.rcd [(0, 4), (1, 101), (9, 103), (73, 3), (74, 3)], (.cn .sc (.cn (.cn .sc (.cn .sc (.cn .sc (.cn .sc (.cn .sc (.cn .sc (.cn .sc (.cn .sc (.nl))))))))) (.cn (.ba 64) (.cn .sc (.cn .sc (.nl)))))), (.st [(.v (.bool false)), (.st [(.v (.int .u32 0)), (.v (.int .u32 0)), (.v (.int .u32 0)), (.v (.int .u32 0)), (.v (.int .u32 0)), (.v (.int .u32 0)), (.v (.int .u32 0)), (.v (.int .u32 0))]), (.ba (List.replicate 64 0)), (.v (.int .i64 0)), (.v (.int .i64 0))]), 120⟩
theorem ti104_ok : ti104.ok Try.prog 104 := ti_ok (zc := (([(.bool false)]) ++ (((([(.int .u32 0)]) ++ (([(.int .u32 0)]) ++ (([(.int .u32 0)]) ++ (([(.int .u32 0)]) ++ (([(.int .u32 0)]) ++ (([(.int .u32 0)]) ++ (([(.int .u32 0)]) ++ (([(.int .u32 0)]) ++ ([])))))))))) ++ ((((List.replicate 64 (0 : UInt8)).map B8)) ++ (([(.int .i64 0)]) ++ (([(.int .i64 0)]) ++ ([]))))))) (by kernel_rfl) (by kernel_rfl) (fun _ => (.cn (.v rfl) (.cn (.cn (.v rfl) (.cn (.v rfl) (.cn (.v rfl) (.cn (.v rfl) (.cn (.v rfl) (.cn (.v rfl) (.cn (.v rfl) (.cn (.v rfl) (.nl))))))))) (.cn (.ba rfl) (.cn (.v rfl) (.cn (.v rfl) (.nl))))))) (fun k h => by cases h)
def ti105 : TI := ⟨.rcd [(0, 4), (1, 101), (9, 103), (73, 3), (74, 3)], (.cn .sc (.cn (.cn .sc (.cn .sc (.cn .sc (.cn .sc (.cn .sc (.cn .sc (.cn .sc (.cn .sc (.nl))))))))) (.cn (.ba 64) (.cn .sc (.cn .sc (.nl)))))), (.st [(.v (.bool false)), (.st [(.v (.int .u32 0)), (.v (.int .u32 0)), (.v (.int .u32 0)), (.v (.int .u32 0)), (.v (.int .u32 0)), (.v (.int .u32 0)), (.v (.int .u32 0)), (.v (.int .u32 0))]), (.ba (List.replicate 64 0)), (.v (.int .i64 0)), (.v (.int .i64 0))]), 120⟩
theorem ti105_ok : ti105.ok Try.prog 105 := ti_ok (zc := (([(.bool false)]) ++ (((([(.int .u32 0)]) ++ (([(.int .u32 0)]) ++ (([(.int .u32 0)]) ++ (([(.int .u32 0)]) ++ (([(.int .u32 0)]) ++ (([(.int .u32 0)]) ++ (([(.int .u32 0)]) ++ (([(.int .u32 0)]) ++ ([])))))))))) ++ ((((List.replicate 64 (0 : UInt8)).map B8)) ++ (([(.int .i64 0)]) ++ (([(.int .i64 0)]) ++ ([]))))))) (by kernel_rfl) (by kernel_rfl) (fun _ => (.cn (.v rfl) (.cn (.cn (.v rfl) (.cn (.v rfl) (.cn (.v rfl) (.cn (.v rfl) (.cn (.v rfl) (.cn (.v rfl) (.cn (.v rfl) (.cn (.v rfl) (.nl))))))))) (.cn (.ba rfl) (.cn (.v rfl) (.cn (.v rfl) (.nl))))))) (fun k h => by cases h)
def ti108 : TI := ⟨.int .u64, .sc, (.v (.int .u64 0)), 8⟩
theorem ti108_ok : ti108.ok Try.prog 108 := ti_ok (zc := [(.int .u64 0)]) (by kernel_rfl) (by kernel_rfl) (fun _ => (.v rfl)) (fun k h => by cases h; rfl)
def ti110 : TI := ⟨.int .u64, .sc, (.v (.int .u64 0)), 8⟩
theorem ti110_ok : ti110.ok Try.prog 110 := ti_ok (zc := [(.int .u64 0)]) (by kernel_rfl) (by kernel_rfl) (fun _ => (.v rfl)) (fun k h => by cases h; rfl)
def ti124 : TI := ⟨.ptr 148, .sc, (.v (.pointer none)), 8⟩
theorem ti124_ok : ti124.ok Try.prog 124 := ti_ok (zc := [(.pointer none)]) (by kernel_rfl) (by kernel_rfl) (fun _ => (.v rfl)) (fun k h => by cases h)
def ti136 : TI := ⟨.arr 64 100, (.cn .sc (.cn .sc (.cn .sc (.cn .sc (.cn .sc (.cn .sc (.cn .sc (.cn .sc (.cn .sc (.cn .sc (.cn .sc (.cn .sc (.cn .sc (.cn .sc (.cn .sc (.cn .sc (.cn .sc (.cn .sc (.cn .sc (.cn .sc (.cn .sc (.cn .sc (.cn .sc (.cn .sc (.cn .sc (.cn .sc (.cn .sc (.cn .sc (.cn .sc (.cn .sc (.cn .sc (.cn .sc (.cn .sc (.cn .sc (.cn .sc (.cn .sc (.cn .sc (.cn .sc (.cn .sc (.cn .sc (.cn .sc (.cn .sc (.cn .sc (.cn .sc (.cn .sc (.cn .sc (.cn .sc (.cn .sc (.cn .sc (.cn .sc (.cn .sc (.cn .sc (.cn .sc (.cn .sc (.cn .sc (.cn .sc (.cn .sc (.cn .sc (.cn .sc (.cn .sc (.cn .sc (.cn .sc (.cn .sc (.cn .sc (.nl))))))))))))))))))))))))))))))))))))))))))))))))))))))))))))))))), (.st [(.v (.int .u32 0)), (.v (.int .u32 0)), (.v (.int .u32 0)), (.v (.int .u32 0)), (.v (.int .u32 0)), (.v (.int .u32 0)), (.v (.int .u32 0)), (.v (.int .u32 0)), (.v (.int .u32 0)), (.v (.int .u32 0)), (.v (.int .u32 0)), (.v (.int .u32 0)), (.v (.int .u32 0)), (.v (.int .u32 0)), (.v (.int .u32 0)), (.v (.int .u32 0)), (.v (.int .u32 0)), (.v (.int .u32 0)), (.v (.int .u32 0)), (.v (.int .u32 0)), (.v (.int .u32 0)), (.v (.int .u32 0)), (.v (.int .u32 0)), (.v (.int .u32 0)), (.v (.int .u32 0)), (.v (.int .u32 0)), (.v (.int .u32 0)), (.v (.int .u32 0)), (.v (.int .u32 0)), (.v (.int .u32 0)), (.v (.int .u32 0)), (.v (.int .u32 0)), (.v (.int .u32 0)), (.v (.int .u32 0)), (.v (.int .u32 0)), (.v (.int .u32 0)), (.v (.int .u32 0)), (.v (.int .u32 0)), (.v (.int .u32 0)), (.v (.int .u32 0)), (.v (.int .u32 0)), (.v (.int .u32 0)), (.v (.int .u32 0)), (.v (.int .u32 0)), (.v (.int .u32 0)), (.v (.int .u32 0)), (.v (.int .u32 0)), (.v (.int .u32 0)), (.v (.int .u32 0)), (.v (.int .u32 0)), (.v (.int .u32 0)), (.v (.int .u32 0)), (.v (.int .u32 0)), (.v (.int .u32 0)), (.v (.int .u32 0)), (.v (.int .u32 0)), (.v (.int .u32 0)), (.v (.int .u32 0)), (.v (.int .u32 0)), (.v (.int .u32 0)), (.v (.int .u32 0)), (.v (.int .u32 0)), (.v (.int .u32 0)), (.v (.int .u32 0))]), 256⟩
theorem ti136_ok : ti136.ok Try.prog 136 := ti_ok (zc := (([(.int .u32 0)]) ++ (([(.int .u32 0)]) ++ (([(.int .u32 0)]) ++ (([(.int .u32 0)]) ++ (([(.int .u32 0)]) ++ (([(.int .u32 0)]) ++ (([(.int .u32 0)]) ++ (([(.int .u32 0)]) ++ (([(.int .u32 0)]) ++ (([(.int .u32 0)]) ++ (([(.int .u32 0)]) ++ (([(.int .u32 0)]) ++ (([(.int .u32 0)]) ++ (([(.int .u32 0)]) ++ (([(.int .u32 0)]) ++ (([(.int .u32 0)]) ++ (([(.int .u32 0)]) ++ (([(.int .u32 0)]) ++ (([(.int .u32 0)]) ++ (([(.int .u32 0)]) ++ (([(.int .u32 0)]) ++ (([(.int .u32 0)]) ++ (([(.int .u32 0)]) ++ (([(.int .u32 0)]) ++ (([(.int .u32 0)]) ++ (([(.int .u32 0)]) ++ (([(.int .u32 0)]) ++ (([(.int .u32 0)]) ++ (([(.int .u32 0)]) ++ (([(.int .u32 0)]) ++ (([(.int .u32 0)]) ++ (([(.int .u32 0)]) ++ (([(.int .u32 0)]) ++ (([(.int .u32 0)]) ++ (([(.int .u32 0)]) ++ (([(.int .u32 0)]) ++ (([(.int .u32 0)]) ++ (([(.int .u32 0)]) ++ (([(.int .u32 0)]) ++ (([(.int .u32 0)]) ++ (([(.int .u32 0)]) ++ (([(.int .u32 0)]) ++ (([(.int .u32 0)]) ++ (([(.int .u32 0)]) ++ (([(.int .u32 0)]) ++ (([(.int .u32 0)]) ++ (([(.int .u32 0)]) ++ (([(.int .u32 0)]) ++ (([(.int .u32 0)]) ++ (([(.int .u32 0)]) ++ (([(.int .u32 0)]) ++ (([(.int .u32 0)]) ++ (([(.int .u32 0)]) ++ (([(.int .u32 0)]) ++ (([(.int .u32 0)]) ++ (([(.int .u32 0)]) ++ (([(.int .u32 0)]) ++ (([(.int .u32 0)]) ++ (([(.int .u32 0)]) ++ (([(.int .u32 0)]) ++ (([(.int .u32 0)]) ++ (([(.int .u32 0)]) ++ (([(.int .u32 0)]) ++ (([(.int .u32 0)]) ++ ([])))))))))))))))))))))))))))))))))))))))))))))))))))))))))))))))))) (by kernel_rfl) (by kernel_rfl) (fun _ => (.cn (.v rfl) (.cn (.v rfl) (.cn (.v rfl) (.cn (.v rfl) (.cn (.v rfl) (.cn (.v rfl) (.cn (.v rfl) (.cn (.v rfl) (.cn (.v rfl) (.cn (.v rfl) (.cn (.v rfl) (.cn (.v rfl) (.cn (.v rfl) (.cn (.v rfl) (.cn (.v rfl) (.cn (.v rfl) (.cn (.v rfl) (.cn (.v rfl) (.cn (.v rfl) (.cn (.v rfl) (.cn (.v rfl) (.cn (.v rfl) (.cn (.v rfl) (.cn (.v rfl) (.cn (.v rfl) (.cn (.v rfl) (.cn (.v rfl) (.cn (.v rfl) (.cn (.v rfl) (.cn (.v rfl) (.cn (.v rfl) (.cn (.v rfl) (.cn (.v rfl) (.cn (.v rfl) (.cn (.v rfl) (.cn (.v rfl) (.cn (.v rfl) (.cn (.v rfl) (.cn (.v rfl) (.cn (.v rfl) (.cn (.v rfl) (.cn (.v rfl) (.cn (.v rfl) (.cn (.v rfl) (.cn (.v rfl) (.cn (.v rfl) (.cn (.v rfl) (.cn (.v rfl) (.cn (.v rfl) (.cn (.v rfl) (.cn (.v rfl) (.cn (.v rfl) (.cn (.v rfl) (.cn (.v rfl) (.cn (.v rfl) (.cn (.v rfl) (.cn (.v rfl) (.cn (.v rfl) (.cn (.v rfl) (.cn (.v rfl) (.cn (.v rfl) (.cn (.v rfl) (.cn (.v rfl) (.cn (.v rfl) (.nl)))))))))))))))))))))))))))))))))))))))))))))))))))))))))))))))))) (fun k h => by cases h)
def ti147 : TI := ⟨.rcd [(0, 4), (1, 4), (2, 24)], (.cn .sc (.cn .sc (.cn .sc (.nl)))), (.st [(.v (.bool false)), (.v (.bool false)), (.v (.slice none 0 0))]), 32⟩
theorem ti147_ok : ti147.ok Try.prog 147 := ti_ok (zc := (([(.bool false)]) ++ (([(.bool false)]) ++ (([(.slice none 0 0)]) ++ ([]))))) (by kernel_rfl) (by kernel_rfl) (fun _ => (.cn (.v rfl) (.cn (.v rfl) (.cn (.v rfl) (.nl))))) (fun k h => by cases h)
def ti148 : TI := ⟨.rcd [(0, 4), (1, 4), (2, 24)], (.cn .sc (.cn .sc (.cn .sc (.nl)))), (.st [(.v (.bool false)), (.v (.bool false)), (.v (.slice none 0 0))]), 32⟩
theorem ti148_ok : ti148.ok Try.prog 148 := ti_ok (zc := (([(.bool false)]) ++ (([(.bool false)]) ++ (([(.slice none 0 0)]) ++ ([]))))) (by kernel_rfl) (by kernel_rfl) (fun _ => (.cn (.v rfl) (.cn (.v rfl) (.cn (.v rfl) (.nl))))) (fun k h => by cases h)
def ti163 : TI := ⟨.ptr 5, .sc, (.v (.pointer none)), 8⟩
theorem ti163_ok : ti163.ok Try.prog 163 := ti_ok (zc := [(.pointer none)]) (by kernel_rfl) (by kernel_rfl) (fun _ => (.v rfl)) (fun k h => by cases h)
@[simp] theorem ti2_t : ti2.ty = .sc := rfl
@[simp] theorem ti2_z : ti2.zero = (.v (.int .i64 0)) := rfl
@[simp] theorem ti2_b : ti2.bytes = 8 := rfl
@[simp] theorem ti3_t : ti3.ty = .sc := rfl
@[simp] theorem ti3_z : ti3.zero = (.v (.int .i64 0)) := rfl
@[simp] theorem ti3_b : ti3.bytes = 8 := rfl
@[simp] theorem ti4_t : ti4.ty = .sc := rfl
@[simp] theorem ti4_z : ti4.zero = (.v (.bool false)) := rfl
@[simp] theorem ti4_b : ti4.bytes = 1 := rfl
@[simp] theorem ti5_t : ti5.ty = .sc := rfl
@[simp] theorem ti5_z : ti5.zero = (.v (.int .u8 0)) := rfl
@[simp] theorem ti5_b : ti5.bytes = 1 := rfl
@[simp] theorem ti9_t : ti9.ty = .sc := rfl
@[simp] theorem ti9_z : ti9.zero = (.v (.string ⟨#[]⟩)) := rfl
@[simp] theorem ti9_b : ti9.bytes = 16 := rfl
@[simp] theorem ti21_t : ti21.ty = .sc := rfl
@[simp] theorem ti21_z : ti21.zero = (.v (.int .i32 0)) := rfl
@[simp] theorem ti21_b : ti21.bytes = 4 := rfl
@[simp] theorem ti22_t : ti22.ty = (.ba 32) := rfl
@[simp] theorem ti22_z : ti22.zero = (.ba (List.replicate 32 0)) := rfl
@[simp] theorem ti22_b : ti22.bytes = 32 := rfl
@[simp] theorem ti23_t : ti23.ty = (.ba 32) := rfl
@[simp] theorem ti23_z : ti23.zero = (.ba (List.replicate 32 0)) := rfl
@[simp] theorem ti23_b : ti23.bytes = 32 := rfl
@[simp] theorem ti24_t : ti24.ty = .sc := rfl
@[simp] theorem ti24_z : ti24.zero = (.v (.slice none 0 0)) := rfl
@[simp] theorem ti24_b : ti24.bytes = 24 := rfl
@[simp] theorem ti26_t : ti26.ty = .sc := rfl
@[simp] theorem ti26_z : ti26.zero = (.v (.slice none 0 0)) := rfl
@[simp] theorem ti26_b : ti26.bytes = 24 := rfl
@[simp] theorem ti27_t : ti27.ty = .sc := rfl
@[simp] theorem ti27_z : ti27.zero = (.v (.int .i64 0)) := rfl
@[simp] theorem ti27_b : ti27.bytes = 8 := rfl
@[simp] theorem ti30_t : ti30.ty = (.ba 32) := rfl
@[simp] theorem ti30_z : ti30.zero = (.ba (List.replicate 32 0)) := rfl
@[simp] theorem ti30_b : ti30.bytes = 32 := rfl
@[simp] theorem ti41_t : ti41.ty = .sc := rfl
@[simp] theorem ti41_z : ti41.zero = (.v (.slice none 0 0)) := rfl
@[simp] theorem ti41_b : ti41.bytes = 24 := rfl
@[simp] theorem ti42_t : ti42.ty = (.cn .sc (.cn (.ba 32) (.nl))) := rfl
@[simp] theorem ti42_z : ti42.zero = (.st [(.v (.bool false)), (.ba (List.replicate 32 0))]) := rfl
@[simp] theorem ti42_b : ti42.bytes = 33 := rfl
@[simp] theorem ti43_t : ti43.ty = (.cn .sc (.cn (.ba 32) (.nl))) := rfl
@[simp] theorem ti43_z : ti43.zero = (.st [(.v (.bool false)), (.ba (List.replicate 32 0))]) := rfl
@[simp] theorem ti43_b : ti43.bytes = 33 := rfl
@[simp] theorem ti51_t : ti51.ty = (.cn .sc (.cn .sc (.cn .sc (.nl)))) := rfl
@[simp] theorem ti51_z : ti51.zero = (.st [(.v (.bool false)), (.v (.slice none 0 0)), (.v (.slice none 0 0))]) := rfl
@[simp] theorem ti51_b : ti51.bytes = 56 := rfl
@[simp] theorem ti52_t : ti52.ty = (.cn .sc (.cn .sc (.cn .sc (.nl)))) := rfl
@[simp] theorem ti52_z : ti52.zero = (.st [(.v (.bool false)), (.v (.slice none 0 0)), (.v (.slice none 0 0))]) := rfl
@[simp] theorem ti52_b : ti52.bytes = 56 := rfl
@[simp] theorem ti53_t : ti53.ty = (.cn .sc (.cn .sc (.nl))) := rfl
@[simp] theorem ti53_z : ti53.zero = (.st [(.v (.slice none 0 0)), (.v (.slice none 0 0))]) := rfl
@[simp] theorem ti53_b : ti53.bytes = 48 := rfl
@[simp] theorem ti54_t : ti54.ty = (.cn .sc (.cn .sc (.nl))) := rfl
@[simp] theorem ti54_z : ti54.zero = (.st [(.v (.slice none 0 0)), (.v (.slice none 0 0))]) := rfl
@[simp] theorem ti54_b : ti54.bytes = 48 := rfl
@[simp] theorem ti60_t : ti60.ty = .sc := rfl
@[simp] theorem ti60_z : ti60.zero = (.v (.int .u8 0)) := rfl
@[simp] theorem ti60_b : ti60.bytes = 1 := rfl
@[simp] theorem ti61_t : ti61.ty = (.cn .sc (.cn (.ba 32) (.cn (.ba 32) (.cn (.ba 32) (.cn (.ba 32) (.nl)))))) := rfl
@[simp] theorem ti61_z : ti61.zero = (.st [(.v (.int .u8 0)), (.ba (List.replicate 32 0)), (.ba (List.replicate 32 0)), (.ba (List.replicate 32 0)), (.ba (List.replicate 32 0))]) := rfl
@[simp] theorem ti61_b : ti61.bytes = 129 := rfl
@[simp] theorem ti62_t : ti62.ty = (.cn .sc (.cn (.ba 32) (.cn (.ba 32) (.cn (.ba 32) (.cn (.ba 32) (.nl)))))) := rfl
@[simp] theorem ti62_z : ti62.zero = (.st [(.v (.int .u8 0)), (.ba (List.replicate 32 0)), (.ba (List.replicate 32 0)), (.ba (List.replicate 32 0)), (.ba (List.replicate 32 0))]) := rfl
@[simp] theorem ti62_b : ti62.bytes = 129 := rfl
@[simp] theorem ti63_t : ti63.ty = (.cn .sc (.cn (.cn .sc (.cn (.ba 32) (.cn (.ba 32) (.cn (.ba 32) (.cn (.ba 32) (.nl)))))) (.nl))) := rfl
@[simp] theorem ti63_z : ti63.zero = (.st [(.v (.slice none 0 0)), (.st [(.v (.int .u8 0)), (.ba (List.replicate 32 0)), (.ba (List.replicate 32 0)), (.ba (List.replicate 32 0)), (.ba (List.replicate 32 0))])]) := rfl
@[simp] theorem ti63_b : ti63.bytes = 160 := rfl
@[simp] theorem ti64_t : ti64.ty = (.cn .sc (.cn (.cn .sc (.cn (.ba 32) (.cn (.ba 32) (.cn (.ba 32) (.cn (.ba 32) (.nl)))))) (.nl))) := rfl
@[simp] theorem ti64_z : ti64.zero = (.st [(.v (.slice none 0 0)), (.st [(.v (.int .u8 0)), (.ba (List.replicate 32 0)), (.ba (List.replicate 32 0)), (.ba (List.replicate 32 0)), (.ba (List.replicate 32 0))])]) := rfl
@[simp] theorem ti64_b : ti64.bytes = 160 := rfl
@[simp] theorem ti73_t : ti73.ty = .sc := rfl
@[simp] theorem ti73_z : ti73.zero = (.v (.pointer none)) := rfl
@[simp] theorem ti73_b : ti73.bytes = 8 := rfl
@[simp] theorem ti85_t : ti85.ty = (.cn .sc (.cn .sc (.cn .sc (.nl)))) := rfl
@[simp] theorem ti85_z : ti85.zero = (.st [(.v (.bool false)), (.v (.bool false)), (.v (.bool false))]) := rfl
@[simp] theorem ti85_b : ti85.bytes = 3 := rfl
@[simp] theorem ti86_t : ti86.ty = (.cn .sc (.cn .sc (.cn .sc (.nl)))) := rfl
@[simp] theorem ti86_z : ti86.zero = (.st [(.v (.bool false)), (.v (.bool false)), (.v (.bool false))]) := rfl
@[simp] theorem ti86_b : ti86.bytes = 3 := rfl
@[simp] theorem ti100_t : ti100.ty = .sc := rfl
@[simp] theorem ti100_z : ti100.zero = (.v (.int .u32 0)) := rfl
@[simp] theorem ti100_b : ti100.bytes = 4 := rfl
@[simp] theorem ti101_t : ti101.ty = (.cn .sc (.cn .sc (.cn .sc (.cn .sc (.cn .sc (.cn .sc (.cn .sc (.cn .sc (.nl))))))))) := rfl
@[simp] theorem ti101_z : ti101.zero = (.st [(.v (.int .u32 0)), (.v (.int .u32 0)), (.v (.int .u32 0)), (.v (.int .u32 0)), (.v (.int .u32 0)), (.v (.int .u32 0)), (.v (.int .u32 0)), (.v (.int .u32 0))]) := rfl
@[simp] theorem ti101_b : ti101.bytes = 32 := rfl
@[simp] theorem ti103_t : ti103.ty = (.ba 64) := rfl
@[simp] theorem ti103_z : ti103.zero = (.ba (List.replicate 64 0)) := rfl
@[simp] theorem ti103_b : ti103.bytes = 64 := rfl
@[simp] theorem ti104_t : ti104.ty = (.cn .sc (.cn (.cn .sc (.cn .sc (.cn .sc (.cn .sc (.cn .sc (.cn .sc (.cn .sc (.cn .sc (.nl))))))))) (.cn (.ba 64) (.cn .sc (.cn .sc (.nl)))))) := rfl
@[simp] theorem ti104_z : ti104.zero = (.st [(.v (.bool false)), (.st [(.v (.int .u32 0)), (.v (.int .u32 0)), (.v (.int .u32 0)), (.v (.int .u32 0)), (.v (.int .u32 0)), (.v (.int .u32 0)), (.v (.int .u32 0)), (.v (.int .u32 0))]), (.ba (List.replicate 64 0)), (.v (.int .i64 0)), (.v (.int .i64 0))]) := rfl
@[simp] theorem ti104_b : ti104.bytes = 120 := rfl
@[simp] theorem ti105_t : ti105.ty = (.cn .sc (.cn (.cn .sc (.cn .sc (.cn .sc (.cn .sc (.cn .sc (.cn .sc (.cn .sc (.cn .sc (.nl))))))))) (.cn (.ba 64) (.cn .sc (.cn .sc (.nl)))))) := rfl
@[simp] theorem ti105_z : ti105.zero = (.st [(.v (.bool false)), (.st [(.v (.int .u32 0)), (.v (.int .u32 0)), (.v (.int .u32 0)), (.v (.int .u32 0)), (.v (.int .u32 0)), (.v (.int .u32 0)), (.v (.int .u32 0)), (.v (.int .u32 0))]), (.ba (List.replicate 64 0)), (.v (.int .i64 0)), (.v (.int .i64 0))]) := rfl
@[simp] theorem ti105_b : ti105.bytes = 120 := rfl
@[simp] theorem ti108_t : ti108.ty = .sc := rfl
@[simp] theorem ti108_z : ti108.zero = (.v (.int .u64 0)) := rfl
@[simp] theorem ti108_b : ti108.bytes = 8 := rfl
@[simp] theorem ti110_t : ti110.ty = .sc := rfl
@[simp] theorem ti110_z : ti110.zero = (.v (.int .u64 0)) := rfl
@[simp] theorem ti110_b : ti110.bytes = 8 := rfl
@[simp] theorem ti124_t : ti124.ty = .sc := rfl
@[simp] theorem ti124_z : ti124.zero = (.v (.pointer none)) := rfl
@[simp] theorem ti124_b : ti124.bytes = 8 := rfl
@[simp] theorem ti136_t : ti136.ty = (.cn .sc (.cn .sc (.cn .sc (.cn .sc (.cn .sc (.cn .sc (.cn .sc (.cn .sc (.cn .sc (.cn .sc (.cn .sc (.cn .sc (.cn .sc (.cn .sc (.cn .sc (.cn .sc (.cn .sc (.cn .sc (.cn .sc (.cn .sc (.cn .sc (.cn .sc (.cn .sc (.cn .sc (.cn .sc (.cn .sc (.cn .sc (.cn .sc (.cn .sc (.cn .sc (.cn .sc (.cn .sc (.cn .sc (.cn .sc (.cn .sc (.cn .sc (.cn .sc (.cn .sc (.cn .sc (.cn .sc (.cn .sc (.cn .sc (.cn .sc (.cn .sc (.cn .sc (.cn .sc (.cn .sc (.cn .sc (.cn .sc (.cn .sc (.cn .sc (.cn .sc (.cn .sc (.cn .sc (.cn .sc (.cn .sc (.cn .sc (.cn .sc (.cn .sc (.cn .sc (.cn .sc (.cn .sc (.cn .sc (.cn .sc (.nl))))))))))))))))))))))))))))))))))))))))))))))))))))))))))))))))) := rfl
@[simp] theorem ti136_z : ti136.zero = (.st [(.v (.int .u32 0)), (.v (.int .u32 0)), (.v (.int .u32 0)), (.v (.int .u32 0)), (.v (.int .u32 0)), (.v (.int .u32 0)), (.v (.int .u32 0)), (.v (.int .u32 0)), (.v (.int .u32 0)), (.v (.int .u32 0)), (.v (.int .u32 0)), (.v (.int .u32 0)), (.v (.int .u32 0)), (.v (.int .u32 0)), (.v (.int .u32 0)), (.v (.int .u32 0)), (.v (.int .u32 0)), (.v (.int .u32 0)), (.v (.int .u32 0)), (.v (.int .u32 0)), (.v (.int .u32 0)), (.v (.int .u32 0)), (.v (.int .u32 0)), (.v (.int .u32 0)), (.v (.int .u32 0)), (.v (.int .u32 0)), (.v (.int .u32 0)), (.v (.int .u32 0)), (.v (.int .u32 0)), (.v (.int .u32 0)), (.v (.int .u32 0)), (.v (.int .u32 0)), (.v (.int .u32 0)), (.v (.int .u32 0)), (.v (.int .u32 0)), (.v (.int .u32 0)), (.v (.int .u32 0)), (.v (.int .u32 0)), (.v (.int .u32 0)), (.v (.int .u32 0)), (.v (.int .u32 0)), (.v (.int .u32 0)), (.v (.int .u32 0)), (.v (.int .u32 0)), (.v (.int .u32 0)), (.v (.int .u32 0)), (.v (.int .u32 0)), (.v (.int .u32 0)), (.v (.int .u32 0)), (.v (.int .u32 0)), (.v (.int .u32 0)), (.v (.int .u32 0)), (.v (.int .u32 0)), (.v (.int .u32 0)), (.v (.int .u32 0)), (.v (.int .u32 0)), (.v (.int .u32 0)), (.v (.int .u32 0)), (.v (.int .u32 0)), (.v (.int .u32 0)), (.v (.int .u32 0)), (.v (.int .u32 0)), (.v (.int .u32 0)), (.v (.int .u32 0))]) := rfl
@[simp] theorem ti136_b : ti136.bytes = 256 := rfl
@[simp] theorem ti147_t : ti147.ty = (.cn .sc (.cn .sc (.cn .sc (.nl)))) := rfl
@[simp] theorem ti147_z : ti147.zero = (.st [(.v (.bool false)), (.v (.bool false)), (.v (.slice none 0 0))]) := rfl
@[simp] theorem ti147_b : ti147.bytes = 32 := rfl
@[simp] theorem ti148_t : ti148.ty = (.cn .sc (.cn .sc (.cn .sc (.nl)))) := rfl
@[simp] theorem ti148_z : ti148.zero = (.st [(.v (.bool false)), (.v (.bool false)), (.v (.slice none 0 0))]) := rfl
@[simp] theorem ti148_b : ti148.bytes = 32 := rfl
@[simp] theorem ti163_t : ti163.ty = .sc := rfl
@[simp] theorem ti163_z : ti163.zero = (.v (.pointer none)) := rfl
@[simp] theorem ti163_b : ti163.bytes = 8 := rfl
def tab : Tab := [(2, ti2), (3, ti3), (4, ti4), (5, ti5), (9, ti9), (21, ti21), (22, ti22), (23, ti23), (24, ti24), (26, ti26), (27, ti27), (30, ti30), (41, ti41), (42, ti42), (43, ti43), (51, ti51), (52, ti52), (53, ti53), (54, ti54), (60, ti60), (61, ti61), (62, ti62), (63, ti63), (64, ti64), (73, ti73), (85, ti85), (86, ti86), (100, ti100), (101, ti101), (103, ti103), (104, ti104), (105, ti105), (108, ti108), (110, ti110), (124, ti124), (136, ti136), (147, ti147), (148, ti148), (163, ti163)]
theorem tab_ok : tab.ok Try.prog := by
  refine List.forall_mem_cons.2 ⟨ti2_ok, List.forall_mem_cons.2 ⟨ti3_ok, List.forall_mem_cons.2 ⟨ti4_ok, List.forall_mem_cons.2 ⟨ti5_ok, List.forall_mem_cons.2 ⟨ti9_ok, List.forall_mem_cons.2 ⟨ti21_ok, List.forall_mem_cons.2 ⟨ti22_ok, List.forall_mem_cons.2 ⟨ti23_ok, List.forall_mem_cons.2 ⟨ti24_ok, List.forall_mem_cons.2 ⟨ti26_ok, List.forall_mem_cons.2 ⟨ti27_ok, List.forall_mem_cons.2 ⟨ti30_ok, List.forall_mem_cons.2 ⟨ti41_ok, List.forall_mem_cons.2 ⟨ti42_ok, List.forall_mem_cons.2 ⟨ti43_ok, List.forall_mem_cons.2 ⟨ti51_ok, List.forall_mem_cons.2 ⟨ti52_ok, List.forall_mem_cons.2 ⟨ti53_ok, List.forall_mem_cons.2 ⟨ti54_ok, List.forall_mem_cons.2 ⟨ti60_ok, List.forall_mem_cons.2 ⟨ti61_ok, List.forall_mem_cons.2 ⟨ti62_ok, List.forall_mem_cons.2 ⟨ti63_ok, List.forall_mem_cons.2 ⟨ti64_ok, List.forall_mem_cons.2 ⟨ti73_ok, List.forall_mem_cons.2 ⟨ti85_ok, List.forall_mem_cons.2 ⟨ti86_ok, List.forall_mem_cons.2 ⟨ti100_ok, List.forall_mem_cons.2 ⟨ti101_ok, List.forall_mem_cons.2 ⟨ti103_ok, List.forall_mem_cons.2 ⟨ti104_ok, List.forall_mem_cons.2 ⟨ti105_ok, List.forall_mem_cons.2 ⟨ti108_ok, List.forall_mem_cons.2 ⟨ti110_ok, List.forall_mem_cons.2 ⟨ti124_ok, List.forall_mem_cons.2 ⟨ti136_ok, List.forall_mem_cons.2 ⟨ti147_ok, List.forall_mem_cons.2 ⟨ti148_ok, List.forall_mem_cons.2 ⟨ti163_ok, fun p hp => by cases hp⟩⟩⟩⟩⟩⟩⟩⟩⟩⟩⟩⟩⟩⟩⟩⟩⟩⟩⟩⟩⟩⟩⟩⟩⟩⟩⟩⟩⟩⟩⟩⟩⟩⟩⟩⟩⟩⟩⟩
end Go.Proofs.Ytlagngkafllbiaa
