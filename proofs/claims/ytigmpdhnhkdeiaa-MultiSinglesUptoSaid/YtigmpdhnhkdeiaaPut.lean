/- The walks of the program's SHA-256: the schedule. -/
import Derived.Test.YtigmpdhnhkdeiaaA1
import Derived.BigQuiet
import Derived.BigRegion
import Derived.Deep.Draws
import Derived.Deep.LoopGhost
import Derived.Outline
import Derived.Lib.Hide
import Derived.Test.YtigmpdhnhkdeiaaA4
import Derived.Lib.BitFns
import Derived.Laws.BitsAllLaws
import Derived.Lib.Bytealg
set_option linter.unusedSimpArgs false
set_option linter.unusedVariables false
namespace Go.Proofs.Ytigmpdhnhkdeiaa
open Go Go.RowKit
abbrev W32 (x : BitVec 32) : Value := .int .u32 (n32 x)


theorem and31 : ∀ k : Fin 32, 0 < k.val → bits .and .u64 (IntKind.u64.wrap (-(k.val:Int))) 31 = 32 - (k.val : Int) := by decide +kernel
theorem rot_any (x : BitVec 32) (k : Nat) (hk : 0 < k) (hk2 : k < 32) (w : World) :
    Calls Try.prog 294 #[.int .u32 (n32 x), .int .i64 (-(k:Int))] w fun e w' => e = .returned (.int .u32 (n32 (ror x k))) ∧ w' = w := by
  have h1 : bits .and .u64 (IntKind.u64.wrap (-(k:Int))) 31 = (32 - (k : Int)) := and31 ⟨k, hk2⟩ hk
  have h2 : (0 : Int) ≤ 32 - (k:Int) := by omega
  have h3 : (32 - (k:Int)) ≤ 32 := by omega
  go_enter Try.func294, Try.ntmps294
  go_wp2
  go_ret
  refine ⟨?_, rfl⟩
  show Ending.returned (.int .u32 (bits BinOp.or IntKind.u32 (n32 x * 2 ^ (32 - k) % 4294967296) (n32 x / 2 ^ (32 - (32 - k))))) = _
  rw [u32_shl, u32_shr, u32_or, show 32 - (32 - k) = k by omega]; rfl
theorem right_any (x : BitVec 32) (k : Nat) (hk : 0 < k) (hk2 : k < 32) (w : World) :
    Calls Try.prog 276 #[.int .u32 (n32 x), .int .i64 k] w fun e w' => e = .returned (.int .u32 (n32 (ror x k))) ∧ w' = w := by
  go_enter Try.func276, Try.ntmps276
  go_wp2_with (go_at_call 294; refine (rot_any _ _ (by omega) (by omega) _).mono ?_; rintro e w' ⟨rfl, rfl⟩)
  go_ret
  exact ⟨rfl, rfl⟩

theorem right_int (x : BitVec 32) (n : Int) (h0 : 0 < n) (h1 : n < 32) (w : World) :
    Calls Try.prog 276 #[.int .u32 (n32 x), .int .i64 n] w fun e w' => e = .returned (.int .u32 (n32 (ror x n.toNat))) ∧ w' = w := by
  obtain ⟨k, rfl⟩ := Int.eq_ofNat_of_zero_le (Int.le_of_lt h0)
  exact right_any x k (by omega) (by omega) w
/-- The next cell of a row of words is filled. -/
theorem row_next (xs : List (BitVec 32)) (n : Nat) (x : BitVec 32) (hn : 0 < n) : ((xs ++ List.replicate n 0).map W32).toArray.setIfInBounds xs.length (W32 x) = ((xs ++ [x] ++ List.replicate (n - 1) 0).map W32).toArray := by
  obtain ⟨m, rfl⟩ : ∃ m, n = m + 1 := ⟨n - 1, by omega⟩
  simp [List.replicate_succ, List.set_append]

attribute [local go_sem] or_bytes u32_shr10 u32_shr3 u32_xor u32_and u32_or u32_add u32_add' u32_not
set_option maxRecDepth 100000 in
theorem schedule_any (bs : List UInt8) (hbs : bs.length = 64) (w : World) :
    Calls Try.prog 274 #[.agg (bs.map B8).toArray] w fun e w' => e = .returned (.agg ((sched (words bs 16) 48).map W32).toArray) ∧ Below w.heap.size w w' := by
  go_enter Try.func274, Try.ntmps274
  go_wp2
  go_loopw [4, 10] (fun _ i wr => ∃ k : Nat, k ≤ 16 ∧ i = .int .i64 k ∧ Blk wr w.heap.size 359 (bs.map B8).toArray ∧ (∃ c1 : Array Value, c1.size = 64 ∧ Blk wr (w.heap.size + 1) 391 c1) ∧
      Blk wr (w.heap.size + 1 + 1) 391 ((words bs k ++ List.replicate (64 - k) 0).map W32).toArray ∧ Below w.heap.size w wr) (fun _ i _ => 16 - (intOf i).toNat)
  case atStart =>
    refine ⟨0, by omega, rfl, ((Blk.new _ _ _).alloc _).alloc _, ⟨_, by rfl, (Blk.newAt _ _ _ (by simp)).alloc _⟩, by rw [words_zero]; exact Blk.newAt _ _ _ (by simp), ?_⟩
    exact (((Below.refl _ _).alloc (Nat.le_refl _) _).alloc (by simp) _).alloc (by simp; omega) _
  case round =>
    obtain ⟨k, hk, rfl, h1, ⟨c1, hc1, h2⟩, h3, hb⟩ := hrel
    by_cases hlt : k < 16
    · have a0 : wr.cell? ⟨w.heap.size, 4 * k, none⟩ = some (B8 (bs.getD (4 * k) 0)) := by rw [h1.cell]; simp [show 4 * k < bs.length by omega]
      have a1 : wr.cell? ⟨w.heap.size, 4 * k + 1, none⟩ = some (B8 (bs.getD (4 * k + 1) 0)) := by rw [h1.cell]; simp [show 4 * k + 1 < bs.length by omega]
      have a2 : wr.cell? ⟨w.heap.size, 4 * k + 2, none⟩ = some (B8 (bs.getD (4 * k + 2) 0)) := by rw [h1.cell]; simp [show 4 * k + 2 < bs.length by omega]
      have a3 : wr.cell? ⟨w.heap.size, 4 * k + 3, none⟩ = some (B8 (bs.getD (4 * k + 3) 0)) := by rw [h1.cell]; simp [show 4 * k + 3 < bs.length by omega]
      have a4 : wr.cell? ⟨w.heap.size + 1 + 1, k, none⟩ = some (W32 0) := by
        rw [h3.cell]; simp [List.getElem?_append, words_length, show 0 < 64 - k by omega]
      have a5 := h3.free k
      have b0 := (bs.getD (4 * k) 0).toNat_lt
      have b1 := (bs.getD (4 * k + 1) 0).toNat_lt
      have b2 := (bs.getD (4 * k + 2) 0).toNat_lt
      have b3 := (bs.getD (4 * k + 3) 0).toNat_lt
      have hn : ((words bs k ++ List.replicate (64 - k) 0).map W32).toArray.setIfInBounds k (W32 (wordAt bs k)) = ((words bs (k + 1) ++ List.replicate (64 - (k + 1)) 0).map W32).toArray := by
        have := row_next (words bs k) (64 - k) (wordAt bs k) (by omega)
        rw [words_length] at this; rw [this, words_succ, show 64 - k - 1 = 64 - (k + 1) by omega]
      have h3' : ∀ x, x = wordAt bs k → Blk (wr.setCell ⟨w.heap.size + 1 + 1, k, none⟩ (W32 x)) (w.heap.size + 1 + 1) 391 ((words bs (k + 1) ++ List.replicate (64 - (k + 1)) 0).map W32).toArray := by
        rintro x rfl; have := h3.put k (W32 (wordAt bs k)); rw [hn] at this; exact this
      have HX : Hid (wordAt bs k = word4 (bs.getD (4 * k) 0) (bs.getD (4 * k + 1) 0) (bs.getD (4 * k + 2) 0) (bs.getD (4 * k + 3) 0)) := wordAt_def _ _
      generalize bs.getD (4 * k) 0 = x0 at *
      generalize bs.getD (4 * k + 1) 0 = x1 at *
      generalize bs.getD (4 * k + 2) 0 = x2 at *
      generalize bs.getD (4 * k + 3) 0 = x3 at *
      have H1 := Lib.hid h1; have H2 := Lib.hid h2; have H3 := Lib.hid h3'; have HB := Lib.hid hb; have HC := Lib.hid hc1; clear h1 h2 h3 h3' hb hc1 hn
      go_wp2
      refine wp_region_T [31] [] (fun _ => True) (by kernel_rfl) (by kernel_rfl) trivial ?_
      repeat (first
        | (refine wpT_here (by rfl) (by rfl) (by rfl) (fun K hK => ?_); go_big_quiet_op; refine hK _ ?_; clear hK K)
        | (refine wpT_loud (by rfl) (by rfl) (fun K hK => ?_); go_big_op; refine hK _ _ trivial ?_; clear hK K))
      refine wpT_nil ?_
      go_wp2
      go_roundw
      case rel => exact ⟨k + 1, by omega, by go_num, (H1.out.far (by simp; omega) _).drew, ⟨c1, HC.out, (H2.out.far (by simp) _).drew⟩, (H3.out _ HX.out.symm).drew, (HB.out.setCell (by simp; omega) _).drew⟩
      case measure => simp [intOf]; omega
    · obtain rfl : k = 16 := by omega
      rw [show ((16 : Nat) : Int) = (16 : Int) from rfl]
      have H1 := Lib.hid h1; have H2 := Lib.hid h2; have H3 := Lib.hid h3; have HB := Lib.hid hb; have HC := Lib.hid hc1; clear h1 h2 h3 hb hc1
      go_wp2
      go_loopw [5, 6, 7, 8, 9] (fun i _ _ _ _ wr => ∃ t : Nat, 16 ≤ t ∧ t ≤ 64 ∧ i = .int .i64 t ∧ Blk wr w.heap.size 359 (bs.map B8).toArray ∧ (∃ c1 : Array Value, c1.size = 64 ∧ Blk wr (w.heap.size + 1) 391 c1) ∧
          Blk wr (w.heap.size + 1 + 1) 391 ((sched (words bs 16) (t - 16) ++ List.replicate (64 - t) 0).map W32).toArray ∧ Below w.heap.size w wr) (fun i _ _ _ _ _ => 64 - (intOf i).toNat)
      case atStart => exact ⟨16, by omega, by omega, rfl, H1.out, ⟨c1, HC.out, H2.out⟩, by rw [show 16 - 16 = 0 from rfl, sched_zero]; exact H3.out, HB.out⟩
      case round =>
        clear H1 H2 H3 HB HC hk hlt
        obtain ⟨t, ht1, ht2, rfl, h1, ⟨c1, hc1, h2⟩, h3, hb⟩ := hrel
        by_cases hlt : t < 64
        · have hl : (sched (words bs 16) (t - 16)).length = t := by rw [sched_length, words_length]; omega
          have HN : Hid (sched (words bs 16) (t + 1 - 16) = sched (words bs 16) (t - 16) ++ [nextWord (sched (words bs 16) (t - 16))]) := by
            rw [show t + 1 - 16 = (t - 16) + 1 by omega]; exact sched_succ _ _
          generalize sched (words bs 16) (t - 16) = s at *
          have cell : ∀ i, i < t → wr.cell? ⟨w.heap.size + 1 + 1, i, none⟩ = some (W32 (s.getD i 0)) := by
            intro i hi; rw [h3.cell]; simp [List.getElem?_append, hl, hi]
          have a2 := cell (t - 2) (by omega)
          have a7 := cell (t - 7) (by omega)
          have a15 := cell (t - 15) (by omega)
          have a16 := cell (t - 16) (by omega)
          have at_ : wr.cell? ⟨w.heap.size + 1 + 1, t, none⟩ = some (W32 0) := by
            rw [h3.cell]; simp [List.getElem?_append, hl, show 0 < 64 - t by omega]
          have af := h3.free t
          have HX : Hid (nextWord s = sg1 (s.getD (t - 2) 0) + s.getD (t - 7) 0 + sg0 (s.getD (t - 15) 0) + s.getD (t - 16) 0) := by unfold nextWord; rw [hl]; exact rfl
          have hn : ((s ++ List.replicate (64 - t) 0).map W32).toArray.setIfInBounds t (W32 (nextWord s)) = (((s ++ [nextWord s]) ++ List.replicate (64 - (t + 1)) 0).map W32).toArray := by
            have := row_next s (64 - t) (nextWord s) (by omega)
            rw [hl] at this; rw [this, show 64 - t - 1 = 64 - (t + 1) by omega]
          have h3' : ∀ x, x = nextWord s → Blk (wr.setCell ⟨w.heap.size + 1 + 1, t, none⟩ (W32 x)) (w.heap.size + 1 + 1) 391 (((s ++ [nextWord s]) ++ List.replicate (64 - (t + 1)) 0).map W32).toArray := by
            rintro x rfl; have := h3.put t (W32 (nextWord s)); rw [hn] at this; exact this
          have H1 := Lib.hid h1; have H2 := Lib.hid h2; have H3 := Lib.hid h3'; have HB := Lib.hid hb; have HC := Lib.hid hc1; have HL := Lib.hid hl
          clear h1 h2 h3 h3' hb hc1 hn cell hl
          generalize s.getD (t - 2) 0 = x2 at *
          generalize s.getD (t - 7) 0 = x7 at *
          generalize s.getD (t - 15) 0 = x15 at *
          generalize s.getD (t - 16) 0 = x16 at *
          go_wp2
          refine wp_region_T [] [] (fun _ => True) (by kernel_rfl) (by kernel_rfl) trivial ?_
          repeat (first
            | (refine wpT_here (by rfl) (by rfl) (by rfl) (fun K hK => ?_); go_big_quiet_op; refine hK _ ?_; clear hK K)
            | (refine wpT_loud (by rfl) (by rfl) (fun K hK => ?_); go_big_op; refine hK _ _ trivial ?_; clear hK K))
          refine wpT_nil ?_
          go_wp2_with (go_at_call 276; refine (right_int _ _ (by omega) (by omega) _).mono ?_; rintro e w' ⟨rfl, rfl⟩)
          refine wp_region_T [15] [] (fun _ => True) (by kernel_rfl) (by kernel_rfl) trivial ?_
          repeat (first
            | (refine wpT_here (by rfl) (by rfl) (by rfl) (fun K hK => ?_); go_big_quiet_op; refine hK _ ?_; clear hK K)
            | (refine wpT_loud (by rfl) (by rfl) (fun K hK => ?_); go_big_op; refine hK _ _ trivial ?_; clear hK K))
          refine wpT_nil ?_
          go_wp2
          go_roundw
          case rel =>
            refine ⟨t + 1, by omega, by omega, by go_num, (H1.out.far (by simp; omega) _).drew.drew, ⟨c1, HC.out, (H2.out.far (by simp) _).drew.drew⟩, ?_, (HB.out.setCell (by simp; omega) _).drew.drew⟩
            rw [HN.out]
            exact (H3.out _ HX.out.symm).drew.drew
          case measure => simp [intOf]; omega
        · obtain rfl : t = 64 := by omega
          rw [show ((64 : Nat) : Int) = (64 : Int) from rfl]
          have hl : ((sched (words bs 16) 48).map W32).length = 64 := by simp [sched_length, words_length]
          have h3' : Blk wr (w.heap.size + 1 + 1) 391 ((sched (words bs 16) 48).map W32).toArray := by simpa using h3
          have H1 := Lib.hid h1; have H2 := Lib.hid h2; have H3 := Lib.hid h3'; have HB := Lib.hid hb; have HC := Lib.hid hc1; have HL := Lib.hid hl
          clear h1 h2 h3 h3' hb hc1 hl
          go_wp2_with (first
            | (refine wpList_ldAll rfl 391 _ rfl H3.out rfl (by kernel_rfl) (by rw [HL.out]; kernel_rfl) ?_)
            | (refine wpList_stAll rfl 391 _ _ rfl H2.out rfl rfl (by rw [HL.out]; kernel_rfl) (by rw [HL.out, HC.out]) (one_map _ _ fun _ => rfl) ?_))
          refine bodyPost_ret (results_ldAll (mid := (sched (words bs 16) 48).map W32) rfl _ (H2.out.row _) rfl (by kernel_rfl) (by rw [HL.out]; kernel_rfl)) rfl ⟨rfl, Below.row HB.out (by omega) _⟩
end Go.Proofs.Ytigmpdhnhkdeiaa
/- The walks of the program's SHA-256: the block step. -/
namespace Go.Proofs.Ytigmpdhnhkdeiaa
open Go Go.RowKit
abbrev S8.arr (s : S8) : Array Value := #[W32 s.a, W32 s.b, W32 s.c, W32 s.d, W32 s.e, W32 s.f, W32 s.g, W32 s.h]
set_option maxRecDepth 100000 in
theorem constants_any (w : World) : Calls Try.prog 275 #[] w fun e w' => e = .returned (.agg (kList.map W32).toArray) ∧ Below w.heap.size w w' := by
  go_enter Try.func275, Try.ntmps275
  go_wp2_with (first
    | (refine wpList_build rfl 391 _ rfl (.agg (kList.map W32).toArray) (fun _ => by kernel_rfl) ?_)
    | (refine wpList_stAll rfl 391 _ _ rfl (Blk.new _ _ _) rfl rfl (by kernel_rfl) (by rw [List.length_map, kList_length]; rfl) (one_map _ _ fun _ => rfl) ?_))
  refine bodyPost_ret (results_ldAll (mid := kList.map W32) rfl _ (g := w.heap.size) (t := 391) ?_ rfl (by kernel_rfl) (by kernel_rfl)) rfl ⟨rfl, ?_⟩
  · exact (Blk.new _ _ _).row _
  · exact Below.row ((Below.refl _ _).alloc (Nat.le_refl _) _) (Nat.le_refl _) _
end Go.Proofs.Ytigmpdhnhkdeiaa
/- The walks of the program's SHA-256: the block step. -/
namespace Go.Proofs.Ytigmpdhnhkdeiaa
open Go Go.RowKit
attribute [local go_sem] or_bytes u32_shr10 u32_shr3 u32_xor u32_and u32_or u32_add u32_add' u32_not u32_not'
set_option maxRecDepth 100000 in
theorem step_any (s : S8) (bs : List UInt8) (hbs : bs.length = 64) (w : World) :
    Calls Try.prog 241 #[.agg s.arr, .agg (bs.map B8).toArray] w fun e w' => e = .returned (.agg (step s bs).arr) ∧ Below w.heap.size w w' := by
  have hsl : ((sched (words bs 16) 48).map W32).length = 64 := by simp [sched_length, words_length]
  have hbl : (bs.map B8).length = 64 := by simpa using hbs
  have HSL := Lib.hid hsl; have HBL := Lib.hid hbl; clear hsl hbl
  have HBS := Lib.hid hbs; clear hbs
  go_enter Try.func241, Try.ntmps241
  go_wp2_with (refine wpList_ldAll rfl 359 _ rfl (g := w.heap.size + 1) (t := 359) (mid := bs.map B8) ((Blk.newAt _ _ _ (by simp)).alloc _) rfl (by kernel_rfl) (by rw [HBL.out]; kernel_rfl) ?_)
  refine (schedule_any _ HBS.out _).mono ?_
  rintro e w1 ⟨rfl, hb1⟩; have HB1 := Lib.hid hb1; clear hb1

  go_wp2_with fail

  refine (constants_any _).mono ?_
  rintro e w2 ⟨rfl, hb2⟩; have HB2 := Lib.hid hb2; clear hb2
  dsimp only
  iterate 7 go_step
  refine wpList_stAll rfl 391 (.tmp 5) _ rfl ((Blk.new _ _ _).alloc _) rfl rfl (by rw [HSL.out]; kernel_rfl) (by rw [HSL.out]; rfl) (one_map _ _ fun _ => rfl) ?_
  refine wpList_stAll rfl 391 (.tmp 6) _ rfl ((Blk.newAt _ _ _ (by simp)).rowFar (by simp) _) rfl rfl (by kernel_rfl) (by rw [List.length_map, kList_length]; rfl) (one_map _ _ fun _ => rfl) ?_
  have hz1 : w.heap.size + 1 + 1 + 1 ≤ w1.heap.size := by have := HB1.out.size; simpa using this
  have hz2 : w1.heap.size ≤ w2.heap.size := HB2.out.size
  refine wpList_forget (fun w3 => Blk w3 w.heap.size 357 s.arr ∧ (∃ z, z.size = 8 ∧ Blk w3 (w.heap.size + 1 + 1) 357 z) ∧ Blk w3 w2.heap.size 391 ((sched (words bs 16) 48).map W32).toArray ∧ Blk w3 (w2.heap.size + 1) 391 (kList.map W32).toArray ∧ Below w.heap.size w w3 ∧ w2.heap.size + 1 < w3.heap.size) ?_ ?_
  · have b0 : Blk w1 w.heap.size 357 s.arr := (((Blk.new _ _ _).alloc _).alloc _).below HB1.out (by simp; omega)
    have b2 : Blk w1 (w.heap.size + 1 + 1) 357 _ := (Blk.newAt _ _ _ (by simp)).below HB1.out (by simp)
    have bb : Below w.heap.size w w1 := ((((Below.refl _ _).alloc (Nat.le_refl _) _).alloc (by simp) _).alloc (by simp; omega) _).trans (HB1.out.mono (by simp; omega))
    refine ⟨((((b0.below HB2.out (by omega)).alloc _).alloc _).rowFar (by omega) _).rowFar (by omega) _, ⟨_, by rfl, ((((b2.below HB2.out (by omega)).alloc _).alloc _).rowFar (by omega) _).rowFar (by omega) _⟩,
      (((Blk.new _ _ _).alloc _).row _).rowFar (by omega) _, ((Blk.newAt _ _ _ (by simp)).rowFar (by simp) _).row _, ?_, by simp⟩
    exact Below.row (Below.row (((bb.trans (HB2.out.mono (by omega))).alloc (by omega) _).alloc (by simp; omega) _) (by omega) _) (by omega) _
  rintro w3 ⟨c1, ⟨z, hz, c2⟩, c3, c4, c5, hz3⟩
  have C1 := Lib.hid c1; have C2 := Lib.hid c2; have C3 := Lib.hid c3; have C4 := Lib.hid c4; have C5 := Lib.hid c5; have HZ := Lib.hid hz
  clear c1 c2 c3 c4 c5 hz HB1 HB2
  go_wp2_with ((with_reducible show wpList _ _ _ _ _ _); refine wpList_ldAll rfl 357 (.tmp 2) rfl (mid := s.arr.toList) C1.out rfl (by kernel_rfl) (by kernel_rfl) ?_)
  have HB0 := Lib.hid ((C5.out.alloc (by have := C5.out.size; omega) (Obj.cells s.arr 357)))
  have H7 : Hid (Blk (w3.alloc (Obj.cells s.arr 357)) w3.heap.size 357 s.arr) := Blk.new _ _ _
  have hw3 : w.heap.size + 1 + 1 < w3.heap.size := by omega
  go_loopw [8, 9, 10, 11, 12, 18] (fun _ _ _ _ _ i wr => ∃ t : Nat, t ≤ 64 ∧ i = .int .i64 t ∧ Blk wr w.heap.size 357 s.arr ∧ (∃ z : Array Value, z.size = 8 ∧ Blk wr (w.heap.size + 1 + 1) 357 z) ∧
      Blk wr w2.heap.size 391 ((sched (words bs 16) 48).map W32).toArray ∧ Blk wr (w2.heap.size + 1) 391 (kList.map W32).toArray ∧ Blk wr w3.heap.size 357 (rnds (sched (words bs 16) 48) s t).arr ∧ Below w.heap.size w wr)
    (fun _ _ _ _ _ i _ => 64 - (intOf i).toNat)
  case atStart => exact ⟨0, by omega, rfl, C1.out.alloc _, ⟨z, HZ.out, C2.out.alloc _⟩, C3.out.alloc _, C4.out.alloc _, by rw [rnds_zero]; exact H7.out, HB0.out⟩
  case round =>
    obtain ⟨t, ht, rfl, d1, ⟨z2, hz2', d2⟩, d3, d4, d5, d6⟩ := hrel
    clear C1 C2 C3 C4 C5 HZ HB0 H7
    by_cases hlt : t < 64
    · have HN := Lib.hid (rnds_succ (sched (words bs 16) 48) s t)
      have k1 : wr.cell? ⟨w2.heap.size + 1, t, none⟩ = some (W32 (kList.getD t 0)) := by
        rw [d4.cell]; have := kList_length; simp [show t < kList.length by omega]
      have k2 : wr.cell? ⟨w2.heap.size, t, none⟩ = some (W32 ((sched (words bs 16) 48).getD t 0)) := by
        rw [d3.cell]; have := HSL.out; simp only [List.length_map] at this; simp [show t < (sched (words bs 16) 48).length by omega]
      generalize kList.getD t 0 = kt at *
      generalize (sched (words bs 16) 48).getD t 0 = wt at *
      have r0 : wr.cell? ⟨w3.heap.size, 0, none⟩ = some (W32 (rnds (sched (words bs 16) 48) s t).a) := d5.cell 0
      have r1 : wr.cell? ⟨w3.heap.size, 1, none⟩ = some (W32 (rnds (sched (words bs 16) 48) s t).b) := d5.cell 1
      have r2 : wr.cell? ⟨w3.heap.size, 2, none⟩ = some (W32 (rnds (sched (words bs 16) 48) s t).c) := d5.cell 2
      have r3 : wr.cell? ⟨w3.heap.size, 3, none⟩ = some (W32 (rnds (sched (words bs 16) 48) s t).d) := d5.cell 3
      have r4 : wr.cell? ⟨w3.heap.size, 4, none⟩ = some (W32 (rnds (sched (words bs 16) 48) s t).e) := d5.cell 4
      have r5 : wr.cell? ⟨w3.heap.size, 5, none⟩ = some (W32 (rnds (sched (words bs 16) 48) s t).f) := d5.cell 5
      have r6 : wr.cell? ⟨w3.heap.size, 6, none⟩ = some (W32 (rnds (sched (words bs 16) 48) s t).g) := d5.cell 6
      have r7 : wr.cell? ⟨w3.heap.size, 7, none⟩ = some (W32 (rnds (sched (words bs 16) 48) s t).h) := d5.cell 7
      have D1 := Lib.hid d1; have D2 := Lib.hid d2; have D3 := Lib.hid d3; have D4 := Lib.hid d4; have D5 := Lib.hid d5; have D6 := Lib.hid d6; have HX := Lib.hid HN.out; have HZ := Lib.hid hz2'
      clear d1 d2 d3 d4 d5 d6 HN hz2'
      generalize rnds (sched (words bs 16) 48) s t = r at *
      go_wp2
      refine wp_region_T [] [] (fun _ => True) (by kernel_rfl) (by kernel_rfl) trivial ?_
      repeat (first
        | (refine wpT_here (by rfl) (by rfl) (by rfl) (fun K hK => ?_); go_big_quiet_op; refine hK _ ?_; clear hK K)
        | (refine wpT_loud (by rfl) (by rfl) (fun K hK => ?_); go_big_op; refine hK _ _ trivial ?_; clear hK K))
      refine wpT_nil ?_
      go_wp2
      refine wp_region_T [3, 5, 8] [0, 1, 4, 6, 7, 11, 12, 13, 14, 15, 16, 17, 18, 19, 20, 22, 23, 24, 26, 27, 28] (fun w' => w' = wr.drew.drew) (by kernel_rfl) (by kernel_rfl) rfl ?_
      repeat (first
        | (refine wpT_here (by rfl) (by rfl) (by rfl) (fun K hK => ?_); go_big_quiet_op; refine hK _ ?_; clear hK K)
        | (refine wpT_amb (by rfl) (by rfl) (by rfl) rfl (fun K hK => ?_); go_big_quiet_op; refine hK _ ?_; clear hK K)
        | (refine wpT_loud (by rfl) (by rfl) (fun K hK => ?_); go_step; refine (right_int _ _ (by omega) (by omega) _).mono ?_; rintro e w' ⟨rfl, rfl⟩; dsimp only; refine hK _ _ rfl ?_; clear hK K))
      refine wpT_nil ?_
      go_wp2
      refine wp_region_T [1, 3, 6] [2, 4, 5, 8, 9, 10, 11, 12, 13, 14, 15, 16, 17, 18, 19, 20, 21, 22] (fun w' => w' = wr.drew.drew.drew) (by kernel_rfl) (by kernel_rfl) rfl ?_
      repeat (first
        | (refine wpT_here (by rfl) (by rfl) (by rfl) (fun K hK => ?_); go_big_quiet_op; refine hK _ ?_; clear hK K)
        | (refine wpT_amb (by rfl) (by rfl) (by rfl) rfl (fun K hK => ?_); go_big_quiet_op; refine hK _ ?_; clear hK K)
        | (refine wpT_loud (by rfl) (by rfl) (fun K hK => ?_); go_step; refine (right_int _ _ (by omega) (by omega) _).mono ?_; rintro e w' ⟨rfl, rfl⟩; dsimp only; refine hK _ _ rfl ?_; clear hK K))
      refine wpT_nil ?_
      go_wp2_with ((with_reducible show wpList _ _ _ _ _ _); refine wpList_stAll rfl 357 (.tmp 7) _ rfl D5.out rfl rfl (by kernel_rfl) rfl (by simp [Value.oneCell']) ?_)
      go_roundw
      case rel =>
        exact ⟨t + 1, by omega, by go_num, D1.out.drew.drew.drew.rowFar (by omega) _, ⟨z2, HZ.out, D2.out.drew.drew.drew.rowFar (by omega) _⟩, D3.out.drew.drew.drew.rowFar (by omega) _, D4.out.drew.drew.drew.rowFar (by omega) _, by rw [HX.out, u32_sum5, u32_sum14]; exact D5.out.drew.drew.drew.row _, Below.row D6.out.drew.drew.drew (by omega) _⟩
      case measure => simp [intOf]; omega
    · obtain rfl : t = 64 := by omega
      rw [show ((64 : Nat) : Int) = (64 : Int) from rfl]
      have D1 := Lib.hid d1; have D2 := Lib.hid d2; have D5 := Lib.hid d5; have D6 := Lib.hid d6; have HZ := Lib.hid hz2'; have HD := Lib.hid (step_def s bs)
      clear d1 d2 d3 d4 d5 d6 hz2'
      obtain ⟨r, hr⟩ : ∃ r, r = rnds (sched (words bs 16) 48) s 64 := ⟨_, rfl⟩
      rw [← hr] at D5 HD
      clear hr
      go_wp2
      go_loopw [13, 98] (fun _ i wr' => ∃ k : Nat, k ≤ 8 ∧ i = .int .i64 k ∧ Blk wr' w.heap.size 357 ((mix s r k).map W32).toArray ∧ (∃ z : Array Value, z.size = 8 ∧ Blk wr' (w.heap.size + 1 + 1) 357 z) ∧
          Blk wr' w3.heap.size 357 (r.l.map W32).toArray ∧ Below w.heap.size w wr') (fun _ i _ => 8 - (intOf i).toNat)
      case atStart => exact ⟨0, by omega, rfl, by rw [mix_zero]; exact D1.out, ⟨z2, HZ.out, D2.out⟩, D5.out, D6.out⟩
      case round =>
        obtain ⟨k, hk, rfl, e1, ⟨z3, hz3', e2⟩, e5, e6⟩ := hrel
        clear D1 D2 D5 D6 HZ
        by_cases hlk : k < 8
        · have hl : r.l.length = 8 := rfl
          have k1 : wr.cell? ⟨w.heap.size, k, none⟩ = some (W32 (s.l.getD k 0)) := by
            rw [e1.cell]; simp [mix_at s r k hlk]
          have k2 : wr.cell? ⟨w3.heap.size, k, none⟩ = some (W32 (r.l.getD k 0)) := by
            rw [e5.cell]; simp [show k < r.l.length by omega]
          have k3 := e1.free k
          have hs : Blk (wr.setCell ⟨w.heap.size, k, none⟩ (W32 (s.l.getD k 0 + r.l.getD k 0))) w.heap.size 357 ((mix s r (k + 1)).map W32).toArray := by
            have := e1.put k (W32 (s.l.getD k 0 + r.l.getD k 0))
            rw [List.setIfInBounds_toArray, ← List.map_set, mix_set s r k hlk] at this
            exact this
          generalize s.l.getD k 0 = x at *
          generalize r.l.getD k 0 = y at *
          have E1 := Lib.hid hs; have E2 := Lib.hid e2; have E5 := Lib.hid e5; have E6 := Lib.hid e6; have HZ := Lib.hid hz3'
          clear e1 e2 e5 e6 hz3' hs hl
          go_wp2
          refine wp_region_T [8] [] (fun _ => True) (by kernel_rfl) (by kernel_rfl) trivial ?_
          repeat (first
            | (refine wpT_here (by rfl) (by rfl) (by rfl) (fun K hK => ?_); go_big_quiet_op; refine hK _ ?_; clear hK K)
            | (refine wpT_loud (by rfl) (by rfl) (fun K hK => ?_); go_big_op; refine hK _ _ trivial ?_; clear hK K))
          refine wpT_nil ?_
          go_wp2
          go_roundw
          case rel => exact ⟨k + 1, by omega, by go_num, E1.out.drew, ⟨z3, HZ.out, (E2.out.farAt (by omega) _).drew⟩, (E5.out.farAt (by omega) _).drew, (below_putAt E6.out (by omega) _).drew⟩
          case measure => simp [intOf]; omega
        · obtain rfl : k = 8 := by omega
          rw [show ((8 : Nat) : Int) = (8 : Int) from rfl]
          rw [mix_eight] at e1
          have E1 := Lib.hid e1; have E2 := Lib.hid e2; have E6 := Lib.hid e6; have HZ := Lib.hid hz3'
          clear e1 e2 e5 e6 hz3'
          go_wp2_with ((with_reducible show wpList _ _ _ _ _ _); first
            | (refine wpList_ldAll rfl 357 (.tmp 2) rfl E1.out rfl (by kernel_rfl) (by kernel_rfl) ?_)
            | (refine wpList_stAll rfl 357 (.tmp 4) _ rfl E2.out rfl rfl (by kernel_rfl) HZ.out (one_map _ _ fun _ => rfl) ?_))
          refine bodyPost_ret (results_ldAll (mid := (addS s r).l.map W32) rfl _ (E2.out.row _) rfl (by kernel_rfl) (by kernel_rfl)) rfl ⟨?_, Below.row E6.out (by omega) _⟩
          rw [HD.out]; rfl
end Go.Proofs.Ytigmpdhnhkdeiaa
/- The walks of the reference's SHA-256: words, the block step. -/
namespace Go.Proofs.Ytigmpdhnhkdeiaa
open Go Go.RowKit
end Go.Proofs.Ytigmpdhnhkdeiaa
/- The walks of the reference's SHA-256: words. -/
namespace Go.Proofs.Ytigmpdhnhkdeiaa
open Go Go.RowKit
attribute [local go_sem] or_bytes u32_shr10 u32_shr3 u32_xor u32_and u32_or u32_add u32_add' u32_not u32_next u32_sum3 u32_sum4
end Go.Proofs.Ytigmpdhnhkdeiaa
/- The walks of the reference's SHA-256: the block step. -/
namespace Go.Proofs.Ytigmpdhnhkdeiaa
open Go Go.RowKit
attribute [local go_sem] or_bytes u32_shr10 u32_shr3 u32_xor u32_and u32_or u32_add u32_add' u32_not u32_not' u32_not2
end Go.Proofs.Ytigmpdhnhkdeiaa
/- The walk of the reference's SHA-256 of a list of bytes. -/
namespace Go.Proofs.Ytigmpdhnhkdeiaa
open Go Go.RowKit
end Go.Proofs.Ytigmpdhnhkdeiaa
/- Contracts in memory made contracts in values: the block step of SHA-256, the document's sum. -/
namespace Go.Proofs.Ytigmpdhnhkdeiaa
open Go Go.RowKit
section
variable {P : Program}
theorem VC.ofA {f : FuncId} {args : List AV} {res : AV} (hf : Fok P f)
    (h : ∀ (w : World) (N : Gh) (vs : List Value), Mem N w → vs.length = args.length → (∀ (i : Nat) x v, args[i]? = some x → vs[i]? = some v → RV N x v) →
      Calls P f vs.toArray w fun e w' => ∃ v, e = .returned v ∧ Below w.heap.size w w' ∧ RV N res v) : VC P f args [] res := by
  refine ⟨hf, fun w N vs hI hl hv => (h w N vs hI.mem hl hv).mono ?_⟩
  rintro e w' ⟨v, rfl, hb, hr⟩
  exact ⟨N, v, rfl, hI.keep (fun k hk => hb.block k hk) hb.size hb.os hb.tape hb.output, hr⟩
theorem two {args : List AV} {vs : List Value} {N : Gh} {x y : AV} (hl : vs.length = [x, y].length) (hv : ∀ (i : Nat) a v, [x, y][i]? = some a → vs[i]? = some v → RV N a v) : ∃ u v, vs = [u, v] ∧ RV N x u ∧ RV N y v := by
  match vs, hl with
  | [u, v], _ => exact ⟨u, v, rfl, hv 0 x u rfl rfl, hv 1 y v rfl rfl⟩
theorem one_ {vs : List Value} {N : Gh} {x : AV} (hl : vs.length = [x].length) (hv : ∀ (i : Nat) a v, [x][i]? = some a → vs[i]? = some v → RV N a v) : ∃ u, vs = [u] ∧ RV N x u := by
  match vs, hl with
  | [u], _ => exact ⟨u, rfl, hv 0 x u rfl rfl⟩
/-- The eight words. -/
def s8v (s : S8) : AV := .st [.v (W32 s.a), .v (W32 s.b), .v (W32 s.c), .v (W32 s.d), .v (W32 s.e), .v (W32 s.f), .v (W32 s.g), .v (W32 s.h)]
def s8T : Ty := .cn .sc (.cn .sc (.cn .sc (.cn .sc (.cn .sc (.cn .sc (.cn .sc (.cn .sc .nl)))))))
theorem s8v_inv {g : Gh} {s : S8} {u : Value} (h : RV g (s8v s) u) : u = .agg s.arr := by
  obtain ⟨T, cs, _, hr, rfl⟩ := h.st_inv
  unfold s8v at *
  cases hr with | cn h1 hr => cases h1; cases hr with | cn h1 hr => cases h1; cases hr with | cn h1 hr => cases h1; cases hr with | cn h1 hr => cases h1; cases hr with | cn h1 hr => cases h1; cases hr with | cn h1 hr => cases h1; cases hr with | cn h1 hr => cases h1; cases hr with | cn h1 hr => cases h1; cases hr; rfl
theorem s8v_rc (g : Gh) (s : S8) : RC g s8T (s8v s) s.arr.toList := by
  show RC g s8T (s8v s) ([_] ++ ([_] ++ ([_] ++ ([_] ++ ([_] ++ ([_] ++ ([_] ++ ([_] ++ []))))))))
  exact .cn (.v rfl) (.cn (.v rfl) (.cn (.v rfl) (.cn (.v rfl) (.cn (.v rfl) (.cn (.v rfl) (.cn (.v rfl) (.cn (.v rfl) .nl)))))))
end
theorem step_v (s : S8) (b : List UInt8) (hb : b.length = 64) : VC Try.prog 241 [s8v s, .ba b] [] (s8v (step s b)) := by
  refine VC.ofA ⟨_, Try.func241, by kernel_rfl, by kernel_rfl⟩ fun w N vs hM hl hv => ?_
  obtain ⟨u, v, rfl, h1, h2⟩ := two (args := []) hl hv
  have e1 := s8v_inv h1; have e2 := h2.ba_inv
  subst e1 e2
  refine (step_any s b hb w).mono ?_
  rintro e w' ⟨rfl, hw⟩
  exact ⟨_, rfl, hw, (show RV1 N (s8v (step s b)) _ from .inl ⟨s8T, _, rfl, s8v_rc N _, rfl⟩).rv⟩
end Go.Proofs.Ytigmpdhnhkdeiaa
/- How many bits a byte has: math/bits. -/
namespace Go.Proofs.Ytigmpdhnhkdeiaa
open Go Go.RowKit
set_option maxHeartbeats 1000000 in
set_option maxRecDepth 100000 in
theorem len8_any (x : Int) (w : World) (h0 : 0 ≤ x) (h1 : x ≤ 255) : Calls Try.prog 280 #[.int .u8 x] w fun e w' => e = .returned (.int .i64 (Lib.bitLen x.toNat)) ∧ w' = w := by
  rw [← Lib.len8_int x h0 h1]
  go_enter Try.func280, Try.ntmps280
  go_wp2
  go_ret
  refine ⟨?_, rfl⟩
  generalize Lib.len8 x = y
  have e : wrap64 y = (y + 9223372036854775808) % 18446744073709551616 - 9223372036854775808 := by unfold wrap64; rfl
  show Ending.returned (.int .i64 (wrap64 y)) = _
  rw [e]
theorem len8_v (c : UInt8) : VC Try.prog 280 [.v (B8 c)] [] (.v (.int .i64 (Lib.bitLen c.toNat))) := by
  refine VC.ofA ⟨_, Try.func280, by kernel_rfl, by kernel_rfl⟩ fun w N vs hM hl hv => ?_
  obtain ⟨u, rfl, h1⟩ := one_ hl hv
  have e1 := h1.v_inv
  subst e1
  have hc := c.toNat_lt
  refine (len8_any c.toNat w (by omega) (by omega)).mono fun e w' hp => ?_
  obtain ⟨rfl, rfl⟩ := hp
  exact ⟨_, rfl, Below.refl _ _, by rw [Int.toNat_natCast]; exact RV.v_of rfl⟩
end Go.Proofs.Ytigmpdhnhkdeiaa
/- The types of the program, as they lie in memory. By program (gen_tab.py). -/
namespace Go.Proofs.Ytigmpdhnhkdeiaa
open Go Go.RowKit
abbrev ti5 : TI := ⟨.int .u8, .sc, (.v (.int .u8 0)), 1⟩
abbrev ti44 : TI := ⟨.rcd [(0, 22)], (.cn .sc (.nl)), (.st [(.v (.slice none 0 0))]), 24⟩
abbrev ti54 : TI := ⟨.rcd [(0, 51), (1, 52), (33, 50), (65, 50)], (.cn .sc (.cn (.ba 32) (.cn (.ba 32) (.cn (.ba 32) (.nl))))), (.st [(.v (.int .u8 0)), (.ba (List.replicate 32 0)), (.ba (List.replicate 32 0)), (.ba (List.replicate 32 0))]), 97⟩
abbrev ti68 : TI := ⟨.rcd [(0, 64), (1, 66)], (.cn .sc (.cn (.cn .sc (.cn (.ba 32) (.cn (.ba 32) (.cn (.ba 32) (.cn (.ba 32) (.nl)))))) (.nl))), (.st [(.v (.slice none 0 0)), (.st [(.v (.int .u8 0)), (.ba (List.replicate 32 0)), (.ba (List.replicate 32 0)), (.ba (List.replicate 32 0)), (.ba (List.replicate 32 0))])]), 160⟩
abbrev ti76 : TI := ⟨.rcd [(0, 4), (1, 50)], (.cn .sc (.cn (.ba 32) (.nl))), (.st [(.v (.bool false)), (.ba (List.replicate 32 0))]), 33⟩
abbrev ti288 : TI := ⟨.rcd [(0, 22), (1, 50), (33, 196)], (.cn .sc (.cn (.ba 32) (.cn .sc (.nl)))), (.st [(.v (.slice none 0 0)), (.ba (List.replicate 32 0)), (.v (.slice none 0 0))]), 80⟩
abbrev ti361 : TI := ⟨.rcd [(0, 4), (1, 357), (9, 359), (73, 3), (74, 3)], (.cn .sc (.cn (.cn .sc (.cn .sc (.cn .sc (.cn .sc (.cn .sc (.cn .sc (.cn .sc (.cn .sc (.nl))))))))) (.cn (.ba 64) (.cn .sc (.cn .sc (.nl)))))), (.st [(.v (.bool false)), (.st [(.v (.int .u32 0)), (.v (.int .u32 0)), (.v (.int .u32 0)), (.v (.int .u32 0)), (.v (.int .u32 0)), (.v (.int .u32 0)), (.v (.int .u32 0)), (.v (.int .u32 0))]), (.ba (List.replicate 64 0)), (.v (.int .i64 0)), (.v (.int .i64 0))]), 120⟩
def tab : Tab := [
(2, ⟨.int .i64, .sc, (.v (.int .i64 0)), 8⟩),
(3, ⟨.int .i64, .sc, (.v (.int .i64 0)), 8⟩),
(4, ⟨.bool, .sc, (.v (.bool false)), 1⟩),
(5, ⟨.int .u8, .sc, (.v (.int .u8 0)), 1⟩),
(9, ⟨.str, .sc, (.v (.string ⟨#[]⟩)), 16⟩),
(21, ⟨.int .i32, .sc, (.v (.int .i32 0)), 4⟩),
(22, ⟨.slc 54, .sc, (.v (.slice none 0 0)), 24⟩),
(23, ⟨.slc 26, .sc, (.v (.slice none 0 0)), 24⟩),
(24, ⟨.rcd [(0, 22), (1, 23)], (.cn .sc (.cn .sc (.nl))), (.st [(.v (.slice none 0 0)), (.v (.slice none 0 0))]), 48⟩),
(25, ⟨.rcd [(0, 22), (1, 23)], (.cn .sc (.cn .sc (.nl))), (.st [(.v (.slice none 0 0)), (.v (.slice none 0 0))]), 48⟩),
(26, ⟨.slc 5, .sc, (.v (.slice none 0 0)), 24⟩),
(29, ⟨.int .i64, .sc, (.v (.int .i64 0)), 8⟩),
(42, ⟨.slc 52, .sc, (.v (.slice none 0 0)), 24⟩),
(43, ⟨.rcd [(0, 22)], (.cn .sc (.nl)), (.st [(.v (.slice none 0 0))]), 24⟩),
(44, ⟨.rcd [(0, 22)], (.cn .sc (.nl)), (.st [(.v (.slice none 0 0))]), 24⟩),
(46, ⟨.slc 56, .sc, (.v (.slice none 0 0)), 24⟩),
(49, ⟨.arr 32 5, (.ba 32), (.ba (List.replicate 32 0)), 32⟩),
(50, ⟨.arr 32 5, (.ba 32), (.ba (List.replicate 32 0)), 32⟩),
(51, ⟨.int .u8, .sc, (.v (.int .u8 0)), 1⟩),
(52, ⟨.arr 32 5, (.ba 32), (.ba (List.replicate 32 0)), 32⟩),
(53, ⟨.rcd [(0, 51), (1, 52), (33, 50), (65, 50)], (.cn .sc (.cn (.ba 32) (.cn (.ba 32) (.cn (.ba 32) (.nl))))), (.st [(.v (.int .u8 0)), (.ba (List.replicate 32 0)), (.ba (List.replicate 32 0)), (.ba (List.replicate 32 0))]), 97⟩),
(54, ⟨.rcd [(0, 51), (1, 52), (33, 50), (65, 50)], (.cn .sc (.cn (.ba 32) (.cn (.ba 32) (.cn (.ba 32) (.nl))))), (.st [(.v (.int .u8 0)), (.ba (List.replicate 32 0)), (.ba (List.replicate 32 0)), (.ba (List.replicate 32 0))]), 97⟩),
(55, ⟨.rcd [(0, 54), (97, 50), (129, 3), (130, 52), (162, 3)], (.cn (.cn .sc (.cn (.ba 32) (.cn (.ba 32) (.cn (.ba 32) (.nl))))) (.cn (.ba 32) (.cn .sc (.cn (.ba 32) (.cn .sc (.nl)))))), (.st [(.st [(.v (.int .u8 0)), (.ba (List.replicate 32 0)), (.ba (List.replicate 32 0)), (.ba (List.replicate 32 0))]), (.ba (List.replicate 32 0)), (.v (.int .i64 0)), (.ba (List.replicate 32 0)), (.v (.int .i64 0))]), 184⟩),
(56, ⟨.rcd [(0, 54), (97, 50), (129, 3), (130, 52), (162, 3)], (.cn (.cn .sc (.cn (.ba 32) (.cn (.ba 32) (.cn (.ba 32) (.nl))))) (.cn (.ba 32) (.cn .sc (.cn (.ba 32) (.cn .sc (.nl)))))), (.st [(.st [(.v (.int .u8 0)), (.ba (List.replicate 32 0)), (.ba (List.replicate 32 0)), (.ba (List.replicate 32 0))]), (.ba (List.replicate 32 0)), (.v (.int .i64 0)), (.ba (List.replicate 32 0)), (.v (.int .i64 0))]), 184⟩),
(59, ⟨.slc 76, .sc, (.v (.slice none 0 0)), 24⟩),
(64, ⟨.slc 50, .sc, (.v (.slice none 0 0)), 24⟩),
(65, ⟨.rcd [(0, 51), (1, 52), (33, 50), (65, 50), (97, 50)], (.cn .sc (.cn (.ba 32) (.cn (.ba 32) (.cn (.ba 32) (.cn (.ba 32) (.nl)))))), (.st [(.v (.int .u8 0)), (.ba (List.replicate 32 0)), (.ba (List.replicate 32 0)), (.ba (List.replicate 32 0)), (.ba (List.replicate 32 0))]), 129⟩),
(66, ⟨.rcd [(0, 51), (1, 52), (33, 50), (65, 50), (97, 50)], (.cn .sc (.cn (.ba 32) (.cn (.ba 32) (.cn (.ba 32) (.cn (.ba 32) (.nl)))))), (.st [(.v (.int .u8 0)), (.ba (List.replicate 32 0)), (.ba (List.replicate 32 0)), (.ba (List.replicate 32 0)), (.ba (List.replicate 32 0))]), 129⟩),
(67, ⟨.rcd [(0, 64), (1, 66)], (.cn .sc (.cn (.cn .sc (.cn (.ba 32) (.cn (.ba 32) (.cn (.ba 32) (.cn (.ba 32) (.nl)))))) (.nl))), (.st [(.v (.slice none 0 0)), (.st [(.v (.int .u8 0)), (.ba (List.replicate 32 0)), (.ba (List.replicate 32 0)), (.ba (List.replicate 32 0)), (.ba (List.replicate 32 0))])]), 160⟩),
(68, ⟨.rcd [(0, 64), (1, 66)], (.cn .sc (.cn (.cn .sc (.cn (.ba 32) (.cn (.ba 32) (.cn (.ba 32) (.cn (.ba 32) (.nl)))))) (.nl))), (.st [(.v (.slice none 0 0)), (.st [(.v (.int .u8 0)), (.ba (List.replicate 32 0)), (.ba (List.replicate 32 0)), (.ba (List.replicate 32 0)), (.ba (List.replicate 32 0))])]), 160⟩),
(75, ⟨.rcd [(0, 4), (1, 50)], (.cn .sc (.cn (.ba 32) (.nl))), (.st [(.v (.bool false)), (.ba (List.replicate 32 0))]), 33⟩),
(76, ⟨.rcd [(0, 4), (1, 50)], (.cn .sc (.cn (.ba 32) (.nl))), (.st [(.v (.bool false)), (.ba (List.replicate 32 0))]), 33⟩),
(86, ⟨.slc 120, .sc, (.v (.slice none 0 0)), 24⟩),
(93, ⟨.slc 86, .sc, (.v (.slice none 0 0)), 24⟩),
(100, ⟨.rcd [(0, 26), (1, 26)], (.cn .sc (.cn .sc (.nl))), (.st [(.v (.slice none 0 0)), (.v (.slice none 0 0))]), 48⟩),
(101, ⟨.rcd [(0, 26), (1, 26)], (.cn .sc (.cn .sc (.nl))), (.st [(.v (.slice none 0 0)), (.v (.slice none 0 0))]), 48⟩),
(119, ⟨.rcd [(0, 52), (32, 26)], (.cn (.ba 32) (.cn .sc (.nl))), (.st [(.ba (List.replicate 32 0)), (.v (.slice none 0 0))]), 56⟩),
(120, ⟨.rcd [(0, 52), (32, 26)], (.cn (.ba 32) (.cn .sc (.nl))), (.st [(.ba (List.replicate 32 0)), (.v (.slice none 0 0))]), 56⟩),
(124, ⟨.slc 131, .sc, (.v (.slice none 0 0)), 24⟩),
(130, ⟨.rcd [(0, 52), (32, 4), (33, 26)], (.cn (.ba 32) (.cn .sc (.cn .sc (.nl)))), (.st [(.ba (List.replicate 32 0)), (.v (.bool false)), (.v (.slice none 0 0))]), 64⟩),
(131, ⟨.rcd [(0, 52), (32, 4), (33, 26)], (.cn (.ba 32) (.cn .sc (.cn .sc (.nl)))), (.st [(.ba (List.replicate 32 0)), (.v (.bool false)), (.v (.slice none 0 0))]), 64⟩),
(133, ⟨.ptr 240, .sc, (.v (.pointer none)), 8⟩),
(144, ⟨.slc 3, .sc, (.v (.slice none 0 0)), 24⟩),
(156, ⟨.slc 255, .sc, (.v (.slice none 0 0)), 24⟩),
(179, ⟨.ptr 272, .sc, (.v (.pointer none)), 8⟩),
(189, ⟨.slc 9, .sc, (.v (.slice none 0 0)), 24⟩),
(194, ⟨.rcd [(0, 42), (1, 4), (2, 52), (34, 52)], (.cn .sc (.cn .sc (.cn (.ba 32) (.cn (.ba 32) (.nl))))), (.st [(.v (.slice none 0 0)), (.v (.bool false)), (.ba (List.replicate 32 0)), (.ba (List.replicate 32 0))]), 96⟩),
(195, ⟨.rcd [(0, 42), (1, 4), (2, 52), (34, 52)], (.cn .sc (.cn .sc (.cn (.ba 32) (.cn (.ba 32) (.nl))))), (.st [(.v (.slice none 0 0)), (.v (.bool false)), (.ba (List.replicate 32 0)), (.ba (List.replicate 32 0))]), 96⟩),
(196, ⟨.slc 68, .sc, (.v (.slice none 0 0)), 24⟩),
(204, ⟨.ptr 211, .sc, (.v (.pointer none)), 8⟩),
(208, ⟨.rcd [(0, 52), (32, 52)], (.cn (.ba 32) (.cn (.ba 32) (.nl))), (.st [(.ba (List.replicate 32 0)), (.ba (List.replicate 32 0))]), 64⟩),
(209, ⟨.rcd [(0, 52), (32, 52)], (.cn (.ba 32) (.cn (.ba 32) (.nl))), (.st [(.ba (List.replicate 32 0)), (.ba (List.replicate 32 0))]), 64⟩),
(210, ⟨.rcd [(0, 209), (64, 22), (65, 50), (97, 42), (98, 64), (99, 52), (131, 68)], (.cn (.cn (.ba 32) (.cn (.ba 32) (.nl))) (.cn .sc (.cn (.ba 32) (.cn .sc (.cn .sc (.cn (.ba 32) (.cn (.cn .sc (.cn (.cn .sc (.cn (.ba 32) (.cn (.ba 32) (.cn (.ba 32) (.cn (.ba 32) (.nl)))))) (.nl))) (.nl)))))))), (.st [(.st [(.ba (List.replicate 32 0)), (.ba (List.replicate 32 0))]), (.v (.slice none 0 0)), (.ba (List.replicate 32 0)), (.v (.slice none 0 0)), (.v (.slice none 0 0)), (.ba (List.replicate 32 0)), (.st [(.v (.slice none 0 0)), (.st [(.v (.int .u8 0)), (.ba (List.replicate 32 0)), (.ba (List.replicate 32 0)), (.ba (List.replicate 32 0)), (.ba (List.replicate 32 0))])])]), 360⟩),
(211, ⟨.rcd [(0, 209), (64, 22), (65, 50), (97, 42), (98, 64), (99, 52), (131, 68)], (.cn (.cn (.ba 32) (.cn (.ba 32) (.nl))) (.cn .sc (.cn (.ba 32) (.cn .sc (.cn .sc (.cn (.ba 32) (.cn (.cn .sc (.cn (.cn .sc (.cn (.ba 32) (.cn (.ba 32) (.cn (.ba 32) (.cn (.ba 32) (.nl)))))) (.nl))) (.nl)))))))), (.st [(.st [(.ba (List.replicate 32 0)), (.ba (List.replicate 32 0))]), (.v (.slice none 0 0)), (.ba (List.replicate 32 0)), (.v (.slice none 0 0)), (.v (.slice none 0 0)), (.ba (List.replicate 32 0)), (.st [(.v (.slice none 0 0)), (.st [(.v (.int .u8 0)), (.ba (List.replicate 32 0)), (.ba (List.replicate 32 0)), (.ba (List.replicate 32 0)), (.ba (List.replicate 32 0))])])]), 360⟩),
(224, ⟨.slc 226, .sc, (.v (.slice none 0 0)), 24⟩),
(225, ⟨.rcd [(0, 52), (32, 50)], (.cn (.ba 32) (.cn (.ba 32) (.nl))), (.st [(.ba (List.replicate 32 0)), (.ba (List.replicate 32 0))]), 64⟩),
(226, ⟨.rcd [(0, 52), (32, 50)], (.cn (.ba 32) (.cn (.ba 32) (.nl))), (.st [(.ba (List.replicate 32 0)), (.ba (List.replicate 32 0))]), 64⟩),
(232, ⟨.ptr 318, .sc, (.v (.pointer none)), 8⟩),
(235, ⟨.rcd [(0, 50)], (.cn (.ba 32) (.nl)), (.st [(.ba (List.replicate 32 0))]), 32⟩),
(236, ⟨.rcd [(0, 50)], (.cn (.ba 32) (.nl)), (.st [(.ba (List.replicate 32 0))]), 32⟩),
(237, ⟨.rcd [(0, 236), (32, 51), (33, 3), (34, 52), (66, 26), (67, 50), (99, 3), (100, 3), (101, 3), (102, 3)], (.cn (.cn (.ba 32) (.nl)) (.cn .sc (.cn .sc (.cn (.ba 32) (.cn .sc (.cn (.ba 32) (.cn .sc (.cn .sc (.cn .sc (.cn .sc (.nl))))))))))), (.st [(.st [(.ba (List.replicate 32 0))]), (.v (.int .u8 0)), (.v (.int .i64 0)), (.ba (List.replicate 32 0)), (.v (.slice none 0 0)), (.ba (List.replicate 32 0)), (.v (.int .i64 0)), (.v (.int .i64 0)), (.v (.int .i64 0)), (.v (.int .i64 0))]), 168⟩),
(238, ⟨.rcd [(0, 236), (32, 51), (33, 3), (34, 52), (66, 26), (67, 50), (99, 3), (100, 3), (101, 3), (102, 3)], (.cn (.cn (.ba 32) (.nl)) (.cn .sc (.cn .sc (.cn (.ba 32) (.cn .sc (.cn (.ba 32) (.cn .sc (.cn .sc (.cn .sc (.cn .sc (.nl))))))))))), (.st [(.st [(.ba (List.replicate 32 0))]), (.v (.int .u8 0)), (.v (.int .i64 0)), (.ba (List.replicate 32 0)), (.v (.slice none 0 0)), (.ba (List.replicate 32 0)), (.v (.int .i64 0)), (.v (.int .i64 0)), (.v (.int .i64 0)), (.v (.int .i64 0))]), 168⟩),
(239, ⟨.rcd [(0, 232)], (.cn .sc (.nl)), (.st [(.v (.pointer none))]), 8⟩),
(240, ⟨.rcd [(0, 232)], (.cn .sc (.nl)), (.st [(.v (.pointer none))]), 8⟩),
(242, ⟨.arr 2 86, (.cn .sc (.cn .sc (.nl))), (.st [(.v (.slice none 0 0)), (.v (.slice none 0 0))]), 48⟩),
(254, ⟨.rcd [(0, 52), (32, 4), (33, 26), (34, 4), (35, 26)], (.cn (.ba 32) (.cn .sc (.cn .sc (.cn .sc (.cn .sc (.nl)))))), (.st [(.ba (List.replicate 32 0)), (.v (.bool false)), (.v (.slice none 0 0)), (.v (.bool false)), (.v (.slice none 0 0))]), 96⟩),
(255, ⟨.rcd [(0, 52), (32, 4), (33, 26), (34, 4), (35, 26)], (.cn (.ba 32) (.cn .sc (.cn .sc (.cn .sc (.cn .sc (.nl)))))), (.st [(.ba (List.replicate 32 0)), (.v (.bool false)), (.v (.slice none 0 0)), (.v (.bool false)), (.v (.slice none 0 0))]), 96⟩),
(266, ⟨.slc 156, .sc, (.v (.slice none 0 0)), 24⟩),
(267, ⟨.int .u64, .sc, (.v (.int .u64 0)), 8⟩),
(271, ⟨.rcd [(0, 4), (1, 4), (2, 26)], (.cn .sc (.cn .sc (.cn .sc (.nl)))), (.st [(.v (.bool false)), (.v (.bool false)), (.v (.slice none 0 0))]), 32⟩),
(272, ⟨.rcd [(0, 4), (1, 4), (2, 26)], (.cn .sc (.cn .sc (.cn .sc (.nl)))), (.st [(.v (.bool false)), (.v (.bool false)), (.v (.slice none 0 0))]), 32⟩),
(274, ⟨.slc 51, .sc, (.v (.slice none 0 0)), 24⟩),
(285, ⟨.ptr 288, .sc, (.v (.pointer none)), 8⟩),
(287, ⟨.rcd [(0, 22), (1, 50), (33, 196)], (.cn .sc (.cn (.ba 32) (.cn .sc (.nl)))), (.st [(.v (.slice none 0 0)), (.ba (List.replicate 32 0)), (.v (.slice none 0 0))]), 80⟩),
(288, ⟨.rcd [(0, 22), (1, 50), (33, 196)], (.cn .sc (.cn (.ba 32) (.cn .sc (.nl)))), (.st [(.v (.slice none 0 0)), (.ba (List.replicate 32 0)), (.v (.slice none 0 0))]), 80⟩),
(300, ⟨.ptr 361, .sc, (.v (.pointer none)), 8⟩),
(316, ⟨.slc 372, .sc, (.v (.slice none 0 0)), 24⟩),
(317, ⟨.rcd [(0, 316), (1, 144), (2, 3), (3, 3)], (.cn .sc (.cn .sc (.cn .sc (.cn .sc (.nl))))), (.st [(.v (.slice none 0 0)), (.v (.slice none 0 0)), (.v (.int .i64 0)), (.v (.int .i64 0))]), 64⟩),
(318, ⟨.rcd [(0, 316), (1, 144), (2, 3), (3, 3)], (.cn .sc (.cn .sc (.cn .sc (.cn .sc (.nl))))), (.st [(.v (.slice none 0 0)), (.v (.slice none 0 0)), (.v (.int .i64 0)), (.v (.int .i64 0))]), 64⟩),
(321, ⟨.ptr 238, .sc, (.v (.pointer none)), 8⟩),
(322, ⟨.rcd [(0, 3), (1, 321)], (.cn .sc (.cn .sc (.nl))), (.st [(.v (.int .i64 0)), (.v (.pointer none))]), 16⟩),
(323, ⟨.slc 322, .sc, (.v (.slice none 0 0)), 24⟩),
(340, ⟨.slc 3, .sc, (.v (.slice none 0 0)), 24⟩),
(356, ⟨.int .u32, .sc, (.v (.int .u32 0)), 4⟩),
(357, ⟨.arr 8 356, (.cn .sc (.cn .sc (.cn .sc (.cn .sc (.cn .sc (.cn .sc (.cn .sc (.cn .sc (.nl))))))))), (.st [(.v (.int .u32 0)), (.v (.int .u32 0)), (.v (.int .u32 0)), (.v (.int .u32 0)), (.v (.int .u32 0)), (.v (.int .u32 0)), (.v (.int .u32 0)), (.v (.int .u32 0))]), 32⟩),
(359, ⟨.arr 64 5, (.ba 64), (.ba (List.replicate 64 0)), 64⟩),
(360, ⟨.rcd [(0, 4), (1, 357), (9, 359), (73, 3), (74, 3)], (.cn .sc (.cn (.cn .sc (.cn .sc (.cn .sc (.cn .sc (.cn .sc (.cn .sc (.cn .sc (.cn .sc (.nl))))))))) (.cn (.ba 64) (.cn .sc (.cn .sc (.nl)))))), (.st [(.v (.bool false)), (.st [(.v (.int .u32 0)), (.v (.int .u32 0)), (.v (.int .u32 0)), (.v (.int .u32 0)), (.v (.int .u32 0)), (.v (.int .u32 0)), (.v (.int .u32 0)), (.v (.int .u32 0))]), (.ba (List.replicate 64 0)), (.v (.int .i64 0)), (.v (.int .i64 0))]), 120⟩),
(361, ⟨.rcd [(0, 4), (1, 357), (9, 359), (73, 3), (74, 3)], (.cn .sc (.cn (.cn .sc (.cn .sc (.cn .sc (.cn .sc (.cn .sc (.cn .sc (.cn .sc (.cn .sc (.nl))))))))) (.cn (.ba 64) (.cn .sc (.cn .sc (.nl)))))), (.st [(.v (.bool false)), (.st [(.v (.int .u32 0)), (.v (.int .u32 0)), (.v (.int .u32 0)), (.v (.int .u32 0)), (.v (.int .u32 0)), (.v (.int .u32 0)), (.v (.int .u32 0)), (.v (.int .u32 0))]), (.ba (List.replicate 64 0)), (.v (.int .i64 0)), (.v (.int .i64 0))]), 120⟩),
(363, ⟨.int .u64, .sc, (.v (.int .u64 0)), 8⟩),
(371, ⟨.rcd [(0, 238), (103, 3)], (.cn (.cn (.cn (.ba 32) (.nl)) (.cn .sc (.cn .sc (.cn (.ba 32) (.cn .sc (.cn (.ba 32) (.cn .sc (.cn .sc (.cn .sc (.cn .sc (.nl))))))))))) (.cn .sc (.nl))), (.st [(.st [(.st [(.ba (List.replicate 32 0))]), (.v (.int .u8 0)), (.v (.int .i64 0)), (.ba (List.replicate 32 0)), (.v (.slice none 0 0)), (.ba (List.replicate 32 0)), (.v (.int .i64 0)), (.v (.int .i64 0)), (.v (.int .i64 0)), (.v (.int .i64 0))]), (.v (.int .i64 0))]), 176⟩),
(372, ⟨.rcd [(0, 238), (103, 3)], (.cn (.cn (.cn (.ba 32) (.nl)) (.cn .sc (.cn .sc (.cn (.ba 32) (.cn .sc (.cn (.ba 32) (.cn .sc (.cn .sc (.cn .sc (.cn .sc (.nl))))))))))) (.cn .sc (.nl))), (.st [(.st [(.st [(.ba (List.replicate 32 0))]), (.v (.int .u8 0)), (.v (.int .i64 0)), (.ba (List.replicate 32 0)), (.v (.slice none 0 0)), (.ba (List.replicate 32 0)), (.v (.int .i64 0)), (.v (.int .i64 0)), (.v (.int .i64 0)), (.v (.int .i64 0))]), (.v (.int .i64 0))]), 176⟩),
(376, ⟨.ptr 372, .sc, (.v (.pointer none)), 8⟩),
(384, ⟨.int .i64, .sc, (.v (.int .i64 0)), 8⟩),
(390, ⟨.ptr 340, .sc, (.v (.pointer none)), 8⟩),
(391, ⟨.arr 64 356, (.cn .sc (.cn .sc (.cn .sc (.cn .sc (.cn .sc (.cn .sc (.cn .sc (.cn .sc (.cn .sc (.cn .sc (.cn .sc (.cn .sc (.cn .sc (.cn .sc (.cn .sc (.cn .sc (.cn .sc (.cn .sc (.cn .sc (.cn .sc (.cn .sc (.cn .sc (.cn .sc (.cn .sc (.cn .sc (.cn .sc (.cn .sc (.cn .sc (.cn .sc (.cn .sc (.cn .sc (.cn .sc (.cn .sc (.cn .sc (.cn .sc (.cn .sc (.cn .sc (.cn .sc (.cn .sc (.cn .sc (.cn .sc (.cn .sc (.cn .sc (.cn .sc (.cn .sc (.cn .sc (.cn .sc (.cn .sc (.cn .sc (.cn .sc (.cn .sc (.cn .sc (.cn .sc (.cn .sc (.cn .sc (.cn .sc (.cn .sc (.cn .sc (.cn .sc (.cn .sc (.cn .sc (.cn .sc (.cn .sc (.cn .sc (.nl))))))))))))))))))))))))))))))))))))))))))))))))))))))))))))))))), (.st [(.v (.int .u32 0)), (.v (.int .u32 0)), (.v (.int .u32 0)), (.v (.int .u32 0)), (.v (.int .u32 0)), (.v (.int .u32 0)), (.v (.int .u32 0)), (.v (.int .u32 0)), (.v (.int .u32 0)), (.v (.int .u32 0)), (.v (.int .u32 0)), (.v (.int .u32 0)), (.v (.int .u32 0)), (.v (.int .u32 0)), (.v (.int .u32 0)), (.v (.int .u32 0)), (.v (.int .u32 0)), (.v (.int .u32 0)), (.v (.int .u32 0)), (.v (.int .u32 0)), (.v (.int .u32 0)), (.v (.int .u32 0)), (.v (.int .u32 0)), (.v (.int .u32 0)), (.v (.int .u32 0)), (.v (.int .u32 0)), (.v (.int .u32 0)), (.v (.int .u32 0)), (.v (.int .u32 0)), (.v (.int .u32 0)), (.v (.int .u32 0)), (.v (.int .u32 0)), (.v (.int .u32 0)), (.v (.int .u32 0)), (.v (.int .u32 0)), (.v (.int .u32 0)), (.v (.int .u32 0)), (.v (.int .u32 0)), (.v (.int .u32 0)), (.v (.int .u32 0)), (.v (.int .u32 0)), (.v (.int .u32 0)), (.v (.int .u32 0)), (.v (.int .u32 0)), (.v (.int .u32 0)), (.v (.int .u32 0)), (.v (.int .u32 0)), (.v (.int .u32 0)), (.v (.int .u32 0)), (.v (.int .u32 0)), (.v (.int .u32 0)), (.v (.int .u32 0)), (.v (.int .u32 0)), (.v (.int .u32 0)), (.v (.int .u32 0)), (.v (.int .u32 0)), (.v (.int .u32 0)), (.v (.int .u32 0)), (.v (.int .u32 0)), (.v (.int .u32 0)), (.v (.int .u32 0)), (.v (.int .u32 0)), (.v (.int .u32 0)), (.v (.int .u32 0))]), 256⟩),
(397, ⟨.int .i64, .sc, (.v (.int .i64 0)), 8⟩),
(403, ⟨.int .u64, .sc, (.v (.int .u64 0)), 8⟩),
(407, ⟨.ptr 3, .sc, (.v (.pointer none)), 8⟩),
(409, ⟨.int .u64, .sc, (.v (.int .u64 0)), 8⟩),
(412, ⟨.ptr 403, .sc, (.v (.pointer none)), 8⟩),
(414, ⟨.ptr 409, .sc, (.v (.pointer none)), 8⟩),
(425, ⟨.ptr 5, .sc, (.v (.pointer none)), 8⟩)]
set_option maxRecDepth 100000 in
theorem tab_ok : tab.ok Try.prog := tab_of (by kernel_rfl) (by kernel_rfl)
end Go.Proofs.Ytigmpdhnhkdeiaa
/- A5: Con3 Draw Con4 Con5. -/
/- Tests, stretches with at least one step; rows that are none yet. -/
namespace Go.Proofs.Ytigmpdhnhkdeiaa
open Go Go.RowKit
theorem wrapu8 (n : Int) : IntKind.u8.wrap n = n % 256 := by simp [IntKind.wrap, IntKind.bits, IntKind.signed]
theorem wrapu16 (n : Int) : IntKind.u16.wrap n = n % 65536 := by simp [IntKind.wrap, IntKind.bits, IntKind.signed]
theorem wrapu32 (n : Int) : IntKind.u32.wrap n = n % 4294967296 := by simp [IntKind.wrap, IntKind.bits, IntKind.signed]
theorem wrapu64 (n : Int) : IntKind.u64.wrap n = n % 18446744073709551616 := by simp [IntKind.wrap, IntKind.bits, IntKind.signed]
theorem u8n (x d : Nat) : UInt8.ofNat (((x : Int) / (d : Int)) % 256).toNat = UInt8.ofNat (x / d) := by
  have h : (((x : Int) / (d : Int)) % 256).toNat = x / d % 256 := by
    rw [show (x : Int) / (d : Int) = ((x / d : Nat) : Int) from (Int.natCast_ediv x d).symm]; omega
  rw [h]; apply UInt8.toNat_inj.1; simp
theorem u8m (x : Nat) : UInt8.ofNat ((x : Int) % 256).toNat = UInt8.ofNat x := by
  have h : ((x : Int) % 256).toNat = x % 256 := by omega
  rw [h]; apply UInt8.toNat_inj.1; simp
section
variable {α : Type} (x : α)
theorem rep1 : List.replicate 1 x = [x] := rfl
theorem rep2 : List.replicate 2 x = [x, x] := rfl
theorem rep3 : List.replicate 3 x = [x, x, x] := rfl
theorem rep4 : List.replicate 4 x = [x, x, x, x] := rfl
theorem rep5 : List.replicate 5 x = [x, x, x, x, x] := rfl
end
/-- bytes, each a slice -/
def bss (ls : List (List UInt8)) : List AV := ls.map fun l => .bs l none
section
variable {P : Program} {τ : Tab} {w0 w : World} {N : Gh} {g : Gh} {st st' st1 : St} {nt : Nat} {a : Act}
theorem v_cond {Q : Exit → Act → World → Prop} {c : Operand} {x y : Code} {b : Bool} (H : Rel P w0 N nt st a w) (hc : st.ev none c = .v (.bool b))
    (h1 : b = true → x.wp P Q a w) (h2 : b = false → y.wp P Q a w) : (Code.cond c x y).wp P Q a w := by
  obtain ⟨g, HI, hF⟩ := H
  have := ev_sound hF (c := none) trivial c
  rw [hc] at this
  exact wp_cond_split this.v_inv h1 h2
theorem hNq {q : Nat} (h : N.bx.length ≤ q) : ∀ k, some q = some k → N.bx.length ≤ k := fun k e => by injection e with e; subst e; exact h
theorem vrun_conds {md : Option Nat} {ops : Array Oper} : ∀ (l : List Oper) (st : St) (c : Prop), (vrun τ md nt ops l st c).2.1 → c := by
  intro l
  induction l with
  | nil => intro st c h; exact h
  | cons o l ih =>
    intro st c h
    unfold vrun at h
    split at h
    · exact (ih _ _ h).1
    · exact h
theorem v_more {ops : Array Oper} {Q : Exit → Act → World → Prop} {q : Nat} {o : Oper} {l l' : List Oper} {c1 c' : Prop} (hτ : τ.ok P) (hN : N.bx.length ≤ q) (H : Rel P w0 N nt st a w) (h0 : vstep τ (some q) nt ops o st = some (st1, c1)) (h : vrun τ (some q) nt ops l st1 c1 = (st', c', l')) (hc : c')
    (k : ∀ a w, Rel P w0 N nt st' a w → wpList P ops Q l' a w) : wpList P ops Q (o :: l) a w := by
  have hc1 : c1 := by have := vrun_conds (τ := τ) (nt := nt) (md := some q) (ops := ops) l st1 c1; rw [h] at this; exact this hc
  exact vstep_wpList hτ (hNq hN) h0 hc1 H fun a w H' => vrun_wpList hτ (hNq hN) l st1 c1 c' l' h hc a w H' k
theorem v_steps {ops : Array Oper} {Q : Exit → Act → World → Prop} {q : Nat} {l : List Oper} {c' : Prop} (n : Nat) (hτ : τ.ok P) (hN : N.bx.length ≤ q) (H : Rel P w0 N nt st a w) (h : vrun τ (some q) nt ops (l.take n) st True = (st', c', [])) (hc : c')
    (k : ∀ a w, Rel P w0 N nt st' a w → wpList P ops Q (l.drop n) a w) : wpList P ops Q l a w := by
  have key : ∀ (l1 l2 : List Oper) (st : St) (c : Prop), vrun τ (some q) nt ops l1 st c = (st', c', []) → c' → ∀ a w, Rel P w0 N nt st a w → (∀ a w, Rel P w0 N nt st' a w → wpList P ops Q l2 a w) → wpList P ops Q (l1 ++ l2) a w := by
    intro l1 l2
    induction l1 with
    | nil => intro st c h _ a w H k; simp only [vrun, Prod.mk.injEq] at h; obtain ⟨rfl, rfl, _⟩ := h; exact k _ _ H
    | cons o l1 ih =>
      intro st c h hc a w H k
      unfold vrun at h
      split at h
      · rename_i st1 cd1 hs
        have hc1 : cd1 := by have := vrun_conds (τ := τ) (nt := nt) (md := some q) (ops := ops) l1 st1 (c ∧ cd1); rw [h] at this; exact (this hc).2
        exact vstep_wpList hτ (hNq hN) hs hc1 H fun a w H' => ih st1 _ h hc a w H' k
      · simp at h
  have := key (l.take n) (l.drop n) st True h hc a w H k
  rwa [List.take_append_drop] at this
def nilT (d : Nat) (b : AV) : List (Nat × Gd × AV) → List (Nat × Gd × AV)
  | [] => []
  | (k, x) :: l => if k = d then (d, none, b) :: l else (k, x) :: nilT d b l
theorem nilT_mem {d : Nat} {b : AV} {p : Nat × Gd × AV} : ∀ {l : List (Nat × Gd × AV)}, p ∈ nilT d b l → p = (d, none, b) ∨ p ∈ l
  | q :: l, h => by
    unfold nilT at h
    split at h
    · rcases List.mem_cons.1 h with h | h
      · exact .inl h
      · exact .inr (List.mem_cons_of_mem _ h)
    · rcases List.mem_cons.1 h with h | h
      · exact .inr (by rw [h]; exact List.mem_cons_self)
      · rcases nilT_mem h with h | h
        · exact .inl h
        · exact .inr (List.mem_cons_of_mem _ h)
/-- A slice that is none becomes a row that is none yet: bytes. -/
theorem v_nilB (hτ : τ.ok P) (H : Rel P w0 N nt st a w) (d e : Nat) {j : TI} (hj : Tab.get e τ = some j) (hs : 0 < j.ty.size) (hd : find d st.t = some (none, .v (.slice none 0 0))) :
    Rel P w0 N nt ⟨nilT d (.bs [] (some st.rw.length)) st.t, st.bx, st.fz, st.rw ++ [(e, 0)]⟩ a w := by
  obtain ⟨g, HI, hF⟩ := H
  have hok := Tab.get_ok hτ hj
  obtain ⟨g1, l1, I1, h1⟩ := HI.rowNil (nilRow hok hs w) rfl rfl ⟨hok.cells.symm, rfl⟩
  refine ⟨g1, I1, (hF.mono l1.1).sz, hF.df, fun p hp hg => ?_, fun p hp hg => by rcases nilT_mem hp with h | h; (subst h; exact absurd trivial hg); exact hF.u p h hg⟩
  have hv : RV g1 (.bs [] (some st.rw.length)) (a.tmps.getD d undef) := by
    have := (hF.t _ (find_mem hd) trivial).v_inv
    rw [this]
    exact (RC.bs (g := g1) (l := []) (A := none) (c := 0) (by simp) (by simp [maxLen]) (.inl rfl) fun i hi => by injection hi with hi; subst hi; exact ⟨_, h1, by simp, fun _ => ⟨rfl, rfl⟩⟩).rv1
  have key : ∀ l : List (Nat × Gd × AV), p ∈ nilT d (.bs [] (some st.rw.length)) l → p = (d, none, .bs [] (some st.rw.length)) ∨ p ∈ l := by
    intro l
    induction l with
    | nil => intro h; cases h
    | cons q l ih =>
      intro h
      unfold nilT at h
      split at h
      · rcases List.mem_cons.1 h with h | h
        · exact .inl h
        · exact .inr (List.mem_cons_of_mem _ h)
      · rcases List.mem_cons.1 h with h | h
        · exact .inr (by rw [h]; exact List.mem_cons_self)
        · rcases ih h with h | h
          · exact .inl h
          · exact .inr (List.mem_cons_of_mem _ h)
  rcases key _ hp with h | h
  · subst h; exact hv
  · exact (hF.mono l1.1).t p h hg
theorem v_nilE (hτ : τ.ok P) (H : Rel P w0 N nt st a w) (d e : Nat) {j : TI} (T : Ty) (hj : Tab.get e τ = some j) (hs : 0 < j.ty.size) (hd : find d st.t = some (none, .v (.slice none 0 0))) :
    Rel P w0 N nt ⟨nilT d (.sl T [] (some st.rw.length)) st.t, st.bx, st.fz, st.rw ++ [(e, 0)]⟩ a w := by
  obtain ⟨g, HI, hF⟩ := H
  have hok := Tab.get_ok hτ hj
  obtain ⟨g1, l1, I1, h1⟩ := HI.rowNil (nilRow hok hs w) rfl rfl ⟨hok.cells.symm, rfl⟩
  refine ⟨g1, I1, (hF.mono l1.1).sz, hF.df, fun p hp hg => ?_, fun p hp hg => by rcases nilT_mem hp with h | h; (subst h; exact absurd trivial hg); exact hF.u p h hg⟩
  have hv : RV g1 (.sl T [] (some st.rw.length)) (a.tmps.getD d undef) := by
    have := (hF.t _ (find_mem hd) trivial).v_inv
    rw [this]
    exact (RC.sl (g := g1) (T := T) (es := []) (A := none) (c := 0) (by simp) (by simp [maxLen]) (fun _ => []) (.inl rfl) (fun k hk => absurd hk (by simp)) fun i hi => by injection hi with hi; subst hi; exact ⟨_, h1, by simp, fun _ => ⟨rfl, rfl⟩⟩).rv1
  have key : ∀ l : List (Nat × Gd × AV), p ∈ nilT d (.sl T [] (some st.rw.length)) l → p = (d, none, .sl T [] (some st.rw.length)) ∨ p ∈ l := by
    intro l
    induction l with
    | nil => intro h; cases h
    | cons q l ih =>
      intro h
      unfold nilT at h
      split at h
      · rcases List.mem_cons.1 h with h | h
        · exact .inl h
        · exact .inr (List.mem_cons_of_mem _ h)
      · rcases List.mem_cons.1 h with h | h
        · exact .inr (by rw [h]; exact List.mem_cons_self)
        · rcases ih h with h | h
          · exact .inl h
          · exact .inr (List.mem_cons_of_mem _ h)
  rcases key _ hp with h | h
  · subst h; exact hv
  · exact (hF.mono l1.1).t p h hg
end
end Go.Proofs.Ytigmpdhnhkdeiaa

/- Regions that draw their order, on what is known. -/
namespace Go.Proofs.Ytigmpdhnhkdeiaa
open Go Go.RowKit
def hasAny : Nat → AV → Bool
  | _, .any => true
  | d + 1, .st fs => fs.any (hasAny d)
  | _, _ => false
def qopN (τ : Tab) (st : St) (c : Gd) (o : Op) : QR :=
  match qop2 τ st c o with
  | some (r, cd) => if hasAny 3 r then none else some (r, cd)
  | none => none
theorem qopN_some {τ : Tab} {st : St} {c : Gd} {o : Op} {x : AV × Prop} (h : qopN τ st c o = some x) : qop2 τ st c o = some x := by
  unfold qopN at h
  split at h
  · rename_i hq
    split at h
    · cases h
    · rw [hq]; exact h
  · cases h
def qopA (τ : Tab) (st : St) (c : Gd) (o : Op) : QR :=
  match o with
  | .build t ps => qopN τ st c (.build t ps)
  | o => qop2 τ st c o
theorem qopA_some {τ : Tab} {st : St} {c : Gd} {o : Op} {x : AV × Prop} (h : qopA τ st c o = some x) : qop2 τ st c o = some x := by
  unfold qopA at h
  split at h
  · exact qopN_some h
  · exact h
def St.lose (st : St) (dst : Option Tmp) : St :=
  match dst with
  | none => st
  | some d => { st with t := dropT d st.t }
def isSlc : Op → Bool
  | .slice _ _ _ _ _ => true
  | _ => false
def loudOk (md : Option Nat) (sq : St) (o : Op) : Bool := !isSto o || sq.bx.isEmpty
def stillE (τ : Tab) (md : Option Nat) (st : St) (c : Gd) (o : Op) : ER :=
  match (match o with
    | .slice t x lo hi none => (match md, isNoneG c with
      | some q0, true => frzE τ q0 st t (st.ev c x) (lo.map (st.ev c)) (hi.map (st.ev c))
      | _, _ => none)
    | _ => none) with
  | some r => some r
  | none => (match qop2 τ st c o with
    | some (r, cd) => some (st, r, cd)
    | none => none)
def vstepT (τ : Tab) (md : Option Nat) (nt : Nat) (ops : Array Oper) (L A : List Nat) (k : Nat) (o : Oper) (sq st : St) : Option (St × St × Prop) :=
  match gdOf ops o with
  | none => none
  | some c =>
    if okDst nt c o.dst then
      (if L.contains k then
        (if isNoneG c && loudOk md sq o.op then (match orE (eop τ none st c o.op) (if sq.bx.isEmpty then eopV τ st c o.op else none) with
          | some (st', r, cd) => some (sq.lose o.dst, st'.put o.dst c r, cd)
          | none => (match qop2 τ st c o.op with
            | some (r, cd) => some (sq.lose o.dst, st.put o.dst c r, gcond st c cd)
            | none => none)) else none)
      else
        (if A.contains k then (match qopA τ sq c o.op with
          | some (r, cd) => some (sq.put o.dst c r, st.put o.dst c r, gcond sq c cd)
          | none => (match (if memless o.op then qop2 τ st c o.op else none) with
            | some (r, cd) => some (sq.lose o.dst, st.put o.dst c r, gcond st c cd)
            | none => none))
        else (match stillE τ md st c o.op with
          | some (st', r, cd) => (match qopN τ sq c o.op with
            | some (r', cd') => (if md.isSome && isSlc o.op then some (sq.lose o.dst, st'.put o.dst c r, gcond st c cd) else some (sq.put o.dst c r', st.put o.dst c r', gcond sq c cd'))
            | none => some (sq.lose o.dst, st'.put o.dst c r, gcond st c cd))
          | none => none)))
    else none
def vrunT (τ : Tab) (md : Option Nat) (nt : Nat) (ops : Array Oper) (L A : List Nat) : List Oper → Nat → St → St → Prop → St × St × Prop × List Oper × Nat
  | [], k, sq, st, c => (sq, st, c, [], k)
  | o :: l, k, sq, st, c =>
    match vstepT τ md nt ops L A k o sq st with
    | some (sq', st', cd) => vrunT τ md nt ops L A l (k + 1) sq' st' (c ∧ cd)
    | none => (sq, st, c, o :: l, k)
section
variable {P : Program} {τ : Tab} {w0 w : World} {N : Gh} {g gS : Gh} {st st' sq sq' : St} {nt : Nat} {a : Act} {r : AV} {cd : Prop}
structure RelT (P : Program) (w0 : World) (N : Gh) (nt : Nat) (gS : Gh) (sq st : St) (a : Act) (w : World) : Prop where
  mem : Mem gS w
  rows : gS.rw = []
  fr : FR gS nt sq a
  br : BR gS sq.bx
  rel : ∃ g, Inv P w0 N g st.bx st.fz st.rw w ∧ FR g nt st a ∧ gS.le g ∧ Bs gS g
theorem RelT.still {H : RelT P w0 N nt gS sq st a w} : Mem gS w := H.mem
theorem MemS {w' : World} (h : Mem gS w) (hr : gS.rw = []) (HI : Inv P w0 N g st.bx st.fz st.rw w') (hl : gS.le g) (hb : Bs gS g) : Mem gS w' := by
  have no : ∀ {i : Nat} {x : Rw}, gS.rw[i]? = some x → False := fun {i x} h => by rw [hr] at h; simp at h
  exact ⟨fun b o u hu => HI.mem.ro _ _ _ (hl.ro _ _ _ hu), fun i x hx hxo => (by
      obtain ⟨y, h1, h2, h3, h4, h5, h6⟩ := hb i x hx
      have := HI.mem.bx i y h1 (h5.trans hxo)
      exact ⟨fun e => (by have h7 := this.c (h6.trans e); rw [h2, h3, h4] at h7; exact h7), fun m e => (by have h7 := this.m m (h6.trans e); rw [h2] at h7; exact h7)⟩), h.offc, h.mpc,
    fun i x h => (no h).elim, h.fro, h.bro, h.bb, h.rro, h.rwo, h.rb, h.rr⟩
theorem FR.lose {dst : Option Tmp} (hF : FR g nt st a) (v : Value) : FR g nt (st.lose dst) (a.put dst v) := by
  cases dst with
  | none => exact hF
  | some d =>
    refine ⟨by simp [Act.put, hF.sz], hF.df, fun p hp hgp => ?_, fun p hp hgp => ?_⟩
    rotate_left
    · obtain ⟨h1, h2, h3⟩ := dropT_mem hp
      rw [getD_put h2]
      refine hF.u p h1 fun hc => hgp ?_
      cases hq : p.2.1 with
      | none => trivial
      | some k => obtain ⟨j, b⟩ := k; rw [hq] at hc; show (a.put (some d) v).tmps.getD j undef = .bool b; rw [getD_put (h3 j b hq)]; exact hc
    obtain ⟨h1, h2, h3⟩ := dropT_mem hp
    rw [getD_put h2]
    refine hF.t p h1 ?_
    cases hc : p.2.1 with
    | none => trivial
    | some k =>
      obtain ⟨j, b⟩ := k
      rw [hc] at hgp
      have : (a.put (some d) v).tmps.getD j undef = .bool b := hgp
      rw [getD_put (h3 j b hc)] at this
      exact this
theorem lose_bx (st : St) (dst : Option Tmp) : (st.lose dst).bx = st.bx := by cases dst <;> rfl
theorem put_bx (st : St) (dst : Option Tmp) (c : Gd) (r : AV) : (st.put dst c r).bx = st.bx ∧ (st.put dst c r).fz = st.fz ∧ (st.put dst c r).rw = st.rw := by cases dst <;> exact ⟨rfl, rfl, rfl⟩
/-- What an operation that leaves the world comes to. -/
theorem stillE_sound (hτ : τ.ok P) {md : Option Nat} (hN : ∀ q, md = some q → N.bx.length ≤ q) (HI : Inv P w0 N g st.bx st.fz st.rw w) (hF : FR g nt st a) {c : Gd} (hg : gholds a c) {o : Oper} (h : stillE τ md st c o.op = some (st', r, cd)) (hc : cd) :
    ∃ g' z, g.lex g' ∧ Inv P w0 N g' st'.bx st'.fz st'.rw w ∧ st'.t = st.t ∧ (execOp a.eval o).run P w = .ok (.value z) w ∧ RV g' r z := by
  unfold stillE at h
  split at h
  · rename_i q hq
    injection h with h; subst h
    split at hq
    · rename_i t x lo hi ho
      split at hq
      · rename_i q0 _
        have E := fun x => ev_sound hF hg x
        have RO_ : ∀ x : Option Operand, RO g (x.map (st.ev c)) (x.map a.eval) := fun x => by cases x with | none => trivial | some x => exact E x
        have hq' : frzE τ q0 st t (st.ev c x) (lo.map (st.ev c)) (hi.map (st.ev c)) = some (st', r, cd) := hq
        obtain ⟨g', z, h1, h2, h3, h4, h5⟩ := frzE_still hτ HI (hN _ rfl) hq' hc (E x) (RO_ lo) (RO_ hi)
        exact ⟨g', z, h1, h2, h3, by unfold execOp; rw [ho]; simp [h4], h5⟩
      · cases hq
    · cases hq
  · split at h
    · rename_i r0 cd0 hq
      obtain ⟨rfl, rfl, rfl⟩ := ER.inj h
      obtain ⟨z, h1, h2⟩ := qop2_sound (P := P) hτ hF HI.br hg hq hc
      exact ⟨g, z, Gh.lex.refl g, HI, rfl, h2 w HI.mem, h1⟩
    · cases h
theorem stillE_st {md : Option Nat} {q : Nat × Bool} {o : Op} (h : stillE τ md st (some q) o = some (st', r, cd)) : st' = st := by
  unfold stillE at h
  split at h
  · rename_i x hx
    split at hx
    · simp [isNoneG] at hx
    · cases hx
  · split at h
    · exact (ER.inj h).1.symm
    · cases h
theorem qop2_memless (hτ : τ.ok P) (hF : FR g nt st a) (hB : BR g st.bx) {c : Gd} (hg : gholds a c) {o : Oper} (hm : memless o.op = true) (h : qop2 τ st c o.op = some (r, cd)) (hc : cd) :
    ∃ z, RV g r z ∧ ∀ w, (execOp a.eval o).run P w = .ok (.value z) w := by
  unfold qop2 at h
  split at h
  · rename_i t ps ho
    obtain ⟨z, h1, h2⟩ := buildq_sound (P := P) hτ hF hg h hc
    exact ⟨z, h1, fun w => by unfold execOp; rw [ho]; simp [h2 w]⟩
  · obtain ⟨z, h1, h2⟩ := qop_sound (P := P) hτ hF hB hg h hc
    exact ⟨z, h1, fun w => h2 w (.inl hm)⟩
theorem vstepT_wpT {ops : Array Oper} {Q : Exit → Act → World → Prop} {L A : List Nat} {rest : List Oper} {k : Nat} {o : Oper} {md : Option Nat} (hτ : τ.ok P) (hN : ∀ q, md = some q → N.bx.length ≤ q) (h : vstepT τ md nt ops L A k o sq st = some (sq', st', cd)) (hc : cd)
    (H : RelT P w0 N nt gS sq st a w) (kk : ∀ a w, RelT P w0 N nt gS sq' st' a w → wpT P ops Q (Mem gS) L A rest (k + 1) a w) : wpT P ops Q (Mem gS) L A (o :: rest) k a w := by
  obtain ⟨hM, hrw, hFq, hBq, g, HI, hF, hl, hbs⟩ := H
  unfold vstepT at h
  split at h
  · cases h
  · rename_i c hgd
    split at h
    · rename_i hdst
      unfold wpT
      split at h
      · rename_i hL
        split at h
        · rename_i hcond
          simp only [Bool.and_eq_true] at hcond
          obtain ⟨hng, hlo⟩ := hcond
          have hcn : c = none := by cases c with | none => rfl | some k => simp [isNoneG] at hng
          subst hcn
          have hw : Region.wanted o (yielded ops a.tmps) = true := (gdOf_wanted hgd).2 trivial
          rw [if_pos hw, if_pos hL]
          split at h
          · rename_i st1 r1 cd1 he
            injection h with h
            simp only [Prod.mk.injEq] at h
            obtain ⟨rfl, rfl, rfl⟩ := h
            have hem : sq.bx = [] → ∀ g', Bs gS g' := fun h g' i x hx => by
              have := hBq.len; rw [h] at this
              rw [List.length_eq_zero_iff.1 this] at hx; simp at hx
            obtain ⟨g', w', ⟨k1, hbs'⟩, k2, k3, k4⟩ : ∃ g' w', (g.le g' ∧ Bs gS g') ∧ Inv P w0 N g' st1.bx st1.fz st1.rw w' ∧ st1.t = st.t ∧ ((∃ z, (execOp a.eval o).run P w = .ok (.value z) w' ∧ RV g' r1 z) ∨ ((execOp a.eval o).run P w = .ok .skip w' ∧ r1 = .any)) := by
              rcases orE_some he with he | he
              · obtain ⟨g', w', k1, k⟩ := eop_sound hτ (md := none) (fun _ h => (by cases h)) HI hF (c := none) trivial he hc
                refine ⟨g', w', ⟨k1.1, ?_⟩, k⟩
                simp only [loudOk, Bool.or_eq_true, Bool.not_eq_true', List.isEmpty_iff] at hlo
                rcases hlo with h | h
                · exact hbs.trans (k1.2 h)
                · exact hem h g'
              · split at he
                · rename_i hz
                  obtain ⟨g', w', k1, k⟩ := eopV_sound hτ HI hF (c := none) trivial he hc
                  exact ⟨g', w', ⟨k1.1, hem (List.isEmpty_iff.1 hz) g'⟩, k⟩
                · cases he
            have hl' := hl.trans k1
            have fin : ∀ v, RV g' r1 v → RelT P w0 N nt gS (sq.lose o.dst) (st1.put o.dst none r1) (a.put o.dst v) w' := fun v hv =>
              ⟨MemS hM hrw k2 hl' hbs', hrw, hFq.lose v, by rw [lose_bx]; exact hBq, g', by rw [(put_bx _ _ _ _).1, (put_bx _ _ _ _).2.1, (put_bx _ _ _ _).2.2]; exact k2, (hF.mono k1).put hdst (fun _ => hv) k3 (fun h => absurd trivial h), hl', hbs'⟩
            unfold Oper.wp
            rcases k4 with ⟨z, h1, h2⟩ | ⟨h1, h2⟩
            · rw [h1, Oper.upon_value]; exact ⟨(fin z h2).mem, kk _ _ (fin z h2)⟩
            · rw [h1, Oper.upon_skip]; have := fin undef (by rw [h2]; trivial); exact ⟨this.mem, kk _ _ this⟩
          · split at h
            · rename_i r1 cd1 hq
              injection h with h
              simp only [Prod.mk.injEq] at h
              obtain ⟨rfl, rfl, rfl⟩ := h
              obtain ⟨z, h1, h2⟩ := qop2_sound (P := P) hτ hF HI.br (c := none) trivial hq (gcond_elim hF hc trivial)
              unfold Oper.wp
              rw [h2 w HI.mem, Oper.upon_value]
              exact ⟨hM, kk _ _ ⟨hM, hrw, hFq.lose z, by rw [lose_bx]; exact hBq, g, by rw [(put_bx _ _ _ _).1, (put_bx _ _ _ _).2.1, (put_bx _ _ _ _).2.2]; exact HI, hF.put hdst (fun _ => h1) rfl (fun h => absurd trivial h), hl, hbs⟩⟩
            · cases h
        · cases h
      · rename_i hL
        have hL' : L.contains k = false := by simpa using hL
        -- a quiet operation by what is known for ever
        have quiet : ∀ {r0 : AV} {cd0 : Prop}, qop2 τ sq c o.op = some (r0, cd0) → gcond sq c cd0 → (∀ a w, RelT P w0 N nt gS (sq.put o.dst c r0) (st.put o.dst c r0) a w → wpT P ops Q (Mem gS) L A rest (k + 1) a w) →
            (if Region.wanted o (yielded ops a.tmps) = true then (if L.contains k = true then o.wp P a w (fun a' w' => Mem gS w' ∧ wpT P ops Q (Mem gS) L A rest (k + 1) a' w') NoQ
              else ∃ v, Qr P o a w v ∧ (A.contains k = true → ∀ w', Mem gS w' → Vr P o a w' v) ∧ wpT P ops Q (Mem gS) L A rest (k + 1) (a.put o.dst v) w)
            else wpT P ops Q (Mem gS) L A rest (k + 1) (a.put o.dst undef) w) := by
          intro r0 cd0 hq hc0 kk
          by_cases hw : Region.wanted o (yielded ops a.tmps) = true
          · rw [if_pos hw, if_neg hL]
            obtain ⟨z, h1, h2⟩ := qop2_sound (P := P) hτ hFq hBq ((gdOf_wanted hgd).1 hw) hq (gcond_elim hFq hc0 ((gdOf_wanted hgd).1 hw))
            have hv : ∀ w', Mem gS w' → Vr P o a w' z := h2
            refine ⟨z, (hv w hM).qr, fun _ => hv, kk _ _ ⟨hM, hrw, hFq.put hdst (fun _ => h1) rfl (fun h => absurd ((gdOf_wanted hgd).1 hw) h), by rw [(put_bx _ _ _ _).1]; exact hBq, g, by rw [(put_bx _ _ _ _).1, (put_bx _ _ _ _).2.1, (put_bx _ _ _ _).2.2]; exact HI, hF.put hdst (fun _ => h1.mono hl) rfl (fun h => absurd ((gdOf_wanted hgd).1 hw) h), hl, hbs⟩⟩
          · rw [if_neg hw]
            exact kk _ _ ⟨hM, hrw, hFq.put hdst (fun hg => absurd ((gdOf_wanted hgd).2 hg) hw) rfl (fun _ => rfl), by rw [(put_bx _ _ _ _).1]; exact hBq, g, by rw [(put_bx _ _ _ _).1, (put_bx _ _ _ _).2.1, (put_bx _ _ _ _).2.2]; exact HI, hF.put hdst (fun hg => absurd ((gdOf_wanted hgd).2 hg) hw) rfl (fun _ => rfl), hl, hbs⟩
        split at h
        · split at h
          · rename_i r1 cd1 hq
            injection h with h
            simp only [Prod.mk.injEq] at h
            obtain ⟨rfl, rfl, rfl⟩ := h
            exact quiet (qopA_some hq) hc kk
          · split at h
            · rename_i r1 cd1 hq
              injection h with h
              simp only [Prod.mk.injEq] at h
              obtain ⟨rfl, rfl, rfl⟩ := h
              split at hq
              · rename_i hml
                by_cases hw : Region.wanted o (yielded ops a.tmps) = true
                · rw [if_pos hw, if_neg hL]
                  obtain ⟨z, h1, h2⟩ := qop2_memless (P := P) hτ hF HI.br ((gdOf_wanted hgd).1 hw) hml hq (gcond_elim hF hc ((gdOf_wanted hgd).1 hw))
                  have hv : ∀ w', Mem gS w' → Vr P o a w' z := fun w' _ => h2 w'
                  exact ⟨z, (hv w hM).qr, fun _ => hv, kk _ _ ⟨hM, hrw, hFq.lose z, by rw [lose_bx]; exact hBq, g, by rw [(put_bx _ _ _ _).1, (put_bx _ _ _ _).2.1, (put_bx _ _ _ _).2.2]; exact HI, hF.put hdst (fun _ => h1) rfl (fun h => absurd ((gdOf_wanted hgd).1 hw) h), hl, hbs⟩⟩
                · rw [if_neg hw]
                  exact kk _ _ ⟨hM, hrw, hFq.lose undef, by rw [lose_bx]; exact hBq, g, by rw [(put_bx _ _ _ _).1, (put_bx _ _ _ _).2.1, (put_bx _ _ _ _).2.2]; exact HI, hF.put hdst (fun hg => absurd ((gdOf_wanted hgd).2 hg) hw) rfl (fun _ => rfl), hl, hbs⟩
              · cases hq
            · cases h
        · rename_i hA
          have hA' : A.contains k = false := by simpa using hA
          split at h
          · rename_i st1 r1 cd1 he
            have still : gcond st c cd1 → (∀ a w, RelT P w0 N nt gS (sq.lose o.dst) (st1.put o.dst c r1) a w → wpT P ops Q (Mem gS) L A rest (k + 1) a w) →
                (if Region.wanted o (yielded ops a.tmps) = true then (if L.contains k = true then o.wp P a w (fun a' w' => Mem gS w' ∧ wpT P ops Q (Mem gS) L A rest (k + 1) a' w') NoQ
                  else ∃ v, Qr P o a w v ∧ (A.contains k = true → ∀ w', Mem gS w' → Vr P o a w' v) ∧ wpT P ops Q (Mem gS) L A rest (k + 1) (a.put o.dst v) w)
                else wpT P ops Q (Mem gS) L A rest (k + 1) (a.put o.dst undef) w) := by
              intro hc1 kk
              by_cases hw : Region.wanted o (yielded ops a.tmps) = true
              · rw [if_pos hw, if_neg hL]
                obtain ⟨g', z, k1, k2, k3, k4, k5⟩ := stillE_sound (P := P) hτ hN HI hF ((gdOf_wanted hgd).1 hw) he (gcond_elim hF hc1 ((gdOf_wanted hgd).1 hw))
                refine ⟨z, (show Vr P o a w z from k4).qr, fun h => (by rw [hA'] at h; cases h), kk _ _ ⟨hM, hrw, hFq.lose z, by rw [lose_bx]; exact hBq, g', by rw [(put_bx _ _ _ _).1, (put_bx _ _ _ _).2.1, (put_bx _ _ _ _).2.2]; exact k2, (hF.mono k1.1).put hdst (fun _ => k5) k3 (fun h => absurd ((gdOf_wanted hgd).1 hw) h), hl.trans k1.1, hbs.trans k1.2⟩⟩
              · rw [if_neg hw]
                have hst1 : st1 = st ∨ c = none := by
                  cases c with
                  | none => exact .inr rfl
                  | some q => exact .inl (stillE_st he)
                rcases hst1 with h1 | h1
                · subst h1
                  exact kk _ _ ⟨hM, hrw, hFq.lose undef, by rw [lose_bx]; exact hBq, g, by rw [(put_bx _ _ _ _).1, (put_bx _ _ _ _).2.1, (put_bx _ _ _ _).2.2]; exact HI, hF.put hdst (fun hg => absurd ((gdOf_wanted hgd).2 hg) hw) rfl (fun _ => rfl), hl, hbs⟩
                · subst h1; exact absurd ((gdOf_wanted hgd).2 trivial) hw
            split at h
            · rename_i r' cd' hq
              split at h
              · injection h with h
                simp only [Prod.mk.injEq] at h
                obtain ⟨rfl, rfl, rfl⟩ := h
                exact still hc kk
              · injection h with h
                simp only [Prod.mk.injEq] at h
                obtain ⟨rfl, rfl, rfl⟩ := h
                exact quiet (qopN_some hq) hc kk
            · injection h with h
              simp only [Prod.mk.injEq] at h
              obtain ⟨rfl, rfl, rfl⟩ := h
              exact still hc kk
          · cases h
    · cases h
theorem vrunT_conds {md : Option Nat} {ops : Array Oper} {L A : List Nat} : ∀ (l : List Oper) (k : Nat) (sq st : St) (c : Prop), (vrunT τ md nt ops L A l k sq st c).2.2.1 → c := by
  intro l
  induction l with
  | nil => intro k sq st c h; exact h
  | cons o l ih =>
    intro k sq st c h
    unfold vrunT at h
    split at h
    · exact (ih _ _ _ _ h).1
    · exact h
theorem vrunT_wpT {ops : Array Oper} {Q : Exit → Act → World → Prop} {L A : List Nat} {md : Option Nat} (hτ : τ.ok P) (hN : ∀ q, md = some q → N.bx.length ≤ q) : ∀ (l : List Oper) (k : Nat) (sq st : St) (c c' : Prop) (l' : List Oper) (k' : Nat), vrunT τ md nt ops L A l k sq st c = (sq', st', c', l', k') → c' →
    ∀ (a : Act) (w : World), RelT P w0 N nt gS sq st a w → (∀ a w, RelT P w0 N nt gS sq' st' a w → wpT P ops Q (Mem gS) L A l' k' a w) → wpT P ops Q (Mem gS) L A l k a w := by
  intro l
  induction l with
  | nil => intro k sq st c c' l' k' h _ a w H kk; simp only [vrunT, Prod.mk.injEq] at h; obtain ⟨rfl, rfl, rfl, rfl, rfl⟩ := h; exact kk _ _ H
  | cons o l ih =>
    intro k sq st c c' l' k' h hc a w H kk
    unfold vrunT at h
    split at h
    · rename_i sq1 st1 cd1 hs
      have hc1 : cd1 := by have := vrunT_conds (τ := τ) (nt := nt) (md := md) (ops := ops) (L := L) (A := A) l (k + 1) sq1 st1 (c ∧ cd1); rw [h] at this; exact (this hc).2
      exact vstepT_wpT hτ hN hs hc1 H fun a w H' => ih (k + 1) sq1 st1 _ c' l' k' h hc a w H' kk
    · simp only [Prod.mk.injEq] at h
      obtain ⟨rfl, rfl, rfl, rfl, rfl⟩ := h
      exact kk _ _ H
theorem Inv.loose {bx : List (Ty × AV)} {fz : List Nat} {rw_ : List (TypeId × Nat)} (h : Inv P w0 N g bx fz rw_ w) : Inv P { w with heap := #[] } ⟨fun _ _ => none, [], []⟩ g bx fz rw_ w :=
  ⟨h.mem, ⟨⟨rfl, rfl, rfl, Nat.zero_le _, fun k hk => absurd hk (Nat.not_lt_zero _)⟩, fun _ _ _ _ => .inl (Nat.zero_le _), fun _ _ _ _ _ => .inl (Nat.zero_le _), fun b hb => absurd hb (Nat.not_lt_zero _), ⟨fun _ _ _ h => (by cases h), fun _ _ h => (by cases h), fun _ _ h => (by cases h)⟩⟩, h.br, h.fz, h.wr, h.wz⟩
/-- A region that draws its order. -/
theorem v_draw {id : Nat} {Q : Exit → Act → World → Prop} {l : List Oper} (nb : Nat) (L A : List Nat) (hm : P.follows .mixedOrders = true) (hchk : chk l.toArray (Region.before l.toArray) L A = true) (H : Rel P w0 N nt st a w)
    (hb : (st.bx.take nb).all (fun x => low nb 0 4 x.2) = true)
    (k : ∀ gS, RelT P w0 N nt gS ⟨st.t.filter fun p => low nb 0 4 p.2.2, st.bx.take nb, st.fz, []⟩ st a w.drew → wpT P l.toArray Q (Mem gS) L A l 0 a w.drew) : (Code.region id l.toArray true).wp P Q a w := by
  obtain ⟨g, HI, hF⟩ := H
  have HI' := HI.drew
  have hc := HI'.loose.cut (nr := 0) (Nat.zero_le _) (Nat.zero_le _) hb
  have hgb : ∀ (i : Nat) x, (g.cut nb 0).bx[i]? = some x → g.bx[i]? = some x := fun i x hx => by
    have : (g.bx.take nb)[i]? = some x := hx
    rw [List.getElem?_take] at this
    split at this
    · exact this
    · cases this
  have hle : (g.cut nb 0).le g := ⟨fun _ _ _ h => h, fun i x hx => ⟨x, hgb i x hx, x.same⟩, fun i r hr => by simp [Gh.cut] at hr⟩
  have hbs : Bs (g.cut nb 0) g := fun i x hx => ⟨x, hgb i x hx, rfl, rfl, rfl, rfl, rfl⟩
  have HT : RelT P w0 N nt (g.cut nb 0) ⟨st.t.filter fun p => low nb 0 4 p.2.2, st.bx.take nb, st.fz, []⟩ st a w.drew :=
    ⟨hc.mem, by simp [Gh.cut], ⟨hF.sz, hF.df, fun p hp hg => by
      simp only [List.mem_filter] at hp
      exact (hF.t p hp.1 hg).low_ (d := 3) hp.2, fun p hp hg => hF.u p (List.mem_filter.1 hp).1 hg⟩, hc.br, g, HI', hF, hle, hbs⟩
  exact wp_region_T L A (Mem (g.cut nb 0)) hm hchk HT.mem (k _ HT)
theorem v_drawNil {ops : Array Oper} {Q : Exit → Act → World → Prop} {L A : List Nat} {k : Nat} (H : RelT P w0 N nt gS sq st a w) (h : Rel P w0 N nt st a w → Q .normal a w) : wpT P ops Q (Mem gS) L A [] k a w := by
  obtain ⟨_, _, _, _, g, HI, hF, _⟩ := H
  exact h ⟨g, HI, hF⟩
/-- A call in such a region. -/
theorem v_callT {ops : Array Oper} {Q : Exit → Act → World → Prop} {L A : List Nat} {k : Nat} {rest : List Oper} {o : Oper} {f : FuncId} {xs : List Operand} {ats : Array TypeId} {bxc bx' : List (Ty × AV)} {fzc fz' : List Nat} {rwc rw' : List (TypeId × Nat)} {args : List AV} {res : AV} (js ks : List Nat)
    (hc : VX P f bxc fzc rwc args bx' fz' rw' res) (H : RelT P w0 N nt gS sq st a w) (hL : L.contains k = true) (hjs : js.all (fun j => decide (sq.bx.length ≤ j)) = true)
    (hgd : o.guard = none) (ho : o.op = .call ⟨.value (.func f), xs.toArray, ats⟩) (hchk : (okSel js st.bx.length && okSel ks st.rw.length && usesB js st.bx && fzOk js st.fz fzc 0 && xs.all (fun x => argOk js (st.ev none x)) && uses some 4 res && bx'.all (fun x => uses some 4 x.2) && okDst nt none o.dst) = true)
    (hb : bxs (pickB js ks st.bx) bxc) (hr : ks.filterMap (st.rw[·]?) = rwc) (ha : allP (sub 4) (cargs st js ks xs) args)
    (kk : ∀ a w, RelT P w0 N nt gS (sq.lose o.dst) ((⟨st.t, mergeL st.bx js (renB js ks st.bx.length st.rw.length bx'), st.fz ++ fz'.map (nth js st.bx.length), mergeL st.rw ks rw'⟩ : St).put o.dst none (ren (fun k => some (nth js st.bx.length k)) (fun k => some (nth ks st.rw.length k)) 4 res)) a w → wpT P ops Q (Mem gS) L A rest (k + 1) a w) : wpT P ops Q (Mem gS) L A (o :: rest) k a w := by
  obtain ⟨hfok, hcall⟩ := hc
  obtain ⟨hM, hrw, hFq, hBq, g, HI, hF, hle, hbs⟩ := H
  simp only [Bool.and_eq_true] at hchk
  obtain ⟨⟨⟨⟨⟨⟨⟨c1, c2⟩, c3⟩, c4⟩, c5⟩, c6⟩, c7⟩, c8⟩ := hchk
  obtain ⟨hj, nj⟩ := okSel_ok c1
  obtain ⟨hk, nk⟩ := okSel_ok c2
  obtain ⟨h1, h2⟩ := cargs_ok HI hF hj hk c5 ha
  unfold wpT
  rw [if_pos (by simp [Region.wanted, hgd]), if_pos hL]
  unfold Oper.wp
  rw [run_callF hfok xs ats ho w, Oper.upon_enter]
  have HP : Inv P w (g.pick js ks) (g.pick js ks) bxc fzc rwc w := HI.pick js ks hj hk nj nk (usesB_ok c3) hb (fun i j hi hm => by simpa using fzOk_ok c4 i j hi hm) hr
    ⟨Kept.refl _ _, fun i x hx hxo => .inr ⟨x, hx, hxo, rfl⟩, fun i r k hr hrk => .inr ⟨r, hr, hrk⟩, fun _ _ _ _ => rfl, Gh.le.refl _⟩
  refine (hcall w (g.pick js ks) (xs.map a.eval) HP (by simp [h1]) h2).mono fun e w' hp => ?_
  obtain ⟨g1, v, rfl, HI1, hv⟩ := hp
  obtain ⟨k1, k2, k3, k4⟩ := HI.call HI1 hj hk nj nk (fun x hx => List.all_eq_true.1 c7 x hx)
  have hv' := hv.ren_ (g1 := g1) (g2 := ⟨g1.ro, mergeL g.bx js g1.bx, mergeL g.rw ks g1.rw⟩) (fb := fun k => some (nth js st.bx.length k)) (fr := fun k => some (nth ks st.rw.length k)) (d := 3) rfl (fun i j x hij hx => by injection hij with hij; subst hij; exact k3 i x hx) (fun i j x hij hx => by injection hij with hij; subst hij; exact k4 i x hx) (uses_some c6)
  have hbs' : Bs gS ⟨g1.ro, mergeL g.bx js g1.bx, mergeL g.rw ks g1.rw⟩ := fun i x hx => by
    obtain ⟨y, h3, h4⟩ := hbs i x hx
    refine ⟨y, merge_old (fun hm => ?_) h3, h4⟩
    have h5 := List.all_eq_true.1 hjs i hm
    simp only [decide_eq_true_eq] at h5
    have h6 := (List.getElem?_eq_some_iff.1 hx).1
    rw [hBq.len] at h6; omega
  have hM' := MemS (st := ⟨st.t, mergeL st.bx js (renB js ks st.bx.length st.rw.length bx'), st.fz ++ fz'.map (nth js st.bx.length), mergeL st.rw ks rw'⟩) hM hrw k2 (hle.trans k1) hbs'
  refine ⟨hM', kk _ _ ⟨hM', hrw, hFq.lose v, by rw [lose_bx]; exact hBq, _, ?_, (hF.mono k1).put c8 (fun _ => hv') rfl (fun h => absurd trivial h), hle.trans k1, hbs'⟩⟩
  rw [(put_bx _ _ _ _).1, (put_bx _ _ _ _).2.1, (put_bx _ _ _ _).2.2]
  exact k2
theorem v_moreT {ops : Array Oper} {Q : Exit → Act → World → Prop} {L A : List Nat} {q : Nat} {l l' : List Oper} {k k' : Nat} {c' : Prop} (hτ : τ.ok P) (hN : N.bx.length ≤ q) (H : RelT P w0 N nt gS sq st a w) (h : vrunT τ (some q) nt ops L A l k sq st True = (sq', st', c', l', k')) (hc : c')
    (kk : ∀ a w, RelT P w0 N nt gS sq' st' a w → wpT P ops Q (Mem gS) L A l' k' a w) : wpT P ops Q (Mem gS) L A l k a w :=
  vrunT_wpT hτ (hNq hN) l k sq st True c' l' k' h hc a w H kk
end
end Go.Proofs.Ytigmpdhnhkdeiaa

/- Calls under a guard. -/
namespace Go.Proofs.Ytigmpdhnhkdeiaa
open Go Go.RowKit
/-- What a known state is made plain by. -/

theorem pk : type_of% (And.intro @eq_self.{1} <| And.intro @Bool.not_true <| And.intro @Bool.not_false <| And.intro @cond_true.{1} <| And.intro @cond_false.{1} <| And.intro @List.cons_append.{0} <| And.intro @List.nil_append.{0} <| And.intro @List.append_nil.{0} <| And.intro @List.length_cons.{0} <| And.intro @List.length_nil.{0} <| And.intro @List.length_append.{0} <| And.intro @Nat.zero_add <| And.intro @Nat.add_zero <| And.intro @List.set_cons_zero.{0} <| And.intro @List.set_cons_succ.{0} <| And.intro @List.getElem?_cons_zero.{0} <| And.intro @List.getElem?_cons_succ.{0} <| And.intro @or_self <| And.intro @or_false <| And.intro @false_or <| And.intro @decide_true <| And.intro @decide_false <| And.intro @List.map_cons.{0, 0} <| And.intro @List.map_nil.{0, 0} <| And.intro @Int.toNat_natCast <| And.intro @Option.some.injEq.{0} <| And.intro @List.filter_cons.{0} <| And.intro @List.filter_nil.{0} <| And.intro @List.contains_cons.{0} <| And.intro @List.contains_nil.{0} <| And.intro @Bool.or_self <| And.intro @Bool.or_false <| And.intro @Bool.false_or <| And.intro @Bool.or_true <| And.intro @Bool.true_or <| And.intro @Bool.false_eq_true <| And.intro @List.take_succ_cons.{0} <| And.intro @List.take_zero.{0} <| And.intro @List.take_nil.{0} <| And.intro @rep1 <| And.intro @rep2 <| And.intro @rep3 <| And.intro @rep4 <| And.intro @rep5 <| And.intro @UInt8.ofNat_toNat <| And.intro @wrapu8 <| And.intro @wrapu16 <| And.intro @wrapu32 <| And.intro @wrapu64 <| And.intro @Nat.min_def <| And.intro @sub_refl <| And.intro @List.getD_nil.{0} <| And.intro @List.getD_cons_zero.{0} <| And.intro @List.getD_cons_succ.{0} <| And.intro @List.drop_succ_cons.{0} <| And.intro @List.drop_nil.{0} <| And.intro @Option.bind_some.{0, 0} <| And.intro @Option.bind_none.{0, 0} <| And.intro @Option.getD_some.{0} <| And.intro @Nat.sub_zero <| And.intro @Nat.sub_self <| And.intro @Nat.add_sub_cancel_left <| And.intro @Bool.and_self <| And.intro @Bool.and_true <| And.intro @Bool.true_and <| And.intro @List.all_cons.{0} <| And.intro @List.all_nil.{0} <| And.intro @Option.map_some.{0, 0} <| And.intro @Option.map_none.{0, 0} <| And.intro @Int.toNat_zero <| And.intro @List.drop_zero.{0} <| And.intro @List.take_length.{0} <| And.intro @and_self <| And.intro @and_true <| And.intro @true_and <| @implies_true.{0}) :=
  And.intro @eq_self.{1} <| And.intro @Bool.not_true <| And.intro @Bool.not_false <| And.intro @cond_true.{1} <| And.intro @cond_false.{1} <| And.intro @List.cons_append.{0} <| And.intro @List.nil_append.{0} <| And.intro @List.append_nil.{0} <| And.intro @List.length_cons.{0} <| And.intro @List.length_nil.{0} <| And.intro @List.length_append.{0} <| And.intro @Nat.zero_add <| And.intro @Nat.add_zero <| And.intro @List.set_cons_zero.{0} <| And.intro @List.set_cons_succ.{0} <| And.intro @List.getElem?_cons_zero.{0} <| And.intro @List.getElem?_cons_succ.{0} <| And.intro @or_self <| And.intro @or_false <| And.intro @false_or <| And.intro @decide_true <| And.intro @decide_false <| And.intro @List.map_cons.{0, 0} <| And.intro @List.map_nil.{0, 0} <| And.intro @Int.toNat_natCast <| And.intro @Option.some.injEq.{0} <| And.intro @List.filter_cons.{0} <| And.intro @List.filter_nil.{0} <| And.intro @List.contains_cons.{0} <| And.intro @List.contains_nil.{0} <| And.intro @Bool.or_self <| And.intro @Bool.or_false <| And.intro @Bool.false_or <| And.intro @Bool.or_true <| And.intro @Bool.true_or <| And.intro @Bool.false_eq_true <| And.intro @List.take_succ_cons.{0} <| And.intro @List.take_zero.{0} <| And.intro @List.take_nil.{0} <| And.intro @rep1 <| And.intro @rep2 <| And.intro @rep3 <| And.intro @rep4 <| And.intro @rep5 <| And.intro @UInt8.ofNat_toNat <| And.intro @wrapu8 <| And.intro @wrapu16 <| And.intro @wrapu32 <| And.intro @wrapu64 <| And.intro @Nat.min_def <| And.intro @sub_refl <| And.intro @List.getD_nil.{0} <| And.intro @List.getD_cons_zero.{0} <| And.intro @List.getD_cons_succ.{0} <| And.intro @List.drop_succ_cons.{0} <| And.intro @List.drop_nil.{0} <| And.intro @Option.bind_some.{0, 0} <| And.intro @Option.bind_none.{0, 0} <| And.intro @Option.getD_some.{0} <| And.intro @Nat.sub_zero <| And.intro @Nat.sub_self <| And.intro @Nat.add_sub_cancel_left <| And.intro @Bool.and_self <| And.intro @Bool.and_true <| And.intro @Bool.true_and <| And.intro @List.all_cons.{0} <| And.intro @List.all_nil.{0} <| And.intro @Option.map_some.{0, 0} <| And.intro @Option.map_none.{0, 0} <| And.intro @Int.toNat_zero <| And.intro @List.drop_zero.{0} <| And.intro @List.take_length.{0} <| And.intro @and_self <| And.intro @and_true <| And.intro @true_and <| @implies_true.{0}
theorem cd {c : Prop} (h : c := by ((repeat' (apply And.intro)) <;> first | exact True.intro | assumption | omega | (intro hg; simp at hg; omega) | (intro hg; simp at hg; (repeat' (apply And.intro)) <;> first | omega | (simp; omega)) | (simp; done) | (simp; omega) | (simp [ilo, ihi, IntKind.bits]; omega) | (simp [fit, AV.put]; done) | (simp [fit, AV.put]; omega))) : c := h
section
variable {P : Program} {τ : Tab} {w0 w : World} {N : Gh} {g gS : Gh} {st st' sq sq' : St} {nt : Nat} {a : Act}
def cargsG (st : St) (c : Gd) (js ks : List Nat) (xs : List Operand) : List AV := xs.map fun x => ren (idx? js) (idx? ks) 4 (st.ev c x)
theorem cargs_okG {c : Gd} (hg : gholds a c) (HI : Inv P w0 N g st.bx st.fz st.rw w) (hF : FR g nt st a) {js ks : List Nat} (hj : ∀ j ∈ js, j < st.bx.length) (hk : ∀ k ∈ ks, k < st.rw.length) {xs : List Operand} {args : List AV} (hx : xs.all (fun x => argOk js (st.ev c x)) = true) (ha : allP (sub 4) (cargsG st c js ks xs) args) :
    args.length = xs.length ∧ ∀ (i : Nat) x v, args[i]? = some x → (xs.map a.eval)[i]? = some v → RV (g.pick js ks) x v := by
  obtain ⟨h1, h2⟩ := allP_get ha
  refine ⟨by rw [← h1]; simp [cargsG], fun i x v hi hv => ?_⟩
  obtain ⟨y, hy, hs⟩ := h2 i x hi
  unfold cargsG at hy
  rw [List.getElem?_map] at hy hv
  obtain ⟨o, ho, rfl⟩ := Option.map_eq_some_iff.1 hy
  rw [ho] at hv
  simp only [Option.map_some, Option.some.injEq] at hv
  subst hv
  have hc := List.all_eq_true.1 hx o (List.mem_of_getElem? ho)
  simp only [argOk, Bool.and_eq_true, Bool.not_eq_true'] at hc
  have hr := ev_sound hF hg o
  have hlr : g.rw.length = st.rw.length := by rw [← HI.wr, List.length_map]
  have hp := hr.pick_ (js := js) (ks := ks) (d := 3) (fun j hm => by rw [HI.br.len]; exact hj j hm) (fun k hm => by rw [hlr]; exact hk k hm) hc.1.1
  have ht : ∀ az, st.ev c o ≠ .tup az := fun az e => by rw [e] at hc; simp at hc
  exact ((hp.rv1 (ren_any hc.1.2) (ren_tup ht)).sub_ hs).rv
/-- A call under a guard that leaves boxes and rows as they are. -/
theorem v_callG {ops : Array Oper} {Q : Exit → Act → World → Prop} {rest : List Oper} {o : Oper} {f : FuncId} {xs : List Operand} {ats : Array TypeId} {bxc bx' : List (Ty × AV)} {fzc fz' : List Nat} {rwc rw' : List (TypeId × Nat)} {args : List AV} {res : AV} {c : Gd} (js ks : List Nat)
    (hc : VX P f bxc fzc rwc args bx' fz' rw' res) (H : Rel P w0 N nt st a w)
    (hgd : gdOf ops o = some c) (ho : o.op = .call ⟨.value (.func f), xs.toArray, ats⟩) (hchk : (okSel js st.bx.length && okSel ks st.rw.length && usesB js st.bx && fzOk js st.fz fzc 0 && xs.all (fun x => argOk js (st.ev c x)) && uses some 4 res && bx'.all (fun x => uses some 4 x.2) && okDst nt c o.dst) = true)
    (hb : bxs (pickB js ks st.bx) bxc) (hr : ks.filterMap (st.rw[·]?) = rwc) (ha : allP (sub 4) (cargsG st c js ks xs) args)
    (hmb : mergeL st.bx js (renB js ks st.bx.length st.rw.length bx') = st.bx) (hmf : fz'.map (nth js st.bx.length) = []) (hmr : mergeL st.rw ks rw' = st.rw)
    (k : ∀ a w, Rel P w0 N nt (st.put o.dst c (ren (fun k => some (nth js st.bx.length k)) (fun k => some (nth ks st.rw.length k)) 4 res)) a w → wpList P ops Q rest a w) : wpList P ops Q (o :: rest) a w := by
  obtain ⟨hfok, hcall⟩ := hc
  obtain ⟨g, HI, hF⟩ := H
  simp only [Bool.and_eq_true] at hchk
  obtain ⟨⟨⟨⟨⟨⟨⟨c1, c2⟩, c3⟩, c4⟩, c5⟩, c6⟩, c7⟩, c8⟩ := hchk
  obtain ⟨hj, nj⟩ := okSel_ok c1
  obtain ⟨hk, nk⟩ := okSel_ok c2
  refine wpList_step fun K hK => ?_
  by_cases hw : Region.wanted o (yielded ops a.tmps) = true
  · rw [if_pos hw]
    obtain ⟨h1, h2⟩ := cargs_okG ((gdOf_wanted hgd).1 hw) HI hF hj hk c5 ha
    unfold Oper.wp
    rw [run_callF hfok xs ats ho w, Oper.upon_enter]
    have HP : Inv P w (g.pick js ks) (g.pick js ks) bxc fzc rwc w := HI.pick js ks hj hk nj nk (usesB_ok c3) hb (fun i j hi hm => by simpa using fzOk_ok c4 i j hi hm) hr
      ⟨Kept.refl _ _, fun i x hx hxo => .inr ⟨x, hx, hxo, rfl⟩, fun i r k hr hrk => .inr ⟨r, hr, hrk⟩, fun _ _ _ _ => rfl, Gh.le.refl _⟩
    refine (hcall w (g.pick js ks) (xs.map a.eval) HP (by simp [h1]) h2).mono fun e w' hp => ?_
    obtain ⟨g1, v, rfl, HI1, hv⟩ := hp
    obtain ⟨k1, k2, k3, k4⟩ := HI.call HI1 hj hk nj nk (fun x hx => List.all_eq_true.1 c7 x hx)
    have hv' := hv.ren_ (g1 := g1) (g2 := ⟨g1.ro, mergeL g.bx js g1.bx, mergeL g.rw ks g1.rw⟩) (fb := fun k => some (nth js st.bx.length k)) (fr := fun k => some (nth ks st.rw.length k)) (d := 3) rfl (fun i j x hij hx => by injection hij with hij; subst hij; exact k3 i x hx) (fun i j x hij hx => by injection hij with hij; subst hij; exact k4 i x hx) (uses_some c6)
    rw [hmb, hmf, hmr, List.append_nil] at k2
    refine hK _ _ (k _ _ ⟨_, ?_, (hF.mono k1).put c8 (fun _ => hv') rfl (fun h => absurd ((gdOf_wanted hgd).1 hw) h)⟩)
    cases o.dst <;> exact k2
  · rw [if_neg hw]
    refine hK _ _ (k _ _ ⟨g, ?_, hF.put c8 (fun hg => absurd ((gdOf_wanted hgd).2 hg) hw) rfl (fun _ => rfl)⟩)
    cases o.dst <;> exact HI
end
end Go.Proofs.Ytigmpdhnhkdeiaa

/- Guards that are known to hold; pointers to what changes no more. -/
namespace Go.Proofs.Ytigmpdhnhkdeiaa
open Go Go.RowKit
section
variable {P : Program} {τ : Tab} {w0 w : World} {N : Gh} {g gS : Gh} {st st' sq sq' : St} {nt : Nat} {a : Act}
theorem cd2 {c : Prop} (h : c := by ((repeat' (apply And.intro)) <;> (intros; first | omega | (simp at *; omega) | (simp_all; done) | (simp_all; omega)))) : c := h
theorem not_wanted {ops : Array Oper} {o : Oper} {t : Nat} {b : Bool} (hF : FR g nt st a) (hgd : gdOf ops o = some (some (t, b))) (hk : st.tmp none t = .v (.bool (!b))) : ¬ Region.wanted o (yielded ops a.tmps) = true := fun hw => by
  have h1 := tmp_sound hF (c := none) trivial t
  rw [hk] at h1
  have h2 : a.tmps.getD t undef = .bool b := (gdOf_wanted hgd).1 hw
  rw [h1.v_inv] at h2
  injection h2 with h2
  cases b <;> cases h2
/-- An operation whose guard is known not to hold: of what it would yield anything may be said. -/
theorem v_skip {ops : Array Oper} {Q : Exit → Act → World → Prop} {rest : List Oper} {o : Oper} {t : Nat} {b : Bool} (r : AV) (H : Rel P w0 N nt st a w) (hgd : gdOf ops o = some (some (t, b))) (hk : st.tmp none t = .v (.bool (!b))) (hd : okDst nt (some (t, b)) o.dst = true)
    (k : ∀ a w, Rel P w0 N nt (st.put o.dst (some (t, b)) r) a w → wpList P ops Q rest a w) : wpList P ops Q (o :: rest) a w := by
  obtain ⟨g, HI, hF⟩ := H
  have hw := not_wanted hF hgd hk
  refine wpList_step fun K hK => ?_
  rw [if_neg hw]
  refine hK _ _ (k _ _ ⟨g, ?_, hF.put hd (fun hg => absurd ((gdOf_wanted hgd).2 hg) hw) rfl (fun _ => rfl)⟩)
  cases o.dst <;> exact HI
/-- A box that changes no more: a pointer to it is one to what stays for ever. -/
theorem v_ref (H : Rel P w0 N nt st a w) (d i : Nat) {T : Ty} {x : AV} (hN : N.bx.length ≤ i) (hb : st.bx[i]? = some (T, x)) (hp : pure_ 4 x = true) (hd : find d st.t = some (none, .ptr i [])) (hTg : T.grows = false := by rfl) :
    Rel P w0 N nt ⟨nilT d (.ref T (strip 4 x)) st.t, st.bx, i :: st.fz, st.rw⟩ a w := by
  obtain ⟨g, HI, hF⟩ := H
  obtain ⟨y, hy, hT, hrc⟩ := HI.br.at_ i T x hb
  obtain ⟨hyo, hym, hrc⟩ := hrc.rc hTg
  obtain ⟨g1, l1, I1, ⟨y', hy', hblk, hcells, hty, _⟩, hro⟩ := HI.freeze hy hyo hym hN
  refine ⟨g1, I1, (hF.mono l1.1).sz, hF.df, fun p hp' hg => ?_, fun p hp hg => by rcases nilT_mem hp with h | h; (subst h; exact absurd trivial hg); exact hF.u p h hg⟩
  rcases nilT_mem hp' with h | h
  · subst h
    have h1 := (hF.t _ (find_mem hd) trivial).ptr_inv
    have hv : a.tmps.getD d undef = .pointer (some ⟨y.blk, 0, none⟩) := by
      generalize a.tmps.getD d undef = u at h1
      cases h1 with
      | ptr h ho =>
        rw [hy] at h
        injection h with h
        subst h
        rw [Ty.loc_nil (Ty.loc_grows ho)] at ho
        simp only [Option.some.injEq, Prod.mk.injEq] at ho
        rw [ho.1]
    have : RV g1 (.ref T (strip 4 x)) (a.tmps.getD d undef) := by
      rw [hv]
      exact (RC.ref (g := g1) y.cells ((hrc.mono l1.1).strip_ hp) (fun j u hu => by rw [Nat.zero_add]; exact hro j u hu)).rvp
    exact this
  · exact (hF.mono l1.1).t p h hg
/-- A few steps. -/
theorem v_some {ops : Array Oper} {Q : Exit → Act → World → Prop} {q : Nat} {o : Oper} {l : List Oper} {c' : Prop} (n : Nat) (hτ : τ.ok P) (hN : N.bx.length ≤ q) (H : Rel P w0 N nt st a w) (h : vrun τ (some q) nt ops ((o :: l).take n) st True = (st', c', [])) (hc : c')
    (k : ∀ a w, Rel P w0 N nt st' a w → wpList P ops Q ((o :: l).drop n) a w) : wpList P ops Q (o :: l) a w := v_steps n hτ hN H h hc k
theorem v_someT {ops : Array Oper} {Q : Exit → Act → World → Prop} {L A : List Nat} {q k k' : Nat} {o : Oper} {l : List Oper} {c' : Prop} (n : Nat) (hτ : τ.ok P) (hN : N.bx.length ≤ q) (H : RelT P w0 N nt gS sq st a w) (h : vrunT τ (some q) nt ops L A ((o :: l).take n) k sq st True = (sq', st', c', [], k')) (hc : c')
    (kk : ∀ a w, RelT P w0 N nt gS sq' st' a w → wpT P ops Q (Mem gS) L A ((o :: l).drop n) k' a w) : wpT P ops Q (Mem gS) L A (o :: l) k a w := by
  have key : ∀ (l1 l2 : List Oper) (k : Nat) (sq st : St) (c : Prop), vrunT τ (some q) nt ops L A l1 k sq st c = (sq', st', c', [], k') → c' → ∀ a w, RelT P w0 N nt gS sq st a w → (∀ a w, RelT P w0 N nt gS sq' st' a w → wpT P ops Q (Mem gS) L A l2 k' a w) → wpT P ops Q (Mem gS) L A (l1 ++ l2) k a w := by
    intro l1 l2
    induction l1 with
    | nil => intro k sq st c h _ a w H kk; simp only [vrunT, Prod.mk.injEq] at h; obtain ⟨rfl, rfl, _, _, rfl⟩ := h; exact kk _ _ H
    | cons o l1 ih =>
      intro k sq st c h hc a w H kk
      unfold vrunT at h
      split at h
      · rename_i sq1 st1 cd1 hs
        have hc1 : cd1 := by have := vrunT_conds (τ := τ) (nt := nt) (md := some q) (ops := ops) (L := L) (A := A) l1 (k + 1) sq1 st1 (c ∧ cd1); rw [h] at this; exact (this hc).2
        exact vstepT_wpT hτ (hNq hN) hs hc1 H fun a w H' => ih (k + 1) sq1 st1 _ h hc a w H' kk
      · simp at h
  have := key ((o :: l).take n) ((o :: l).drop n) k sq st True h hc a w H kk
  rwa [List.take_append_drop] at this
end
section
variable {P : Program} {τ : Tab} {w0 w : World} {N : Gh} {st : St} {nt : Nat} {a : Act}
end
section
variable {P : Program} {τ : Tab} {w0 w : World} {N : Gh} {g gS : Gh} {st st' sq sq' : St} {nt : Nat} {a : Act} {r : AV} {cd : Prop}
end
theorem cb {c : Prop} (h : c := by (simp [pickB, bxs, ren, idx?, sub_refl, sub, allP] <;> omega)) : c := h
end Go.Proofs.Ytigmpdhnhkdeiaa
/- Bits in bytes, the highest first. -/
namespace Go.Proofs.Ytigmpdhnhkdeiaa
open Go Go.RowKit
def b8 (f : Nat → Bool) : UInt8 := (if f 0 then 128 else 0) ||| (if f 1 then 64 else 0) ||| (if f 2 then 32 else 0) ||| (if f 3 then 16 else 0) ||| (if f 4 then 8 else 0) ||| (if f 5 then 4 else 0) ||| (if f 6 then 2 else 0) ||| (if f 7 then 1 else 0)
def bitsB (n : Nat) (f : Nat → Bool) : List UInt8 := (List.range ((n + 7) / 8)).map fun j => b8 fun k => f (8 * j + k)
/-- A bit of a byte. -/
def bitAt (c : UInt8) (m : Nat) : Bool := (c &&& UInt8.ofNat (128 / 2 ^ m)) != 0
theorem pow128 (m : Nat) : 128 / 2 ^ m < 256 := Nat.lt_of_le_of_lt (Nat.div_le_self _ _) (by decide)
theorem and_bit (c : UInt8) (m : Nat) : (!decide (bits .and .u8 (c.toNat : Int) (128 / 2 ^ m) = 0)) = bitAt c m := by
  have e : (128 / 2 ^ m : Int) = ((128 / 2 ^ m : Nat) : Int) := by rw [Int.natCast_ediv, Int.natCast_pow]; rfl
  have h : bits .and .u8 (c.toNat : Int) (128 / 2 ^ m) = (((c &&& UInt8.ofNat (128 / 2 ^ m)).toNat : Nat) : Int) := by
    rw [e, u8_and_nat _ _ (UInt8.toNat_lt _) (pow128 _), UInt8.toNat_and, UInt8.toNat_ofNat', Nat.mod_eq_of_lt (pow128 _)]
  rw [h]
  unfold bitAt
  by_cases h0 : c &&& UInt8.ofNat (128 / 2 ^ m) = 0
  · simp [h0]
  · have h1 : (c &&& UInt8.ofNat (128 / 2 ^ m)).toNat ≠ 0 := fun e => h0 (UInt8.toNat_inj.1 (by simpa using e))
    have h2 : (((c &&& UInt8.ofNat (128 / 2 ^ m)).toNat : Nat) : Int) ≠ 0 := by omega
    rw [decide_eq_false h2]; simpa using h0
end Go.Proofs.Ytigmpdhnhkdeiaa
/- Keys as ways down: bits, how many are shared, what rises. In plain Lean. -/
namespace Go.Proofs.Ytigmpdhnhkdeiaa
open Go Go.RowKit
def bitN (p : List UInt8) (d : Nat) : Bool := bitAt (p.getD (d / 8) 0) (d % 8)
def pbit (p : List UInt8) (d : Int) : Int := if 0 ≤ d ∧ d < 256 then (if bitN p d.toNat then 1 else 0) else -1
def comF (p q : List UInt8) : Nat → Nat → Nat
  | 0, d => d
  | f + 1, d => if bitN p d = bitN q d then comF p q f (d + 1) else d
def com (p q : List UInt8) : Nat := comF p q 256 0
def agree (d : Nat) (p q : List UInt8) : Prop := ∀ t, t < d → bitN p t = bitN q t
theorem comF_spec (p q : List UInt8) : ∀ f d, d ≤ comF p q f d ∧ comF p q f d ≤ d + f ∧ (∀ t, d ≤ t → t < comF p q f d → bitN p t = bitN q t) ∧ (comF p q f d < d + f → bitN p (comF p q f d) ≠ bitN q (comF p q f d))
  | 0, d => ⟨Nat.le_refl _, Nat.le_refl _, fun t h1 h2 => by simp only [comF] at h2; omega, fun h => by simp only [comF] at h; omega⟩
  | f + 1, d => by
    have ih := comF_spec p q f (d + 1)
    simp only [comF]
    split
    · rename_i he
      obtain ⟨h1, h2, h3, h4⟩ := ih
      refine ⟨by omega, by omega, fun t ht hl => ?_, fun h => h4 (by omega)⟩
      by_cases htd : t = d
      · subst htd; exact he
      · exact h3 t (by omega) hl
    · rename_i he
      exact ⟨Nat.le_refl _, by omega, fun t h1 h2 => by omega, fun _ => he⟩
theorem com_le (p q : List UInt8) : com p q ≤ 256 := by have := (comF_spec p q 256 0).2.1; simpa [com] using this
theorem com_agree (p q : List UInt8) : agree (com p q) p q := fun t ht => (comF_spec p q 256 0).2.2.1 t (Nat.zero_le _) ht
theorem com_ne (p q : List UInt8) (h : com p q < 256) : bitN p (com p q) ≠ bitN q (com p q) := (comF_spec p q 256 0).2.2.2 (by simpa [com] using h)
theorem com_of {p q : List UInt8} {c : Nat} (hc : c ≤ 256) (h : agree c p q) (hn : c < 256 → bitN p c ≠ bitN q c) : com p q = c := by
  have h1 := com_le p q; have h2 := com_agree p q; have h3 := com_ne p q
  rcases Nat.lt_trichotomy (com p q) c with hl | he | hg
  · exact absurd (h _ hl) (h3 (by omega))
  · exact he
  · exact absurd (h2 _ hg) (hn (by omega))
theorem com_ge {p q : List UInt8} {d : Nat} (hd : d ≤ 256) : d ≤ com p q ↔ agree d p q := by
  constructor
  · intro h t ht; exact com_agree p q t (by omega)
  · intro h
    rcases Nat.lt_or_ge (com p q) d with hl | hg
    · exact absurd (h _ hl) (com_ne p q (by omega))
    · exact hg
theorem com_self (p : List UInt8) : com p p = 256 := com_of (Nat.le_refl _) (fun _ _ => rfl) (fun h => absurd h (by decide))
theorem agree.symm {d : Nat} {p q : List UInt8} (h : agree d p q) : agree d q p := fun t ht => (h t ht).symm
theorem agree.trans {d : Nat} {p q r : List UInt8} (h : agree d p q) (k : agree d q r) : agree d p r := fun t ht => (h t ht).trans (k t ht)
set_option maxRecDepth 100000 in
theorem bitAt_test8 : ∀ n : Fin 256, ∀ m : Fin 8, bitAt (UInt8.ofNat n.val) m.val = n.val.testBit (7 - m.val) := by decide +kernel
theorem bitAt_test (c : UInt8) (m : Nat) (hm : m < 8) : bitAt c m = c.toNat.testBit (7 - m) := by
  have := bitAt_test8 ⟨c.toNat, c.toNat_lt⟩ ⟨m, hm⟩
  simpa using this
set_option maxRecDepth 100000 in
theorem lead8 : ∀ n : Fin 256, n.val ≠ 0 → Lib.bitLen n.val ≤ 8 ∧ 8 - Lib.bitLen n.val < 8 ∧ (∀ t : Fin 8, t.val < 8 - Lib.bitLen n.val → bitAt (UInt8.ofNat n.val) t.val = false) ∧ bitAt (UInt8.ofNat n.val) (8 - Lib.bitLen n.val) = true := by decide +kernel
/-- The first bit in which two bytes part. -/
theorem lead_xor (x y : UInt8) (h : x ≠ y) : 8 - Lib.bitLen (x ^^^ y).toNat < 8 ∧ Lib.bitLen (x ^^^ y).toNat ≤ 8 ∧ (∀ t, t < 8 - Lib.bitLen (x ^^^ y).toNat → bitAt x t = bitAt y t) ∧ bitAt x (8 - Lib.bitLen (x ^^^ y).toNat) ≠ bitAt y (8 - Lib.bitLen (x ^^^ y).toNat) := by
  have hx : ∀ m, m < 8 → bitAt (x ^^^ y) m = (bitAt x m ^^ bitAt y m) := fun m hm => by
    rw [bitAt_test _ _ hm, bitAt_test _ _ hm, bitAt_test _ _ hm, UInt8.toNat_xor, Nat.testBit_xor]
  have hne : (x ^^^ y).toNat ≠ 0 := fun e => h (by
    have : x ^^^ y = 0 := UInt8.toNat_inj.1 (by simpa using e)
    exact UInt8.xor_eq_zero_iff.1 this)
  obtain ⟨h1, h2, h3, h4⟩ := lead8 ⟨(x ^^^ y).toNat, (x ^^^ y).toNat_lt⟩ hne
  simp only [UInt8.ofNat_toNat] at h3 h4 h1 h2
  refine ⟨h2, h1, fun t ht => ?_, fun e => ?_⟩
  · have := h3 ⟨t, by omega⟩ ht
    rw [hx t (by omega)] at this
    simpa using this
  · rw [hx _ h2, e] at h4
    simp at h4
theorem lt_bit (x y : UInt8) (h : x ≠ y) : x < y ↔ bitAt x (8 - Lib.bitLen (x ^^^ y).toNat) = false := by
  obtain ⟨h1, h2, h3, h4⟩ := lead_xor x y h
  have key : ∀ a b : UInt8, (∀ t, t < 8 - Lib.bitLen (x ^^^ y).toNat → bitAt a t = bitAt b t) → bitAt a (8 - Lib.bitLen (x ^^^ y).toNat) = false → bitAt b (8 - Lib.bitLen (x ^^^ y).toNat) = true → a < b := fun a b k1 k2 k3 => by
    rw [UInt8.lt_iff_toNat_lt]
    generalize hc : 8 - Lib.bitLen (x ^^^ y).toNat = c at *
    rw [bitAt_test _ _ h1] at k2 k3
    have e1 : a.toNat / 2 ^ (7 - c + 1) = b.toNat / 2 ^ (7 - c + 1) := by
      apply Nat.eq_of_testBit_eq
      intro i
      rw [Nat.testBit_div_two_pow, Nat.testBit_div_two_pow]
      by_cases hi : i + (7 - c + 1) < 8
      · have := k1 (7 - (i + (7 - c + 1))) (by omega)
        rw [bitAt_test _ _ (by omega), bitAt_test _ _ (by omega), show 7 - (7 - (i + (7 - c + 1))) = i + (7 - c + 1) by omega] at this
        first | exact this | (rw [Nat.add_comm]; exact this)
      · have h2 : ∀ u : UInt8, ∀ j, 8 ≤ j → u.toNat.testBit j = false := fun u j hj => Nat.testBit_lt_two_pow (Nat.lt_of_lt_of_le u.toNat_lt (Nat.pow_le_pow_right (by decide) hj))
        rw [h2 _ _ (by omega), h2 _ _ (by omega)]
    have e2 : ∀ n : Nat, n / 2 ^ (7 - c) = 2 * (n / 2 ^ (7 - c + 1)) + n / 2 ^ (7 - c) % 2 := fun n => by
      have : n / 2 ^ (7 - c + 1) = n / 2 ^ (7 - c) / 2 := by rw [Nat.pow_succ, Nat.div_div_eq_div_mul]
      omega
    rw [Nat.testBit_eq_decide_div_mod_eq] at k2 k3
    have k2' : a.toNat / 2 ^ (7 - c) % 2 ≠ 1 := by simpa using k2
    have k3' : b.toNat / 2 ^ (7 - c) % 2 = 1 := by simpa using k3
    have e3 := e2 a.toNat; have e4 := e2 b.toNat
    rw [e1] at e3
    refine Classical.byContradiction fun hn => ?_
    have := Nat.div_le_div_right (c := 2 ^ (7 - c)) (Nat.le_of_not_lt hn)
    omega
  constructor
  · intro hl
    cases hb : bitAt x (8 - Lib.bitLen (x ^^^ y).toNat)
    · rfl
    · exfalso
      rw [hb] at h4
      have := key y x (fun t ht => (h3 t ht).symm) (by simpa using h4.symm) hb
      rw [UInt8.lt_iff_toNat_lt] at this hl
      omega
  · intro hb
    rw [hb] at h4
    exact key x y h3 hb (by simpa using h4.symm)
/-- The lesser key, by bits. -/
def ltB (p q : List UInt8) : Prop := ∃ c, c < 256 ∧ agree c p q ∧ bitN p c = false ∧ bitN q c = true
theorem ltB.trans {p q r : List UInt8} (h : ltB p q) (k : ltB q r) : ltB p r := by
  obtain ⟨c, hc, h1, h2, h3⟩ := h
  obtain ⟨d, hd, k1, k2, k3⟩ := k
  rcases Nat.lt_trichotomy c d with hl | rfl | hg
  · exact ⟨c, hc, fun t ht => (h1 t ht).trans (k1 t (by omega)), h2, (k1 c hl) ▸ h3⟩
  · rw [h3] at k2; cases k2
  · exact ⟨d, hd, fun t ht => (h1 t (by omega)).trans (k1 t ht), (h1 d hg).trans k2, k3⟩
theorem bitN_cons_lt (x : UInt8) (p : List UInt8) (t : Nat) (h : t < 8) : bitN (x :: p) t = bitAt x t := by
  unfold bitN; rw [Nat.div_eq_of_lt h, Nat.mod_eq_of_lt h]; rfl
theorem bitN_cons_ge (x : UInt8) (p : List UInt8) (t : Nat) : bitN (x :: p) (t + 8) = bitN p t := by
  unfold bitN; rw [Nat.add_div_right _ (by decide), Nat.add_mod_right]; rfl
theorem cmp_lt : ∀ p q : List UInt8, p.length = q.length → (Lib.compareBytes p q < 0 ↔ ∃ c, c < 8 * p.length ∧ agree c p q ∧ bitN p c = false ∧ bitN q c = true)
  | [], [], _ => by simp [Lib.compareBytes]
  | [], _ :: _, h => by cases h
  | _ :: _, [], h => by cases h
  | x :: p, y :: q, h => by
    have hl : p.length = q.length := by simpa using h
    have ih := cmp_lt p q hl
    by_cases he : x = y
    · subst he
      have e : Lib.compareBytes (x :: p) (x :: q) = Lib.compareBytes p q := by
        simp [Lib.compareBytes]
      rw [e, ih]
      constructor
      · rintro ⟨c, hc, h1, h2, h3⟩
        refine ⟨c + 8, by rw [List.length_cons]; omega, fun t ht => ?_, by rw [bitN_cons_ge]; exact h2, by rw [bitN_cons_ge]; exact h3⟩
        by_cases ht8 : t < 8
        · rw [bitN_cons_lt _ _ _ ht8, bitN_cons_lt _ _ _ ht8]
        · obtain ⟨t', rfl⟩ : ∃ t', t = t' + 8 := ⟨t - 8, by omega⟩
          rw [bitN_cons_ge, bitN_cons_ge]; exact h1 t' (by omega)
      · rintro ⟨c, hc, h1, h2, h3⟩
        by_cases hc8 : c < 8
        · rw [bitN_cons_lt _ _ _ hc8] at h2 h3; rw [h2] at h3; cases h3
        · obtain ⟨c', rfl⟩ : ∃ t', c = t' + 8 := ⟨c - 8, by omega⟩
          rw [bitN_cons_ge] at h2 h3
          refine ⟨c', by rw [List.length_cons] at hc; omega, fun t ht => ?_, h2, h3⟩
          have := h1 (t + 8) (by omega)
          rwa [bitN_cons_ge, bitN_cons_ge] at this
    · obtain ⟨l1, l2, l3, l4⟩ := lead_xor x y he
      have lb := lt_bit x y he
      have e : Lib.compareBytes (x :: p) (y :: q) < 0 ↔ x < y := by
        simp only [Lib.compareBytes]
        split
        · rename_i hxy; simp [hxy]
        · rename_i hxy
          constructor
          · intro h; exfalso; revert h
            split
            · simp
            · rename_i hyx
              exfalso; apply he; apply UInt8.toNat_inj.1
              rw [UInt8.lt_iff_toNat_lt] at hxy hyx; omega
          · intro h; exact absurd h hxy
      rw [e, lb]
      constructor
      · intro hb
        rw [hb] at l4
        refine ⟨8 - Lib.bitLen (x ^^^ y).toNat, by rw [List.length_cons]; omega, fun t ht => ?_, by rw [bitN_cons_lt _ _ _ l1]; exact hb, by rw [bitN_cons_lt _ _ _ l1]; simpa using l4.symm⟩
        rw [bitN_cons_lt _ _ _ (by omega), bitN_cons_lt _ _ _ (by omega)]; exact l3 t ht
      · rintro ⟨c, hc, h1, h2, h3⟩
        have hce : c = 8 - Lib.bitLen (x ^^^ y).toNat := by
          rcases Nat.lt_trichotomy c (8 - Lib.bitLen (x ^^^ y).toNat) with hl | he | hg
          · rw [bitN_cons_lt _ _ _ (by omega)] at h2 h3
            rw [l3 c hl, h3] at h2; cases h2
          · exact he
          · have := h1 _ hg
            rw [bitN_cons_lt _ _ _ l1, bitN_cons_lt _ _ _ l1] at this
            exact absurd this l4
        subst hce
        rwa [bitN_cons_lt _ _ _ l1] at h2
theorem cmp_ltB {p q : List UInt8} (hp : p.length = 32) (hq : q.length = 32) : Lib.compareBytes p q < 0 ↔ ltB p q := by
  rw [cmp_lt p q (by omega), hp]; rfl
theorem agree_all : ∀ p q : List UInt8, p.length = q.length → agree (8 * p.length) p q → p = q
  | [], [], _, _ => rfl
  | [], _ :: _, h, _ => by cases h
  | _ :: _, [], h, _ => by cases h
  | x :: p, y :: q, h, ha => by
    have hl : p.length = q.length := by simpa using h
    have e := agree_all p q hl fun t ht => by
      have := ha (t + 8) (by rw [List.length_cons]; omega)
      rwa [bitN_cons_ge, bitN_cons_ge] at this
    by_cases hx : x = y
    · rw [e, hx]
    · exfalso
      obtain ⟨l1, l2, l3, l4⟩ := lead_xor x y hx
      have := ha (8 - Lib.bitLen (x ^^^ y).toNat) (by rw [List.length_cons]; omega)
      rw [bitN_cons_lt _ _ _ l1, bitN_cons_lt _ _ _ l1] at this
      exact l4 this
theorem agree_eq {p q : List UInt8} (hp : p.length = 32) (hq : q.length = 32) (h : agree 256 p q) : p = q := agree_all p q (by omega) (by rw [hp]; exact h)
end Go.Proofs.Ytigmpdhnhkdeiaa
/- The marks of a walk: each is a theorem whose hypotheses are proved by tactics of their own. -/
namespace Go.Proofs.Ytigmpdhnhkdeiaa
open Go Go.RowKit
structure Bx9 (p : Prop) : Prop where
  out : p
theorem bx9k {p q : Act → World → Prop} {G2 : Prop} (k : Bx9 G2) {a : Act} {w : World} (H : p a w) (h : G2 = ∀ a w, p a w → q a w := by rfl) : q a w := (h ▸ k.out) a w H
section
variable {P : Program} {w0 w : World} {N gS : Gh} {nt : Nat} {st s2 sq q2 : St} {a : Act}
theorem nfs {s s2 : St} (h : s = s2 := by ((try simp only [List.nil_append, List.cons_append, pk, elemB, St.put, St.ev, St.tmp, St.keep, find, dropT, slots, AV.put, AV.loc, fitI, convI, IntKind.signed, IntKind.bits, strip, St.lose, mergeL, setAll, nth, renB, ren, idx?, sub, allP, low, bnd, Int.reduceEq, Int.reduceMul, Nat.reduceAdd, Nat.reduceLT, reduceIte, reduceCtorEq, Nat.reduceEqDiff, Nat.reduceLeDiff, Nat.reduceBEq, Int.reducePow, Int.reduceToNat]); (try (simp only [hX]; try simp only [List.nil_append, List.cons_append, pk, elemB, St.put, St.ev, St.tmp, St.keep, find, dropT, slots, AV.put, AV.loc, fitI, convI, IntKind.signed, IntKind.bits, strip, St.lose, mergeL, setAll, nth, renB, ren, idx?, sub, allP, low, bnd, Int.reduceEq, Int.reduceMul, Nat.reduceAdd, Nat.reduceLT, reduceIte, reduceCtorEq, Nat.reduceEqDiff, Nat.reduceLeDiff, Nat.reduceBEq, Int.reducePow, Int.reduceToNat])); rfl)) : s = s2 := h
theorem nf (H : Rel P w0 N nt st a w) (h : st = s2 := by exact nfs) : Rel P w0 N nt s2 a w := h ▸ H
theorem ntf (H : RelT P w0 N nt gS sq st a w) (h1 : sq = q2 := by exact nfs) (h : st = s2 := by exact nfs) : RelT P w0 N nt gS q2 s2 a w := h1 ▸ h ▸ H
theorem ctX {c : Prop} (h : c := by ((try simp only [hX]); (try simp only [hY]); (try simp only [List.nil_append, List.cons_append, pk, elemB, St.put, St.ev, St.tmp, St.keep, find, dropT, slots, AV.put, AV.loc, fitI, convI, IntKind.signed, IntKind.bits, strip, St.lose, mergeL, setAll, nth, renB, ren, idx?, sub, allP, low, bnd, Int.reduceEq, Int.reduceMul, Nat.reduceAdd, Nat.reduceLT, reduceIte, reduceCtorEq, Nat.reduceEqDiff, Nat.reduceLeDiff, Nat.reduceBEq, Int.reducePow, Int.reduceToNat, fit, gcond, ilo, ihi]); first | done | exact cd | exact cd2 | skip)) : c := h
theorem cbX {c : Prop} (h : c := by (first | (simp [pickB, bxs, ren, idx?, List.idxOf_cons, sub_refl, sub, allP, hX] <;> omega) | (simp [pickB, bxs, ren, idx?, List.idxOf_cons, sub_refl, sub, allP] <;> omega))) : c := h
theorem cwX {c : Prop} (h : c := by (first | rfl | (simp [hX] <;> omega) | (simp <;> omega))) : c := h
theorem caX {c : Prop} (h : c := by (first | exact trivial | exact ⟨sub_refl _ _, trivial⟩ | exact ⟨sub_refl _ _, sub_refl _ _, trivial⟩ | exact ⟨sub_refl _ _, sub_refl _ _, sub_refl _ _, trivial⟩ | exact ⟨⟨rfl, sub_refl _ _, trivial⟩, sub_refl _ _, trivial⟩ | (simp [cargs, cargsG, St.ev, St.tmp, find, ren, idx?, sub_refl, sub, allP, resv, resC, bss, hX] <;> omega) | (simp [cargs, cargsG, St.ev, St.tmp, find, ren, idx?, sub_refl, sub, allP, resv, resC, bss] <;> omega))) : c := h
theorem mS {G G2 : Prop} (g : G2) (f : Bx9 G2 → G := by (intro kk9; (repeat (first | refine wp_seq ?_ | refine wp_block ?_ | refine wp_skip ?_ | refine wp_exit ?_)); exact kk9.out)) : G := f ⟨g⟩
theorem mW {G G2 : Prop} (g : G2) (f : Bx9 G2 → G := by (intro kk9; (repeat (first | refine wp_seq ?_ | refine wp_block ?_ | refine wp_skip ?_ | refine wp_exit ?_ | ((first | refine v_some 5 tab_ok hN H (by rfl) ctX ?_ | refine v_more tab_ok hN H (by rfl) (by rfl) ctX ?_); intro a w H; replace H := nf H; (try simp only [List.drop_succ_cons, List.drop_zero, List.drop_nil]); try refine wpList_nil ?_) | refine wp_region_lit ?_)); exact bx9k kk9 H)) : G := f ⟨g⟩
theorem mT {G G2 : Prop} (g : G2) (f : Bx9 G2 → G := by (intro kk9; (repeat (refine v_someT 5 tab_ok hN H (by rfl) ctX ?_; intro a w H; replace H := ntf H; simp only [List.drop_succ_cons, List.drop_zero, List.drop_nil])); (refine v_moreT tab_ok hN H (by rfl) ctX ?_; intro a w H; try replace H := ntf H); exact bx9k kk9 H)) : G := f ⟨g⟩
theorem mN {ops : Array Oper} {Q : Exit → Act → World → Prop} {q : Nat} {l : List Oper} {c' : Prop} {st' : St} (n : Nat) (hN : N.bx.length ≤ q) (H : Rel Try.prog w0 N nt st a w) (g : ∀ a w, Rel Try.prog w0 N nt s2 a w → wpList Try.prog ops Q (l.drop n) a w)
    (h : vrun tab (some q) nt ops (l.take n) st True = (st', c', []) := by rfl) (hc : c' := by exact ctX) (hs : st' = s2 := by exact nfs) : wpList Try.prog ops Q l a w := v_steps n tab_ok hN H h hc fun a w H => g a w (hs ▸ H)
theorem mTN {ops : Array Oper} {Q : Exit → Act → World → Prop} {L A : List Nat} {q k k' : Nat} {o : Oper} {l : List Oper} {c' : Prop} {sq' st' : St} (n : Nat) (hN : N.bx.length ≤ q) (H : RelT Try.prog w0 N nt gS sq st a w) (g : ∀ a w, RelT Try.prog w0 N nt gS q2 s2 a w → wpT Try.prog ops Q (Mem gS) L A ((o :: l).drop n) k' a w)
    (h : vrunT tab (some q) nt ops L A ((o :: l).take n) k sq st True = (sq', st', c', [], k') := by rfl) (hc : c' := by exact ctX) (h1 : sq' = q2 := by exact nfs) (hs : st' = s2 := by exact nfs) : wpT Try.prog ops Q (Mem gS) L A (o :: l) k a w := v_someT n tab_ok hN H h hc fun a w H => g a w (h1 ▸ hs ▸ H)
theorem mC {Q : Exit → Act → World → Prop} {c : Operand} {x y : Code} {b : Bool} (H : Rel P w0 N nt st a w) (h1 : b = true → x.wp P Q a w) (h2 : b = false → y.wp P Q a w) (hc : st.ev none c = .v (.bool b) := by rfl) : (Code.cond c x y).wp P Q a w := v_cond H hc h1 h2
theorem mE {f : FuncId} {fn : Func} {c : Code} {bx bx' : List (Ty × AV)} {fz fz' : List Nat} {rw rws : List (TypeId × Nat)} {args : List AV} {res : AV} (hf : P.funcs[f]? = some fn) (h : ∀ (N : Gh) (w0 : World) (a : Act) (w : World), N.bx.length ≤ bx.length → N.rw.length ≤ rw.length → Rel P w0 N fn.ntmps ⟨slots 0 args, bx, fz, rw⟩ a w → c.wp P (bodyPost P fn (VPost P w0 N bx' fz' rws res)) a w)
    (hb : fn.body = some c := by rfl) (hnm : (fn.name == "runtime.NumGoroutine") = false := by kernel_rfl) (hn : args.length ≤ fn.ntmps := by exact Nat.le_of_ble_eq_true rfl) : VX P f bx fz rw args bx' fz' rws res := v_enter hf hb hnm hn h
theorem mK {p q : Nat} (ks : List Nat) (nb nr : Nat) (hN : N.bx.length ≤ p) (hR : N.rw.length ≤ q) (H : Rel P w0 N nt st a w) (h1 : p ≤ nb := by exact Nat.le_of_ble_eq_true rfl) (h2 : q ≤ nr := by exact Nat.le_of_ble_eq_true rfl) (h3 : keepT ks nb nr st.t = true := by rfl) (h4 : (st.bx.take nb).all (fun x => low nb nr 4 x.2) = true := by rfl)
    (hs : st.keep ks nb nr = s2 := by exact nfs) : Rel P w0 N nt s2 a w := hs ▸ H.keep ks nb nr ⟨Nat.le_trans hN h1, Nat.le_trans hR h2⟩ h3 h4
theorem mEnd {fn : Func} {nb nr : Nat} (js ks : List Nat) (rs : List ResultVar) (ress : List AV) (hN : N.bx.length ≤ nb) (hR : N.rw.length ≤ nr) (H : Rel Try.prog w0 N nt st a w) {bx' : List (Ty × AV)} {fz' : List Nat} {rw' : List (TypeId × Nat)} {res : AV} (ht : tupOf ress = res := by rfl) (hr : fn.results = rs.toArray := by rfl)
    (hchk : (okSel js st.bx.length && okSel ks st.rw.length && usesB js st.bx && preOk js nb && preOk ks nr && rs.all (fun x => argOk js (resv tab st x))) = true := by rfl) (hf : fzOk js st.fz fz' 0 = true := by rfl) (hb : bxs (pickB js ks st.bx) bx' := by exact cbX) (hw : ks.filterMap (st.rw[·]?) = rw' := by exact cwX)
    (he : allP (sub 4) (rs.map fun x => ren (idx? js) (idx? ks) 4 (resv tab st x)) ress := by exact caX) : a.defers = [] ∧ ∃ v, (results fn a.tmps).run Try.prog w = .ok v w ∧ VPost Try.prog w0 N bx' fz' rw' res (.returned v) w := v_end js ks tab_ok ⟨hN, hR⟩ hr H hchk hf hb hw he ht
theorem mCall {ops : Array Oper} {Q : Exit → Act → World → Prop} {rest : List Oper} {o : Oper} {f : FuncId} {xs : List Operand} {ats : Array TypeId} {bxc bx' : List (Ty × AV)} {fzc fz' : List Nat} {rwc rw' : List (TypeId × Nat)} {args : List AV} {res : AV} {s2 : St} (js ks : List Nat) (hc : VX P f bxc fzc rwc args bx' fz' rw' res) (H : Rel P w0 N nt st a w) (g : ∀ a w, Rel P w0 N nt s2 a w → wpList P ops Q rest a w)
    (hgd : o.guard = none := by rfl) (ho : o.op = .call ⟨.value (.func f), xs.toArray, ats⟩ := by rfl) (hchk : (okSel js st.bx.length && okSel ks st.rw.length && usesB js st.bx && fzOk js st.fz fzc 0 && xs.all (fun x => argOk js (st.ev none x)) && uses some 4 res && bx'.all (fun x => uses some 4 x.2) && okDst nt none o.dst) = true := by rfl) (hb : bxs (pickB js ks st.bx) bxc := by exact cbX) (hr : ks.filterMap (st.rw[·]?) = rwc := by exact cwX) (ha : allP (sub 4) (cargs st js ks xs) args := by exact caX)
    (hs : (⟨st.t, mergeL st.bx js (renB js ks st.bx.length st.rw.length bx'), st.fz ++ fz'.map (nth js st.bx.length), mergeL st.rw ks rw'⟩ : St).put o.dst none (ren (fun k => some (nth js st.bx.length k)) (fun k => some (nth ks st.rw.length k)) 4 res) = s2 := by exact nfs) : wpList P ops Q (o :: rest) a w := v_call js ks hc H hgd ho hchk hb hr ha fun a w H => g a w (hs ▸ H)
theorem mCallG {ops : Array Oper} {Q : Exit → Act → World → Prop} {rest : List Oper} {o : Oper} {f : FuncId} {xs : List Operand} {ats : Array TypeId} {bxc bx' : List (Ty × AV)} {fzc fz' : List Nat} {rwc rw' : List (TypeId × Nat)} {args : List AV} {res : AV} {s2 : St} {c : Gd} (js ks : List Nat) (hc : VX P f bxc fzc rwc args bx' fz' rw' res) (H : Rel P w0 N nt st a w) (g : ∀ a w, Rel P w0 N nt s2 a w → wpList P ops Q rest a w)
    (hgd : gdOf ops o = some c := by rfl) (ho : o.op = .call ⟨.value (.func f), xs.toArray, ats⟩ := by rfl) (hchk : (okSel js st.bx.length && okSel ks st.rw.length && usesB js st.bx && fzOk js st.fz fzc 0 && xs.all (fun x => argOk js (st.ev c x)) && uses some 4 res && bx'.all (fun x => uses some 4 x.2) && okDst nt c o.dst) = true := by rfl) (hb : bxs (pickB js ks st.bx) bxc := by exact cbX) (hr : ks.filterMap (st.rw[·]?) = rwc := by exact cwX) (ha : allP (sub 4) (cargsG st c js ks xs) args := by exact caX)
    (hmb : mergeL st.bx js (renB js ks st.bx.length st.rw.length bx') = st.bx := by rfl) (hmf : fz'.map (nth js st.bx.length) = [] := by rfl) (hmr : mergeL st.rw ks rw' = st.rw := by rfl)
    (hs : st.put o.dst c (ren (fun k => some (nth js st.bx.length k)) (fun k => some (nth ks st.rw.length k)) 4 res) = s2 := by exact nfs) : wpList P ops Q (o :: rest) a w := v_callG js ks hc H hgd ho hchk hb hr ha hmb hmf hmr fun a w H => g a w (hs ▸ H)
theorem mCallT {ops : Array Oper} {Q : Exit → Act → World → Prop} {rest : List Oper} {o : Oper} {f : FuncId} {xs : List Operand} {ats : Array TypeId} {bxc bx' : List (Ty × AV)} {fzc fz' : List Nat} {rwc rw' : List (TypeId × Nat)} {args : List AV} {res : AV} {s2 : St} {L A : List Nat} {k : Nat} (js ks : List Nat) (hc : VX P f bxc fzc rwc args bx' fz' rw' res) (H : RelT P w0 N nt gS sq st a w) (g : ∀ a w, RelT P w0 N nt gS q2 s2 a w → wpT P ops Q (Mem gS) L A rest (k + 1) a w) (hL : L.contains k = true := by rfl) (hjs : js.all (fun j => decide (sq.bx.length ≤ j)) = true := by rfl)
    (hgd : o.guard = none := by rfl) (ho : o.op = .call ⟨.value (.func f), xs.toArray, ats⟩ := by rfl) (hchk : (okSel js st.bx.length && okSel ks st.rw.length && usesB js st.bx && fzOk js st.fz fzc 0 && xs.all (fun x => argOk js (st.ev none x)) && uses some 4 res && bx'.all (fun x => uses some 4 x.2) && okDst nt none o.dst) = true := by rfl) (hb : bxs (pickB js ks st.bx) bxc := by exact cbX) (hr : ks.filterMap (st.rw[·]?) = rwc := by exact cwX) (ha : allP (sub 4) (cargs st js ks xs) args := by exact caX)
    (h1 : sq.lose o.dst = q2 := by exact nfs) (hs : (⟨st.t, mergeL st.bx js (renB js ks st.bx.length st.rw.length bx'), st.fz ++ fz'.map (nth js st.bx.length), mergeL st.rw ks rw'⟩ : St).put o.dst none (ren (fun k => some (nth js st.bx.length k)) (fun k => some (nth ks st.rw.length k)) 4 res) = s2 := by exact nfs) : wpT P ops Q (Mem gS) L A (o :: rest) k a w := v_callT js ks hc H hL hjs hgd ho hchk hb hr ha fun a w H => g a w (h1 ▸ hs ▸ H)
theorem mD {id : Nat} {Q : Exit → Act → World → Prop} {l : List Oper} (nb : Nat) (L A : List Nat) (H : Rel P w0 N nt st a w) (g : ∀ gS, RelT P w0 N nt gS q2 s2 a w.drew → wpT P l.toArray Q (Mem gS) L A l 0 a w.drew) (hm : P.follows .mixedOrders = true := by kernel_rfl) (hchk : chk l.toArray (Region.before l.toArray) L A = true := by kernel_rfl)
    (hb : (st.bx.take nb).all (fun x => low nb 0 4 x.2) = true := by rfl) (h1 : (⟨st.t.filter fun p => low nb 0 4 p.2.2, st.bx.take nb, st.fz, []⟩ : St) = q2 := by exact nfs) (h2 : st = s2 := by exact nfs) : (Code.region id l.toArray true).wp P Q a w := v_draw nb L A hm hchk H hb fun gS H => g gS (h1 ▸ h2 ▸ H)
theorem mSk {ops : Array Oper} {Q : Exit → Act → World → Prop} {rest : List Oper} {o : Oper} {t : Nat} {b : Bool} (r : AV) (H : Rel P w0 N nt st a w) (g : ∀ a w, Rel P w0 N nt s2 a w → wpList P ops Q rest a w) (hgd : gdOf ops o = some (some (t, b)) := by rfl) (hk : st.tmp none t = .v (.bool (!b)) := by rfl) (hd : okDst nt (some (t, b)) o.dst = true := by rfl)
    (hs : st.put o.dst (some (t, b)) r = s2 := by exact nfs) : wpList P ops Q (o :: rest) a w := v_skip r H hgd hk hd fun a w H => g a w (hs ▸ H)
end
end Go.Proofs.Ytigmpdhnhkdeiaa
/- Bytes put one behind the other. -/
namespace Go.Proofs.Ytigmpdhnhkdeiaa
open Go Go.RowKit
theorem bss_len (ls : List (List UInt8)) : (bss ls).length = ls.length := by simp [bss]
theorem bss_get (ls : List (List UInt8)) (k : Nat) (hk : k < ls.length) : (bss ls).getD k .any = .bs ls[k] none := by simp [bss, List.getD, hk]
theorem flat_take (ls : List (List UInt8)) (k : Nat) (hk : k < ls.length) : (ls.take (k + 1)).flatten = (ls.take k).flatten ++ ls[k] := by rw [List.take_succ_eq_append_getElem hk, List.flatten_append]; simp only [List.flatten_cons, List.flatten_nil, List.append_nil]
theorem flat_take_le (ls : List (List UInt8)) (k : Nat) : (ls.take k).flatten.length ≤ ls.flatten.length := by
  conv => rhs; rw [← List.take_append_drop k ls]
  rw [List.flatten_append, List.length_append]; omega
theorem join_v (ls : List (List UInt8)) (hb : ls.flatten.length ≤ 34359738368) (hl : ls.length ≤ 34359738368) :
    VC Try.prog 238 [.sl .sc (bss ls) none] [(5, ls.flatten.length)] (.bs ls.flatten (some 0)) := by
  have hbl := bss_len ls
  refine v_enter Try.func238 rfl (by kernel_rfl) (by show 1 ≤ 17; decide) ?_
  intro N w0 a w hN hR H
  refine mW ?_; clear H; intro a w H
  have H := v_nilB tab_ok H 3 5 (j := ti5) rfl (by decide) (by rfl)
  rw [hbl] at H
  refine v_loop (fun k : Nat => ⟨[(8, none, .v (.int .i64 (k : Int))), (3, none, .bs (ls.take k).flatten (some 0)), (7, none, .v (.int .i64 (ls.length : Int))), (6, none, .sl .sc (bss ls) none)], [], [], [(5, (ls.take k).flatten.length)]⟩) (fun k => k ≤ ls.length) (fun k => ls.length - k) 0 (Nat.zero_le _) (H.to 0 1 ⟨hN, Nat.le_trans hR (by decide)⟩ ⟨rfl, rfl, rfl, rfl, trivial⟩ rfl rfl rfl rfl rfl) ?_
  clear H
  intro k a w hk H
  refine mW ?_; clear H; intro a w H
  refine mC H (fun hb => ?_) (fun hb => ?_)
  · have hlt : k < ls.length := by simpa using hb
    have hf := flat_take_le ls (k + 1)
    rw [flat_take ls k hlt, List.length_append] at hf
    refine wp_skip ?_
    refine wp_seq ?_
    refine wp_block ?_
    refine wp_seq ?_
    (try refine wp_region_lit ?_); refine mN 2 hN H ?_; clear H; intro a w H
    rw [bss_get ls k hlt] at H
    refine mW ?_; clear H; intro a w H
    exact ⟨k + 1, hlt, by omega, H.to 0 1 ⟨hN, Nat.le_trans hR (by decide)⟩ ⟨rfl, by rw [flat_take ls k hlt]; rfl, rfl, rfl, trivial⟩ rfl (by rw [flat_take ls k hlt, List.length_append]; rfl) rfl rfl rfl⟩
  · have hge : k = ls.length := by simp at hb; omega
    subst hge
    refine mW ?_; clear H; intro a w H
    refine wp_ret ?_; exact mEnd [] [0] [.tmp 2] [_] hN hR H
end Go.Proofs.Ytigmpdhnhkdeiaa
/- The texts of the digests. -/
namespace Go.Proofs.Ytigmpdhnhkdeiaa
open Go Go.RowKit
set_option maxRecDepth 20000 in
theorem text_v (t : UInt8) (ls : List (List UInt8)) (hb : ls.flatten.length ≤ 34359738367) (hl : ls.length ≤ 34359738367) :
    VC Try.prog 191 [.v (B8 t), .sl .sc (bss ls) none] [(5, (t :: ls.flatten).length)] (.bs (t :: ls.flatten) (some 0)) := by
  have hbl := bss_len ls
  have ht := t.toNat_lt
  refine v_enter Try.func191 rfl (by kernel_rfl) (by show 2 ≤ 11; decide) ?_
  intro N w0 a w hN hR H
  refine mW ?_; clear H; intro a w H
  refine mCall [] [] (join_v ([t] :: ls) (by rw [List.flatten_cons, List.length_append]; simp only [List.length_cons, List.length_nil]; omega) (by simp only [List.length_cons]; omega)) H ?_; clear H; intro a w H; try refine wpList_nil ?_
  refine mW ?_; clear H; intro a w H
  refine wp_ret ?_; exact mEnd [] [2] [.tmp 4] [_] hN hR H
set_option maxRecDepth 20000 in
theorem leafText_v (k v : List UInt8) (hk : k.length = 32) (hv : v.length = 32) :
    VC Try.prog 186 [.ba k, .ba v] [(5, 65)] (.bs (1 :: (k ++ v)) (some 0)) := by
  refine v_enter Try.func186 rfl (by kernel_rfl) (by show 2 ≤ 9; decide) ?_
  intro N w0 a w hN hR H
  refine mW ?_; clear H; intro a w H
  have hX := And.intro (List.take_of_length_le (Nat.le_of_eq hk)) (List.take_of_length_le (Nat.le_of_eq hv))
  refine mS ?_; refine mD 2 [2, 3] [] H ?_; clear H; intro gS H; refine mT ?_; clear H; intro a w H
  refine mCallT [] [] (text_v 1 [k, v] (by simp; omega) (by simp)) H ?_; clear H; intro a w H
  refine mT ?_; clear H; intro a w H
  refine v_drawNil H ?_; clear H; intro H
  clear hX; have hX := And.intro @hk (@hv)
  refine wp_ret ?_; exact mEnd [] [1] [.tmp 4] [_] hN hR H
set_option maxRecDepth 20000 in
theorem innerText_v (k v : List UInt8) (hk : k.length = 32) (hv : v.length = 32) :
    VC Try.prog 123 [.ba k, .ba v] [(5, 65)] (.bs (2 :: (k ++ v)) (some 0)) := by
  refine v_enter Try.func123 rfl (by kernel_rfl) (by show 2 ≤ 9; decide) ?_
  intro N w0 a w hN hR H
  have hX := And.intro @hk (@hv)
  refine mW ?_; clear H; intro a w H
  clear hX; have hX := And.intro (List.take_of_length_le (Nat.le_of_eq hk)) (List.take_of_length_le (Nat.le_of_eq hv))
  refine mS ?_; refine mD 2 [2, 3] [] H ?_; clear H; intro gS H; refine mT ?_; clear H; intro a w H
  refine mCallT [] [] (text_v 2 [k, v] (by simp; omega) (by simp)) H ?_; clear H; intro a w H
  refine mT ?_; clear H; intro a w H
  refine v_drawNil H ?_; clear H; intro H
  clear hX; have hX := And.intro @hk (@hv)
  refine wp_ret ?_; exact mEnd [] [1] [.tmp 4] [_] hN hR H
set_option maxRecDepth 20000 in
theorem emptyText_v :
    VC Try.prog 187 [] [(5, 1)] (.bs [0] (some 0)) := by
  refine v_enter Try.func187 rfl (by kernel_rfl) (by decide) ?_
  intro N w0 a w hN hR H
  refine mW ?_; clear H; intro a w H
  refine mCall [] [] (text_v 0 [] (by simp) (by simp)) H ?_; clear H; intro a w H; try refine wpList_nil ?_
  refine mW ?_; clear H; intro a w H
  refine wp_ret ?_; exact mEnd [] [0] [.tmp 0] [_] hN hR H
end Go.Proofs.Ytigmpdhnhkdeiaa
/- The program's SHA-256, byte by byte. -/
namespace Go.Proofs.Ytigmpdhnhkdeiaa
open Go Go.RowKit
theorem ren_s8v (fb fr : Nat → Option Nat) (d : Nat) (s : S8) : ren fb fr (d + 1) (s8v s) = s8v s := by cases d <;> rfl
/-- A state of the program's. -/
def shv (s : S8) (b : List UInt8) (n all : Nat) : AV := .st [.v (.bool true), s8v s, .ba b, .v (.int .i64 (n : Int)), .v (.int .i64 (all : Int))]
theorem ren_shv (fb fr : Nat → Option Nat) (d : Nat) (s : S8) (b : List UInt8) (n all : Nat) : ren fb fr (d + 2) (shv s b n all) = shv s b n all := by cases d <;> rfl
theorem begin_v : VC Try.prog 239 [] [] (s8v h0) := by
  refine v_enter Try.func239 rfl (by kernel_rfl) (by decide) ?_
  intro N w0 a w hN hR H
  have hX := And.intro @ren_s8v (@ren_shv)
  have hY := And.intro @s8v.eq_1 (And.intro @shv.eq_1 (And.intro @W32.eq_1 (@h0.eq_1)))
  refine mW ?_; clear H; intro a w H
  refine wp_ret ?_; exact mEnd [] [] [.cell 0 357] [_] hN hR H
theorem new_v : VX Try.prog 188 [] [] [] [] [(ti361.ty, shv h0 (List.replicate 64 0) 0 0)] [] [] (.ptr 0 []) := by
  refine v_enter Try.func188 rfl (by kernel_rfl) (by decide) ?_
  intro N w0 a w hN hR H
  have hX := And.intro @ren_s8v (@ren_shv)
  have hY := And.intro @s8v.eq_1 (And.intro @shv.eq_1 (And.intro @W32.eq_1 (@h0.eq_1)))
  refine mW ?_; clear H; intro a w H
  refine mCall [] [] (begin_v) H ?_; clear H; intro a w H; try refine wpList_nil ?_
  refine mW ?_; clear H; intro a w H
  clear hX; have hX := And.intro @ren_s8v (And.intro @ren_shv (@shv.eq_1))
  refine wp_ret ?_; exact mEnd [0] [] [.tmp 0] [_] hN hR H
theorem none_v (s : S8) (b : List UInt8) (n all : Nat) : VX Try.prog 240 [(ti361.ty, shv s b n all)] [] [] [.ptr 0 []] [(ti361.ty, shv s b n all)] [] [] (.v (.bool false)) := by
  refine v_enter Try.func240 rfl (by kernel_rfl) (by show 1 ≤ 12; decide) ?_
  intro N w0 a w hN hR H
  have hX := And.intro @ren_s8v (@ren_shv)
  have hY := And.intro @s8v.eq_1 (And.intro @shv.eq_1 (And.intro @W32.eq_1 (@h0.eq_1)))
  refine mW ?_; clear H; intro a w H
  refine wp_ret ?_; exact mEnd [0] [] [.tmp 2] [_] hN hR H

/-- What a write makes of the state: a part of a block at a time. -/
def feed : Nat → S8 → List UInt8 → Nat → List UInt8 → S8 × List UInt8 × Nat
  | 0, s, b, n, _ => (s, b, n)
  | f + 1, s, b, n, l => if l = [] then (s, b, n) else
      let b' := b.take n ++ l.take (64 - n) ++ b.drop (n + (l.take (64 - n)).length)
      if n + (l.take (64 - n)).length = 64 then feed f (step s b') b' 0 (l.drop (l.take (64 - n)).length) else feed f s b' (n + (l.take (64 - n)).length) (l.drop (l.take (64 - n)).length)
set_option maxRecDepth 20000 in
theorem write_v (s : S8) (b : List UInt8) (n all : Nat) (l : List UInt8) (hb : b.length = 64) (hn : n < 64) (hl : l.length ≤ 34359738368) (ha : all ≤ 34359738368) :
    VX Try.prog 189 [(ti361.ty, shv s b n all)] [] [] [.ptr 0 [], .bs l none]
      [(ti361.ty, shv (feed l.length s b n l).1 (feed l.length s b n l).2.1 (feed l.length s b n l).2.2 (all + l.length))] [] [] (.v (.int .i64 (l.length : Int))) := by
  refine v_enter Try.func189 rfl (by kernel_rfl) (by show 2 ≤ 65; decide) ?_
  intro N w0 a w hN hR H
  have hX := And.intro @ren_s8v (@ren_shv)
  have hY := And.intro @s8v.eq_1 (And.intro @shv.eq_1 (And.intro @W32.eq_1 (@h0.eq_1)))
  refine mW ?_; clear H; intro a w H
  refine mCall [0] [] (none_v s b n all) H ?_; clear H; intro a w H; try refine wpList_nil ?_
  refine mC H (fun hb => ?_) (fun hb => ?_)
  · cases hb
  clear hX; have hX := And.intro @ren_s8v (And.intro @ren_shv (@shv.eq_1))
  refine mW ?_; clear H; intro a w H
  refine v_loop (fun i : S8 × List UInt8 × Nat × List UInt8 => ⟨[(0, none, .ptr 0 []), (1, none, .bs l none), (5, none, .bs i.2.2.2 none)], [(ti361.ty, .st [.v (.bool true), s8v i.1, .ba i.2.1, .v (.int .i64 (i.2.2.1 : Int)), .v (.int .i64 ((all : Int) + (l.length : Int)))])], [], []⟩)
    (fun i => i.2.1.length = 64 ∧ i.2.2.1 < 64 ∧ i.2.2.2.length ≤ l.length ∧ ∃ f, i.2.2.2.length ≤ f ∧ feed f i.1 i.2.1 i.2.2.1 i.2.2.2 = feed l.length s b n l) (fun i => i.2.2.2.length) (s, b, n, l) ⟨by assumption, hn, Nat.le_refl _, l.length, Nat.le_refl _, rfl⟩
    (H.to 1 0 ⟨hN, hR⟩ ⟨rfl, rfl, rfl, trivial⟩ rfl rfl rfl rfl rfl) ?_
  clear H
  rintro ⟨s', b', n', rest⟩ a w ⟨hb', hn', hr', f, hf, hfe⟩ H
  dsimp only at hb' hn' hr' hf hfe
  refine mW ?_; clear H; intro a w H
  refine mC H (fun hb => ?_) (fun hb => ?_)
  · have h0 : 0 < rest.length := by simpa using hb
    refine mW ?_; clear H; intro a w H
    refine mS ?_; refine mD 0 [9] [] H ?_; clear H; intro gS H; refine mT ?_; clear H; intro a w H
    refine v_drawNil H ?_; clear H; intro H
    obtain ⟨k, hk⟩ : ∃ k, k = (rest.take (64 - n')).length := ⟨_, rfl⟩
    rw [← hk] at H
    rw [List.length_take] at hk
    have hk1 : n' + k ≤ 64 ∧ 0 < k ∧ k ≤ rest.length := by omega
    have hk2 : (rest.take (64 - n')).length = k := by rw [List.length_take]; omega
    have hlb : (b'.take n' ++ rest.take (64 - n') ++ b'.drop (n' + k)).length = 64 := by simp only [List.length_append, List.length_take, List.length_drop]; omega
    obtain ⟨f, rfl⟩ : ∃ g, f = g + 1 := ⟨f - 1, by omega⟩
    have hne : rest ≠ [] := fun e => by subst e; simp at h0
    rw [feed, if_neg hne] at hfe
    dsimp only at hfe
    rw [hk2] at hfe
    have hdl : (rest.drop k).length = rest.length - k := List.length_drop
    refine mW ?_; clear H; intro a w H
    refine mC H (fun hb => ?_) (fun hb => ?_)
    · have he : n' + k = 64 := by simp at hb; omega
      rw [if_pos he] at hfe
      refine mW ?_; clear H; intro a w H
      refine mS ?_; refine mD 0 [10, 13, 16] [0, 1] H ?_; clear H; intro gS H; refine mT ?_; clear H; intro a w H
      refine mCallT [] [] (step_v s' (b'.take n' ++ rest.take (64 - n') ++ b'.drop (n' + k)) hlb) H ?_; clear H; intro a w H
      refine mT ?_; clear H; intro a w H
      refine v_drawNil H ?_; clear H; intro H
      refine mW ?_; clear H; intro a w H
      exact ⟨(_, _, 0, rest.drop k), ⟨hlb, by show 0 < 64; decide, by dsimp only; omega, f, by dsimp only; omega, hfe⟩, by dsimp only; omega, H.to 1 0 ⟨hN, hR⟩ ⟨rfl, rfl, rfl, trivial⟩ rfl rfl rfl rfl rfl⟩
    · have he : ¬ n' + k = 64 := by simp at hb; omega
      rw [if_neg he] at hfe
      refine mW ?_; clear H; intro a w H
      exact ⟨(s', _, n' + k, rest.drop k), ⟨hlb, by dsimp only; omega, by dsimp only; omega, f, by dsimp only; omega, hfe⟩, by dsimp only; omega, H.to 1 0 ⟨hN, hR⟩ ⟨rfl, rfl, rfl, trivial⟩ rfl rfl rfl rfl rfl⟩
  · have h0 : rest = [] := by simp at hb; exact hb
    subst h0
    have hfe2 : feed l.length s b n l = (s', b', n') := by
      rw [← hfe]; cases f with
      | zero => rfl
      | succ f => rw [feed, if_pos rfl]
    rw [hfe2]
    refine mW ?_; clear H; intro a w H
    refine wp_ret ?_; exact mEnd [0] [] [.tmp 4] [_] hN hR H
end Go.Proofs.Ytigmpdhnhkdeiaa
/- Numbers as bytes. -/
namespace Go.Proofs.Ytigmpdhnhkdeiaa
open Go Go.RowKit
def be4n (x : Nat) : List UInt8 := [UInt8.ofNat (x / 16777216), UInt8.ofNat (x / 65536), UInt8.ofNat (x / 256), UInt8.ofNat x]
set_option maxRecDepth 20000 in
theorem put32_v (x : Nat) (hx : x < 4294967296) : VC Try.prog 242 [.v (.int .i64 (x : Int))] [(5, 4)] (.tup [.bs (be4n x) (some 0), .v (.int .i64 0)]) := by
  refine v_enter Try.func242 rfl (by kernel_rfl) (by show 1 ≤ 22; decide) ?_
  intro N w0 a w hN hR H
  refine mW ?_; clear H; intro a w H
  refine mC H (fun hb => ?_) (fun hb => ?_)
  · simp at hb; omega
  refine mW ?_; clear H; intro a w H
  have e1 := u8n x 16777216; have e2 := u8n x 65536; have e3 := u8n x 256; have e4 := u8m x
  simp only [Int.cast_ofNat_Int] at e1 e2 e3
  rw [e1, e2, e3, e4] at H
  refine wp_ret ?_; exact mEnd [] [0] [.tmp 2, .tmp 3] [_, _] hN hR H

theorem be4n_len (x : Nat) : (be4n x).length = 4 := rfl
/-- The state after a text. -/
structure Good (l : List UInt8) (s : S8) (b : List UInt8) (n : Nat) : Prop where
  bl : b.length = 64
  nn : n = l.length % 64
  ss : s = steps h0 (l.length / 64) l
  bb : b.take n = l.drop (64 * (l.length / 64))
theorem Good.lt {l : List UInt8} {s : S8} {b : List UInt8} {n : Nat} (h : Good l s b n) : n < 64 := by rw [h.nn]; exact Nat.mod_lt _ (by decide)
theorem good_nil : Good [] h0 (List.replicate 64 0) 0 := ⟨by simp, rfl, by simp [steps_zero], rfl⟩
theorem feed_good : ∀ (f : Nat) (m l : List UInt8) (s : S8) (b : List UInt8) (n : Nat), m.length ≤ f → Good l s b n → Good (l ++ m) (feed f s b n m).1 (feed f s b n m).2.1 (feed f s b n m).2.2
  | 0, m, l, s, b, n, hm, h => by
    have : m = [] := List.length_eq_zero_iff.1 (by omega)
    subst this; simpa [feed] using h
  | f + 1, m, l, s, b, n, hm, h => by
    have hlt := h.lt
    by_cases hz : m = []
    · subst hz; rw [feed, if_pos rfl]; simpa using h
    · have hm0 : 0 < m.length := List.length_pos_iff.2 hz
      rw [feed, if_neg hz]
      dsimp only
      obtain ⟨k, hk⟩ : ∃ k, k = (m.take (64 - n)).length := ⟨_, rfl⟩
      rw [← hk]
      rw [List.length_take] at hk
      have hkm : m.take (64 - n) = m.take k := by
        rw [hk]
        rcases Nat.le_total (64 - n) m.length with h1 | h1
        · rw [Nat.min_eq_left h1]
        · rw [Nat.min_eq_right h1, List.take_length, List.take_of_length_le h1]
      rw [hkm]
      have hbl := h.bl
      have hlb : (b.take n ++ m.take k ++ b.drop (n + k)).length = 64 := by simp only [List.length_append, List.length_take, List.length_drop]; omega
      have hdl : (m.drop k).length ≤ f := by rw [List.length_drop]; omega
      have hn := h.nn
      have hll : (l ++ m.take k).length = l.length + k := by rw [List.length_append, List.length_take]; omega
      have hsplit : l ++ m = (l ++ m.take k) ++ m.drop k := by rw [List.append_assoc, List.take_append_drop]
      have htk : (b.take n ++ m.take k ++ b.drop (n + k)).take (n + k) = b.take n ++ m.take k := by
        rw [List.take_append_of_le_length (by simp only [List.length_append, List.length_take]; omega), List.take_of_length_le (by simp only [List.length_append, List.length_take]; omega)]
      have hdr : (l ++ m.take k).drop (64 * (l.length / 64)) = b.take n ++ m.take k := by
        rw [List.drop_append_of_le_length (by omega), h.bb]
      by_cases he : n + k = 64
      · rw [if_pos he, hsplit]
        refine feed_good f (m.drop k) (l ++ m.take k) _ _ 0 hdl ⟨hlb, by rw [hll]; omega, ?_, ?_⟩
        · have hq : (l ++ m.take k).length / 64 = l.length / 64 + 1 := by rw [hll]; omega
          have e1 : (b.take n ++ m.take k).take 64 = b.take n ++ m.take k := List.take_of_length_le (by simp only [List.length_append, List.length_take]; omega)
          rw [hq, steps_next, steps_append _ _ _ _ (by omega), ← h.ss, hdr, e1, he, List.drop_of_length_le (by omega), List.append_nil]
        · have : 64 * ((l ++ m.take k).length / 64) = (l ++ m.take k).length := by rw [hll]; omega
          rw [this, List.drop_length]; rfl
      · rw [if_neg he, hsplit]
        have hnk : n + k < 64 := by omega
        have hq : (l ++ m.take k).length / 64 = l.length / 64 := by rw [hll]; omega
        refine feed_good f (m.drop k) (l ++ m.take k) _ _ (n + k) hdl ⟨hlb, by rw [hll]; omega, ?_, ?_⟩
        · rw [hq, steps_append _ _ _ _ (by omega)]; exact h.ss
        · rw [hq, htk, hdr]
/-- A write, by texts. -/
theorem write_g (l m : List UInt8) (s : S8) (b : List UInt8) (n : Nat) (h : Good l s b n) (hl : m.length ≤ 34359738368) (all : Nat) (ha : all ≤ 34359738368) :
    ∃ s' b' n', Good (l ++ m) s' b' n' ∧ VX Try.prog 189 [(ti361.ty, shv s b n all)] [] [] [.ptr 0 [], .bs m none]
      [(ti361.ty, shv s' b' n' (all + m.length))] [] [] (.v (.int .i64 (m.length : Int))) :=
  ⟨_, _, _, feed_good m.length m l s b n (Nat.le_refl _) h, write_v s b n all m h.bl h.lt hl ha⟩
end Go.Proofs.Ytigmpdhnhkdeiaa
