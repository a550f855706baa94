/- The walks of the reference's SHA-256: the block step. -/
import Derived.Test.YtlagngkafllbiaaRShaY
set_option linter.unusedSimpArgs false
set_option linter.unusedVariables false
namespace Go.Proofs.Ytlagngkafllbiaa
open Go Go.RowKit
attribute [local go_sem] or_bytes u32_shr10 u32_shr3 u32_xor u32_and u32_or u32_add u32_add' u32_not u32_not' u32_not2
set_option maxRecDepth 100000 in
theorem stepR_any (s : S8) (bs : List UInt8) (hbs : bs.length = 64) (A : Option Addr) (c : Nat) (w : World) (hr : Rd byteE w w.heap.size A bs) :
    Calls Try.prog 101 #[.agg s.arr, .slice A 64 c] w fun e w' => e = .returned (.agg (step s bs).arr) ∧ Below w.heap.size w w' := by
  have hsl : ((sched (words bs 16) 48).map W32).length = 64 := by simp [sched_length, words_length]
  have HSL := Lib.hid hsl; clear hsl
  have HBS := Lib.hid hbs; clear hbs
  have HR := Lib.hid hr; clear hr
  go_enter Try.func101, Try.ntmps101
  go_wp2_with fail
  refine (wordsR_any bs HBS.out A c _ (((HR.out.alloc (Nat.le_refl _) _).alloc (by simp) _).more (by simp; omega))).mono ?_
  rintro e w1 ⟨rfl, hb1⟩; have HB1 := Lib.hid hb1; clear hb1
  dsimp only
  go_wp2_with ((with_reducible show wpList _ _ _ _ _ _); refine wpList_stAll rfl 136 (.tmp 5) _ rfl (Blk.new _ _ _) rfl rfl (by rw [HSL.out]; kernel_rfl) (by rw [HSL.out]; rfl) (one_map _ _ fun _ => rfl) ?_)
  have hz1 : w.heap.size + 1 + 1 ≤ w1.heap.size := by have := HB1.out.size; simpa using this
  refine (constantsR_any _).mono ?_
  rintro e w2 ⟨rfl, hb2⟩
  have hz2 : w1.heap.size < w2.heap.size := by have := hb2.size; simp at this; omega
  have HB2 := Lib.hid hb2; clear hb2
  dsimp only
  go_wp2_with (first
   | (with_reducible show wpList _ _ _ _ _ _); refine wpList_ldAll rfl 101 (.tmp 2) rfl (mid := s.arr.toList) C1.out rfl (by kernel_rfl) (by kernel_rfl) ?_
   | (with_reducible show wpList _ _ _ _ _ _)
     refine wpList_stAll rfl 136 (.tmp 6) _ rfl (Blk.new _ _ _) rfl rfl (by kernel_rfl) (by rw [List.length_map, kList_length]; rfl) (one_map _ _ fun _ => rfl) ?_
     refine wpList_forget (fun w3 => Blk w3 w.heap.size 101 s.arr ∧ (∃ z : Array Value, z.size = 8 ∧ Blk w3 (w.heap.size + 1) 101 z) ∧ Blk w3 w1.heap.size 136 ((sched (words bs 16) 48).map W32).toArray ∧ Blk w3 w2.heap.size 136 (kList.map W32).toArray ∧ Below w.heap.size w w3 ∧ w2.heap.size < w3.heap.size) ?hf ?_
     rotate_left
     rintro w3 ⟨c1, ⟨z, hz, c2⟩, c3, c4, c5, hz3⟩
     have C1 := Lib.hid c1; have C2 := Lib.hid c2; have C3 := Lib.hid c3; have C4 := Lib.hid c4; have C5 := Lib.hid c5; have HZ := Lib.hid hz
     clear c1 c2 c3 c4 c5 hz HB1 HB2)
  case hf =>
    have b0 : Blk w1 w.heap.size 101 s.arr := ((Blk.new _ _ _).alloc _).below HB1.out (by simp; omega)
    have b2 : Blk w1 (w.heap.size + 1) 101 _ := (Blk.newAt _ _ _ (by simp)).below HB1.out (by simp)
    have bb : Below w.heap.size w w1 := (((Below.refl _ _).alloc (Nat.le_refl _) _).alloc (by simp) _).trans (HB1.out.mono (by simp; omega))
    have b5 : Blk w2 w1.heap.size 136 _ := ((Blk.new w1 _ _).row _).below HB2.out (by simp)
    refine ⟨((((b0.alloc _).rowFar (by omega) _).below HB2.out (by simp; omega)).alloc _).rowFar (by omega) _, ⟨_, by rfl, ((((b2.alloc _).rowFar (by omega) _).below HB2.out (by simp; omega)).alloc _).rowFar (by omega) _⟩,
      (b5.alloc _).rowFar (by omega) _, (Blk.new _ _ _).row _, ?_, by simp⟩
    exact Below.row (((Below.row (bb.alloc (by omega) _) (by omega) _).trans (HB2.out.mono (by simp; omega))).alloc (by omega) _) (by omega) _
  have HB0 := Lib.hid ((C5.out.alloc (by have := C5.out.size; omega) (Obj.cells s.arr 101)))
  have H7 : Hid (Blk (w3.alloc (Obj.cells s.arr 101)) w3.heap.size 101 s.arr) := Blk.new _ _ _
  have hw3 : w.heap.size + 1 + 1 < w3.heap.size := by omega
  go_loopw [8, 9, 10, 11, 12, 13, 14] (fun i _ _ _ _ _ _ wr => ∃ t : Nat, t ≤ 64 ∧ i = .int .i64 t ∧ Blk wr w.heap.size 101 s.arr ∧ (∃ z : Array Value, z.size = 8 ∧ Blk wr (w.heap.size + 1) 101 z) ∧
      Blk wr w1.heap.size 136 ((sched (words bs 16) 48).map W32).toArray ∧ Blk wr w2.heap.size 136 (kList.map W32).toArray ∧ Blk wr w3.heap.size 101 (rnds (sched (words bs 16) 48) s t).arr ∧ Below w.heap.size w wr)
    (fun i _ _ _ _ _ _ _ => 64 - (intOf i).toNat)
  case atStart => exact ⟨0, by omega, rfl, C1.out.alloc _, ⟨z, HZ.out, C2.out.alloc _⟩, C3.out.alloc _, C4.out.alloc _, by rw [rnds_zero]; exact H7.out, HB0.out⟩
  case round =>
    obtain ⟨t, ht, rfl, d1, ⟨z2, hz2', d2⟩, d3, d4, d5, d6⟩ := hrel
    clear C1 C2 C3 C4 C5 HZ HB0 H7
    by_cases hlt : t < 64
    · have HN := Lib.hid (rnds_succ (sched (words bs 16) 48) s t)
      have k1 : wr.cell? ⟨w2.heap.size, t, none⟩ = some (W32 (kList.getD t 0)) := by
        rw [d4.cell]; have := kList_length; simp [show t < kList.length by omega]
      have k2 : wr.cell? ⟨w1.heap.size, t, none⟩ = some (W32 ((sched (words bs 16) 48).getD t 0)) := by
        rw [d3.cell]; have := HSL.out; simp only [List.length_map] at this; simp [show t < (sched (words bs 16) 48).length by omega]
      generalize kList.getD t 0 = kt at *
      generalize (sched (words bs 16) 48).getD t 0 = wt at *
      have r0 : wr.cell? ⟨w3.heap.size, 0, none⟩ = some (W32 (rnds (sched (words bs 16) 48) s t).a) := d5.cell 0
      have r1 : wr.cell? ⟨w3.heap.size, 1, none⟩ = some (W32 (rnds (sched (words bs 16) 48) s t).b) := d5.cell 1
      have r2 : wr.cell? ⟨w3.heap.size, 2, none⟩ = some (W32 (rnds (sched (words bs 16) 48) s t).c) := d5.cell 2
      have r3 : wr.cell? ⟨w3.heap.size, 3, none⟩ = some (W32 (rnds (sched (words bs 16) 48) s t).d) := d5.cell 3
      have r4 : wr.cell? ⟨w3.heap.size, 4, none⟩ = some (W32 (rnds (sched (words bs 16) 48) s t).e) := d5.cell 4
      have r5 : wr.cell? ⟨w3.heap.size, 5, none⟩ = some (W32 (rnds (sched (words bs 16) 48) s t).f) := d5.cell 5
      have r6 : wr.cell? ⟨w3.heap.size, 6, none⟩ = some (W32 (rnds (sched (words bs 16) 48) s t).g) := d5.cell 6
      have r7 : wr.cell? ⟨w3.heap.size, 7, none⟩ = some (W32 (rnds (sched (words bs 16) 48) s t).h) := d5.cell 7
      have D1 := Lib.hid d1; have D2 := Lib.hid d2; have D3 := Lib.hid d3; have D4 := Lib.hid d4; have D5 := Lib.hid d5; have D6 := Lib.hid d6; have HX := Lib.hid HN.out; have HZ := Lib.hid hz2'
      clear d1 d2 d3 d4 d5 d6 HN hz2'
      generalize rnds (sched (words bs 16) 48) s t = r at *
      go_wp2_with (go_at_call 106; refine (turned_int _ _ (by omega) (by omega) _).mono ?_; rintro e w' ⟨rfl, n, rfl⟩)
      refine wp_region_T [] [] (fun _ => True) (by kernel_rfl) (by kernel_rfl) trivial ?_
      repeat (first
        | (refine wpT_here (by rfl) (by rfl) (by rfl) (fun K hK => ?_); go_big_quiet_op; refine hK _ ?_; clear hK K)
        | (refine wpT_loud (by rfl) (by rfl) (fun K hK => ?_); go_big_op; refine hK _ _ trivial ?_; clear hK K))
      refine wpT_nil ?_
      go_wp2_with ((with_reducible show wpList _ _ _ _ _ _); refine wpList_stAll rfl 101 (.tmp 7) _ rfl (D5.out.drewN _) rfl rfl (by kernel_rfl) rfl (by simp [Value.oneCell']) ?_)
      go_roundw
      case rel =>
        exact ⟨t + 1, by omega, by go_num, (D1.out.drewN _).rowFar (by omega) _, ⟨z2, HZ.out, (D2.out.drewN _).rowFar (by omega) _⟩, (D3.out.drewN _).rowFar (by omega) _, (D4.out.drewN _).rowFar (by omega) _, by rw [HX.out]; exact (D5.out.drewN _).row _, Below.row (below_drewN D6.out _) (by omega) _⟩
      case measure => simp [intOf]; omega
    · obtain rfl : t = 64 := by omega
      rw [show ((64 : Nat) : Int) = (64 : Int) from rfl]
      have D1 := Lib.hid d1; have D2 := Lib.hid d2; have D5 := Lib.hid d5; have D6 := Lib.hid d6; have HZ := Lib.hid hz2'; have HD := Lib.hid (step_def s bs)
      clear d1 d2 d3 d4 d5 d6 hz2'
      obtain ⟨r, hr⟩ : ∃ r, r = rnds (sched (words bs 16) 48) s 64 := ⟨_, rfl⟩
      rw [← hr] at D5 HD
      clear hr
      go_wp2
      go_loopw [15] (fun i wr' => ∃ k : Nat, k ≤ 8 ∧ i = .int .i64 k ∧ Blk wr' w.heap.size 101 ((mix s r k).map W32).toArray ∧ (∃ z : Array Value, z.size = 8 ∧ Blk wr' (w.heap.size + 1) 101 z) ∧
          Blk wr' w3.heap.size 101 (r.l.map W32).toArray ∧ Below w.heap.size w wr') (fun i _ => 8 - (intOf i).toNat)
      case atStart => exact ⟨0, by omega, rfl, by rw [mix_zero]; exact D1.out, ⟨z2, HZ.out, D2.out⟩, D5.out, D6.out⟩
      case round =>
        obtain ⟨k, hk, rfl, e1, ⟨z3, hz3', e2⟩, e5, e6⟩ := hrel
        clear D1 D2 D5 D6 HZ
        by_cases hlk : k < 8
        · have hl : r.l.length = 8 := rfl
          have k1 : wr.cell? ⟨w.heap.size, k, none⟩ = some (W32 (s.l.getD k 0)) := by
            rw [e1.cell]; simp [mix_at s r k hlk]
          have k2 : wr.cell? ⟨w3.heap.size, k, none⟩ = some (W32 (r.l.getD k 0)) := by
            rw [e5.cell]; simp [show k < r.l.length by omega]
          have k3 := e1.free k
          have hs : Blk (wr.setCell ⟨w.heap.size, k, none⟩ (W32 (s.l.getD k 0 + r.l.getD k 0))) w.heap.size 101 ((mix s r (k + 1)).map W32).toArray := by
            have := e1.put k (W32 (s.l.getD k 0 + r.l.getD k 0))
            rw [List.setIfInBounds_toArray, ← List.map_set, mix_set s r k hlk] at this
            exact this
          generalize s.l.getD k 0 = x at *
          generalize r.l.getD k 0 = y at *
          have E1 := Lib.hid hs; have E2 := Lib.hid e2; have E5 := Lib.hid e5; have E6 := Lib.hid e6; have HZ := Lib.hid hz3'
          clear e1 e2 e5 e6 hz3' hs hl
          go_wp2
          refine wp_region_T [9] [] (fun _ => True) (by kernel_rfl) (by kernel_rfl) trivial ?_
          repeat (first
            | (refine wpT_here (by rfl) (by rfl) (by rfl) (fun K hK => ?_); go_big_quiet_op; refine hK _ ?_; clear hK K)
            | (refine wpT_loud (by rfl) (by rfl) (fun K hK => ?_); go_big_op; refine hK _ _ trivial ?_; clear hK K))
          refine wpT_nil ?_
          go_wp2
          go_roundw
          case rel => exact ⟨k + 1, by omega, by go_num, E1.out.drew, ⟨z3, HZ.out, (E2.out.farAt (by omega) _).drew⟩, (E5.out.farAt (by omega) _).drew, (below_putAt E6.out (by omega) _).drew⟩
          case measure => simp [intOf]; omega
        · obtain rfl : k = 8 := by omega
          rw [show ((8 : Nat) : Int) = (8 : Int) from rfl]
          rw [mix_eight] at e1
          have E1 := Lib.hid e1; have E2 := Lib.hid e2; have E6 := Lib.hid e6; have HZ := Lib.hid hz3'
          clear e1 e2 e5 e6 hz3'
          go_wp2_with ((with_reducible show wpList _ _ _ _ _ _); first
            | (refine wpList_ldAll rfl 101 (.tmp 2) rfl E1.out rfl (by kernel_rfl) (by kernel_rfl) ?_)
            | (refine wpList_stAll rfl 101 (.tmp 4) _ rfl E2.out rfl rfl (by kernel_rfl) HZ.out (one_map _ _ fun _ => rfl) ?_))
          refine bodyPost_ret (results_ldAll (mid := (addS s r).l.map W32) rfl _ (E2.out.row _) rfl (by kernel_rfl) (by kernel_rfl)) rfl ⟨?_, Below.row E6.out (by omega) _⟩
          rw [HD.out]; rfl
end Go.Proofs.Ytlagngkafllbiaa
