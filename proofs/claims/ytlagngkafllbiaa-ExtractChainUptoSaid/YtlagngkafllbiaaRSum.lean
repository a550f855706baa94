/- The walk of the reference's SHA-256 of a list of bytes. -/
import Derived.Test.YtlagngkafllbiaaRShaZ
set_option linter.unusedSimpArgs false
set_option linter.unusedVariables false
namespace Go.Proofs.Ytlagngkafllbiaa
open Go Go.RowKit
theorem pad_step (n k : Nat) (hk : k < padN n) : (n + 1 + k) % 64 ≠ 56 := by unfold padN at hk; omega
theorem pad_end (n : Nat) : (n + 1 + padN n) % 64 = 56 := by unfold padN; omega
/-- The next byte of a row is filled. -/
theorem row_nextB (xs : List UInt8) (n : Nat) (x : UInt8) (hn : 0 < n) : ((xs ++ List.replicate n 0).map B8).toArray.setIfInBounds xs.length (B8 x) = ((xs ++ [x] ++ List.replicate (n - 1) 0).map B8).toArray := by
  obtain ⟨m, rfl⟩ : ∃ m, n = m + 1 := ⟨n - 1, by omega⟩
  simp [List.replicate_succ]
/-- A byte of a word, as the code reckons it. -/
theorem byte_of (x : BitVec 32) (r : Nat) (hr : r < 4) (v : Int) (hv : v = n32 x / ((256 ^ (3 - r) : Nat) : Int) % 256) : Value.int .u8 v = B8 (UInt8.ofNat (x.toNat / 256 ^ (3 - r))) := by
  rw [B8_ofNat, hv]; unfold n32
  rcases (by omega : r = 0 ∨ r = 1 ∨ r = 2 ∨ r = 3) with rfl | rfl | rfl | rfl <;> refine congrArg _ ?_ <;> simp only [Nat.reduceSub, Nat.reducePow] <;> omega
set_option maxRecDepth 100000 in
set_option maxHeartbeats 1600000 in
theorem sumR_any (l : List UInt8) (A : Option Addr) (c : Nat) (w : World) (hr : Rd byteE w w.heap.size A l) (hl : l.length ≤ 140737488355000) :
    Calls Try.prog 92 #[.slice A l.length c] w fun e w' => e = .returned (.agg ((sum l).map B8).toArray) ∧ Below w.heap.size w w' := by
  have HR := Lib.hid hr; clear hr
  have hpn : padN l.length < 64 := by unfold padN; omega
  go_enter Try.func92, Try.ntmps92
  iterate 6 go_step
  refine wpList_forget (fun w0 => (∃ z : Array Value, z.size = 32 ∧ Blk w0 w.heap.size 22 z) ∧ Below w.heap.size w w0 ∧ w.heap.size < w0.heap.size) ?_ ?_
  · exact ⟨⟨_, by rfl, Blk.new _ _ _⟩, (Below.refl _ _).alloc (Nat.le_refl _) _, by simp⟩
  rintro w0 ⟨⟨z, hz, b0⟩, bb, hw0⟩
  have hr0 := (HR.out.below bb).more (Nat.le_of_lt hw0)
  have BB := Lib.hid bb; have HZ := Lib.hid hz; have B0 := Lib.hid b0; have R0 := Lib.hid hr0; clear bb hz b0 hr0
  go_wp2_with (first
    | (at_builtin; refine wpList_app rfl byteE_fits (.tmp 10) (.tmp 11) 24 rfl Try.underlying24 rfl (base := w0.heap.size) (own_new _ _ (Nat.le_refl _)) rfl (R0.out.alloc (Nat.le_refl _) _) rfl (by simp only [maxLen, List.length_nil]; omega) (by simp only [byteE, List.length_nil]; omega) (by rw [World.size_alloc]; omega) ?_
       intro v1 w1 sp1 h1 h2 h3
       have BB1 := Lib.hid (below_own (BB.out.alloc (by omega) _) h2 (own_new w0 _ (Nat.le_refl _)) (Nat.le_of_lt hw0) (by rw [World.size_alloc]; omega))
       have B1 := Lib.hid ((B0.out.alloc (.cells #[] 5)).own h2 (own_new w0 _ (Nat.le_refl _)) hw0)
       have hs1 : w0.heap.size ≤ w1.heap.size := by have := h2.size; rw [World.size_alloc] at this; omega
       rw [List.nil_append] at h1
       have O1 := Lib.hid h1
       clear h1 h2 h3 BB B0 R0)
    | (at_builtin; refine wpList_app rfl byteE_fits (.tmp 13) (.tmp 14) 24 rfl Try.underlying24 rfl (O1.out.alloc _) rfl (rd_one _ (x := 128) rfl) rfl (by simp only [maxLen]; omega) (by simp only [byteE]; omega) (by rw [World.size_alloc]; omega) ?_
       intro v2 w2 sp2 h1 h2 h3
       have BB2 := Lib.hid (below_own (BB1.out.alloc (by omega) _) h2 (O1.out.alloc _) (Nat.le_of_lt hw0) (by rw [World.size_alloc]; omega))
       have B2 := Lib.hid ((B1.out.alloc _).own h2 (O1.out.alloc _) hw0)
       have hs2 : w0.heap.size ≤ w2.heap.size := by have := h2.size; rw [World.size_alloc] at this; omega
       have O2 := Lib.hid h1
       clear h1 h2 h3 BB1 B1 O1))
  go_loopw [3] (fun v wr => ∃ k : Nat, k ≤ padN l.length ∧ (∃ sp, Own byteE wr w0.heap.size v (l ++ [128] ++ List.replicate k 0) sp) ∧ Below w.heap.size w wr ∧ Blk wr w.heap.size 22 z ∧ w0.heap.size ≤ wr.heap.size)
    (fun v _ => l.length + 1 + padN l.length - slen v)
  case atStart => exact ⟨0, Nat.zero_le _, ⟨sp2, by simpa using O2.out⟩, BB2.out, B2.out, hs2⟩
  case round =>
    obtain ⟨k, hk, ⟨sp, ho⟩, hb, hz', hs⟩ := hrel
    clear BB2 B2 O2
    have hlen : (l ++ [128] ++ List.replicate k 0).length = l.length + 1 + k := by rw [List.length_append, List.length_append, List.length_replicate]; rfl
    obtain ⟨Av, cv, rfl, hcv1, hcv2⟩ := ho.shape hlen
    have HO := Lib.hid ho; have HB := Lib.hid hb; have HZ' := Lib.hid hz'; have HLEN := Lib.hid hlen
    clear ho hb hz' hlen hcv1 hcv2
    have hps := pad_step l.length k
    have hpe := pad_end l.length
    by_cases hlt : k < padN l.length
    · have hne : ¬ (((l.length : Int) + 1 + (k : Int)) % 64 = 56) := by have := hps hlt; omega
      clear hps hpe
      go_wp2_with (at_builtin; refine wpList_app rfl byteE_fits (.tmp 20) (.tmp 21) 24 rfl Try.underlying24 rfl (HO.out.alloc _) rfl (rd_one _ (x := 0) rfl) rfl (by rw [HLEN.out]; simp only [maxLen]; omega) (by rw [HLEN.out]; simp only [byteE]; omega) (by rw [World.size_alloc]; omega) ?_; intro v1 w1 sp1 h1 h2 h3)
      rw [List.append_assoc, ← List.replicate_succ'] at h1
      have hlen' : (l ++ [128] ++ List.replicate (k + 1) 0).length = l.length + 1 + (k + 1) := by rw [List.length_append, List.length_append, List.length_replicate]; rfl
      obtain ⟨A1, c1, rfl, _, _⟩ := h1.shape hlen'
      have BB1 := Lib.hid (below_own (HB.out.alloc (by omega) _) h2 (HO.out.alloc _) (Nat.le_of_lt hw0) (by rw [World.size_alloc]; omega))
      have B1 := Lib.hid ((HZ'.out.alloc _).own h2 (HO.out.alloc _) hw0)
      have hs1 : w0.heap.size ≤ w1.heap.size := by have := h2.size; rw [World.size_alloc] at this; omega
      have O1 := Lib.hid h1
      clear h1 h2 h3 HB HZ' HO hlen'
      go_wp2
      go_roundw
      case rel => exact ⟨k + 1, hlt, ⟨sp1, O1.out⟩, BB1.out, B1.out, hs1⟩
      case measure => simp [slen]; omega
    · obtain rfl : k = padN l.length := by omega
      have hne : (((l.length : Int) + 1 + ((padN l.length : Nat) : Int)) % 64 = 56) := by omega
      clear hps hpe
      have HNE := Lib.hid hne; clear hne
      have hbl : ((((l.length : Int) + 1 + ((padN l.length : Nat) : Int)) % 64) != 56) = false := by simpa using HNE.out
      go_wp2
      clear hbl
      go_loopw [3, 5] (fun v i wr => ∃ m : Nat, m ≤ 8 ∧ i = .int .i64 ((m : Int) - 1) ∧ (∃ sp, Own byteE wr w0.heap.size v (l ++ [128] ++ List.replicate (padN l.length) 0 ++ (be (l.length * 8) 8).take (8 - m)) sp) ∧ Below w.heap.size w wr ∧ Blk wr w.heap.size 22 z ∧ w0.heap.size ≤ wr.heap.size)
        (fun _ i _ => (intOf i + 1).toNat)
      case atStart => exact ⟨8, by omega, rfl, ⟨sp, by simpa using HO.out⟩, HB.out, HZ'.out, hs⟩
      case round =>
        clear HO HB HZ' hs
        obtain ⟨m, hm, rfl, ⟨sp3, ho⟩, hb, hz', hs⟩ := hrel
        have hlen : (l ++ [128] ++ List.replicate (padN l.length) 0 ++ (be (l.length * 8) 8).take (8 - m)).length = l.length + 1 + padN l.length + (8 - m) := by
          rw [List.length_append, List.length_append, List.length_append, List.length_replicate, List.length_take, be_length]; simp only [List.length_cons, List.length_nil]; omega
        obtain ⟨g3, c3, rfl, hcv1, hcv2, hg3, hg3'⟩ := ho.shapePos hlen (by omega)
        have HO := Lib.hid ho; have HB := Lib.hid hb; have HZ' := Lib.hid hz'; have HL3 := Lib.hid hlen
        clear ho hb hz' hlen
        by_cases hm0 : m = 0
        · subst hm0
          have hpad : l ++ [128] ++ List.replicate (padN l.length) 0 ++ (be (l.length * 8) 8).take (8 - 0) = pad l := by
            rw [pad_def, List.take_of_length_le (by rw [be_length]; omega)]
          have e : l.length + 1 + padN l.length + (8 - 0) = (pad l).length := by rw [pad_size]; omega
          have hN64 := pad_length l
          have hNle : (pad l).length ≤ 140737488355200 := by rw [pad_size]; omega
          have ho' := HO.out
          rw [hpad, e] at ho'
          have HO' := Lib.hid ho'
          clear ho' hpad HO HL3
          rw [e] at hcv1 ⊢
          rw [show ((0 : Nat) : Int) - 1 = -1 from rfl]
          clear e
          have hcc := hcv1
          obtain ⟨wb, rfl⟩ : ∃ wb : World, wb = wr := ⟨_, rfl⟩
          have H4 : Hid (Blk (wb.alloc (Obj.cells h0.arr 101)) wb.heap.size 101 h0.arr) := Blk.new _ _ _
          have HB4 := Lib.hid (HB.out.alloc (by omega) (Obj.cells h0.arr 101))
          go_wp2
          go_loopw [7] (fun i wr => ∃ q : Nat, 64 * q ≤ (pad l).length ∧ i = .int .i64 ((64 * q : Nat) : Int) ∧ Blk wr wb.heap.size 101 (steps h0 q (pad l)).arr ∧ Own byteE wr w0.heap.size (.slice (some ⟨g3, 0, none⟩) (pad l).length c3) (pad l) sp3 ∧ Below w.heap.size w wr ∧ Blk wr w.heap.size 22 z ∧ wb.heap.size < wr.heap.size)
            (fun i _ => (pad l).length - (intOf i).toNat)
          case atStart => exact ⟨0, by omega, rfl, by rw [steps_zero]; exact H4.out, HO'.out.alloc _, HB4.out, HZ'.out.alloc _, by simp⟩
          case round =>
            clear H4 HB4 HO' HZ' HB
            obtain ⟨q, hq, rfl, k1, k2, k3, k4, k5⟩ := hrel
            by_cases hlt : 64 * q < (pad l).length
            · have hq64 : 64 * q + 64 ≤ (pad l).length := by omega
              have hblk : ((pad l).drop (64 * q)).length = (pad l).length - 64 * q := List.length_drop
              have hrd : Rd byteE wr wr.heap.size (some ⟨g3, 64 * q, none⟩) (((pad l).drop (64 * q)).take 64) := by
                have := (k2.rd.cut (k := 64 * q) (cap := c3) (by omega)).take 64
                rw [if_neg (by omega)] at this
                simpa [byteE, addr_add] using this
              have htl : (((pad l).drop (64 * q)).take 64).length = 64 := by rw [List.length_take, hblk]; omega
              have HRD := Lib.hid hrd; have HTL := Lib.hid htl; have HST := Lib.hid (steps_next h0 q (pad l))
              have K1 := Lib.hid k1; have K2 := Lib.hid k2; have K3 := Lib.hid k3; have K4 := Lib.hid k4
              clear hrd htl hblk k1 k2 k3 k4 hq
              go_wp2
              refine wp_region_T [6, 7] [] (fun _ => True) (by kernel_rfl) (by kernel_rfl) (by first | rfl | trivial | assumption) ?_
              repeat (first
                | (refine wpT_skip (by rfl) ?_)
                | (refine wpT_ldAll (by rfl) (by rfl) (by rfl) 101 _ rfl (mid := (steps h0 q (pad l)).arr.toList) K1.out.drew rfl (by kernel_rfl) (by kernel_rfl) ?_; go_simp)
                | (refine wpT_here (by rfl) (by rfl) (by rfl) (fun K hK => ?_); go_big_quiet_op; refine hK _ ?_; clear hK K)
                | (refine wpT_loud (by rfl) (by rfl) (fun K hK => ?_); first | (go_step; refine (stepR_any (steps h0 q (pad l)) _ HTL.out _ _ _ (HRD.out.drew)).mono ?_; rintro e w5 ⟨rfl, hb5⟩; have HB5 := Lib.hid hb5; clear hb5; dsimp only; refine hK _ _ trivial ?_) | (refine wp_stAll 101 _ _ rfl (K1.out.drew.below HB5.out (by rw [World.size_drew]; omega)) rfl rfl (by kernel_rfl) (Eq.trans (b := 8) rfl rfl) (by simp [Value.oneCell']) ?_; refine hK _ _ trivial ?_); clear hK K))
              refine wpT_nil ?_
              have K1' := Lib.hid ((K1.out.drew.below HB5.out (by rw [World.size_drew]; omega)).row (step (steps h0 q (pad l)) (List.take 64 (List.drop (64 * q) (pad l)))).arr)
              have K2' := Lib.hid ((K2.out.drew.belowSize HB5.out).row (k := wb.heap.size) (by simp [Value.ownBlock]; omega) (step (steps h0 q (pad l)) (List.take 64 (List.drop (64 * q) (pad l)))).arr)
              have K3' := Lib.hid (Below.row (K3.out.drew.trans (HB5.out.mono (by rw [World.size_drew]; omega))) (g := wb.heap.size) (by omega) (step (steps h0 q (pad l)) (List.take 64 (List.drop (64 * q) (pad l)))).arr)
              have K4' := Lib.hid ((K4.out.drew.below HB5.out (by rw [World.size_drew]; omega)).rowFar (k := wb.heap.size) (by omega) (step (steps h0 q (pad l)) (List.take 64 (List.drop (64 * q) (pad l)))).arr)
              have K5' : wb.heap.size < w5.heap.size := by have := HB5.out.size; rw [World.size_drew] at this; omega
              clear K1 K2 K3 K4 HRD HB5
              go_wp2
              go_roundw
              case rel => exact ⟨q + 1, by omega, by go_num, by rw [HST.out]; exact K1'.out, K2'.out, K3'.out, K4'.out, by simpa using K5'⟩
              case measure => simp [intOf]; omega
            · have hqq : 64 * q = (pad l).length := by omega
              have hsum : sum l = out (steps h0 q (pad l)) := by rw [sum_def, show (pad l).length / 64 = q by omega]
              have HSUM := Lib.hid hsum; clear hsum
              have K1 := Lib.hid k1; have K3 := Lib.hid k3; have K4 := Lib.hid k4
              clear k1 k2 k3 k4 hq hqq
              obtain ⟨S, hS⟩ : ∃ S, S = steps h0 q (pad l) := ⟨_, rfl⟩
              rw [← hS] at K1 HSUM
              clear hS
              obtain ⟨wc, rfl⟩ : ∃ wc : World, wc = wr := ⟨_, rfl⟩
              have h00 : ((out S).take 0 ++ List.replicate (32 - 0) 0).map B8 = List.replicate 32 (B8 0) := by simp
              have H00 := Lib.hid h00; clear h00
              have KB := Lib.hid (K3.out.alloc (by omega) (Obj.cells (List.replicate 32 (B8 0)).toArray 22))
              go_wp2
              go_loopw [9] (fun i wr => ∃ k : Nat, k ≤ 32 ∧ i = .int .i64 k ∧ Blk wr wc.heap.size 22 (((out S).take k ++ List.replicate (32 - k) 0).map B8).toArray ∧ Blk wr wb.heap.size 101 S.arr ∧ Below w.heap.size w wr ∧ Blk wr w.heap.size 22 z)
                (fun i _ => 32 - (intOf i).toNat)
              case atStart => exact ⟨0, by omega, rfl, by rw [H00.out]; exact Blk.new _ _ _, K1.out.alloc _, KB.out, K4.out.alloc _⟩
              case round =>
                clear KB K1 K3 K4
                obtain ⟨k, hk, rfl, f1, f2, f3, f4⟩ := hrel
                by_cases hlt : k < 32
                · have hdiv : ((k : Int) / 4) = ((k / 4 : Nat) : Int) := by omega
                  have hk4 : k / 4 < 8 := by omega
                  have hkk : 4 * (k / 4) + k % 4 = k := by omega
                  have hr4 : k % 4 < 4 := by omega
                  have hx := out_at S (k / 4) (k % 4) hk4 hr4
                  rw [hkk] at hx
                  have hlen : ((out S).take k).length = k := by rw [List.length_take, out_length]; omega
                  have c1 : wr.cell? ⟨wb.heap.size, k / 4, none⟩ = some (W32 (S.l.getD (k / 4) 0)) := by
                    have hb : Blk wr wb.heap.size 101 (S.l.map W32).toArray := f2
                    rw [hb.cell]; have : S.l.length = 8 := rfl; simp [show k / 4 < S.l.length by omega]
                  have c2 : wr.cell? ⟨wc.heap.size, k, none⟩ = some (B8 0) := by
                    rw [f1.cell]; simp [List.getElem?_append, out_length, hk, Nat.min_eq_left, show 0 < 32 - k by omega]
                  have c3 := f1.free k
                  have hn : ∀ v, v = B8 (UInt8.ofNat ((S.l.getD (k / 4) 0).toNat / 256 ^ (3 - k % 4))) → Blk (wr.setCell ⟨wc.heap.size, k, none⟩ v) wc.heap.size 22 (((out S).take (k + 1) ++ List.replicate (32 - (k + 1)) 0).map B8).toArray := by
                    rintro v rfl
                    have := f1.put k (B8 (UInt8.ofNat ((S.l.getD (k / 4) 0).toNat / 256 ^ (3 - k % 4))))
                    have hh := row_nextB ((out S).take k) (32 - k) (UInt8.ofNat ((S.l.getD (k / 4) 0).toNat / 256 ^ (3 - k % 4))) (by omega)
                    rw [hlen] at hh
                    rw [hh] at this
                    rw [List.take_add_one, hx]
                    exact this
                  have HN := Lib.hid hn; have F2 := Lib.hid f2; have F3 := Lib.hid f3; have F4 := Lib.hid f4; have HBO := Lib.hid (byte_of (S.l.getD (k / 4) 0) (k % 4) hr4)
                  clear hn f1 f2 f3 f4 hx hlen hkk hr4
                  generalize S.l.getD (k / 4) 0 = x at *
                  have hmod : ((k : Int) % 4) = ((k % 4 : Nat) : Int) := by omega
                  have hm4 : k % 4 = 0 ∨ k % 4 = 1 ∨ k % 4 = 2 ∨ k % 4 = 3 := by omega
                  generalize k % 4 = r at *
                  generalize k / 4 = q4 at *
                  rcases hm4 with rfl | rfl | rfl | rfl
                  all_goals
                    go_wp2
                    go_roundw
                    case rel => exact ⟨k + 1, by omega, by go_num, HN.out _ (HBO.out _ (by simp only [Nat.reduceSub, Nat.reducePow]; first | rfl | omega)), F2.out.farAt (by omega) _, below_putAt F3.out (by omega) _, F4.out.farAt (by omega) _⟩
                    case measure => simp [intOf]; omega
                · obtain rfl : k = 32 := by omega
                  rw [show ((32 : Nat) : Int) = (32 : Int) from rfl]
                  have hm : ((out S).take 32 ++ List.replicate (32 - 32) 0) = sum l := by rw [HSUM.out, List.take_of_length_le (by rw [out_length]; omega)]; simp
                  rw [hm] at f1
                  have hl3 : ((sum l).map B8).length = 32 := by rw [List.length_map, sum_length]
                  have F1 := Lib.hid f1; have F3 := Lib.hid f3; have F4 := Lib.hid f4; have HL3' := Lib.hid hl3
                  clear f1 f2 f3 f4 hm hl3
                  go_wp2_with ((with_reducible show wpList _ _ _ _ _ _); first
                    | (refine wpList_ldAll rfl 22 (.tmp 8) rfl F1.out rfl (by kernel_rfl) (by rw [HL3'.out]; kernel_rfl) ?_)
                    | (refine wpList_stAll rfl 22 (.tmp 2) _ rfl F4.out rfl rfl (by rw [HL3'.out]; kernel_rfl) (by rw [HL3'.out, HZ.out]) (one_map _ _ fun _ => rfl) ?_))
                  refine bodyPost_ret (results_ldAll (mid := (sum l).map B8) rfl _ (F4.out.row _) rfl (by kernel_rfl) (by rw [HL3'.out]; kernel_rfl)) rfl ⟨rfl, Below.row F3.out (by omega) _⟩
        · have hbe : ∀ x, (be (l.length * 8) 8)[8 - m]? = some x → (be (l.length * 8) 8).take (8 - m) ++ [x] = (be (l.length * 8) 8).take (8 - (m - 1)) := by
            intro x hx
            rw [show 8 - (m - 1) = (8 - m) + 1 by omega, List.take_add_one, hx]; rfl
          have HBE := Lib.hid hbe; clear hbe
          have hl2 : l.length + 1 + padN l.length + (8 - m) ≤ 140737488355200 := by omega
          have hxb : ∀ val, val = B8 (UInt8.ofNat (l.length * 8 / 256 ^ (m - 1))) → ∀ W : World, Rd byteE (W.alloc (.cells #[val] 5)) (W.heap.size + 1) (some ⟨W.heap.size, 0, none⟩) [UInt8.ofNat (l.length * 8 / 256 ^ (m - 1))] := fun _ h W => rd_one W h
          have HXB := Lib.hid hxb; clear hxb
          have HAT : Hid ((be (l.length * 8) 8).take (8 - m) ++ [UInt8.ofNat (l.length * 8 / 256 ^ (m - 1))] = (be (l.length * 8) 8).take (8 - (m - 1))) := by
            refine HBE.out _ ?_
            rcases (by omega : m = 1 ∨ m = 2 ∨ m = 3 ∨ m = 4 ∨ m = 5 ∨ m = 6 ∨ m = 7 ∨ m = 8) with rfl | rfl | rfl | rfl | rfl | rfl | rfl | rfl <;> rfl
          have hA : (l ++ [128] ++ List.replicate (padN l.length) 0 ++ (be (l.length * 8) 8).take (8 - (m - 1))).length = l.length + 1 + padN l.length + (8 - (m - 1)) := by
            rw [List.length_append, List.length_append, List.length_append, List.length_replicate, List.length_take, be_length]; simp only [List.length_cons, List.length_nil]; omega
          have HA := Lib.hid hA; clear hA
          rcases (by omega : m = 1 ∨ m = 2 ∨ m = 3 ∨ m = 4 ∨ m = 5 ∨ m = 6 ∨ m = 7 ∨ m = 8) with rfl | rfl | rfl | rfl | rfl | rfl | rfl | rfl
          all_goals
            go_wp2_with (at_builtin; refine wpList_app rfl byteE_fits (.tmp 31) (.tmp 37) 24 rfl Try.underlying24 rfl (HO.out.alloc _) rfl (HXB.out _ (by rw [B8_ofNat]; simp only [Nat.reduceSub, Nat.reducePow]; refine congrArg _ ?_; omega) _) rfl (by rw [HL3.out]; simp only [maxLen]; omega) (by rw [HL3.out]; simp only [byteE]; omega) (by rw [World.size_alloc]; omega) ?_; intro v4 w4 sp4 h1 h2 h3)
            rw [List.append_assoc, HAT.out] at h1
            have BB4 := Lib.hid (below_own (HB.out.alloc (by omega) _) h2 (HO.out.alloc _) (Nat.le_of_lt hw0) (by rw [World.size_alloc]; omega))
            have B4 := Lib.hid ((HZ'.out.alloc _).own h2 (HO.out.alloc _) hw0)
            have hs4 : w0.heap.size ≤ w4.heap.size := by have := h2.size; rw [World.size_alloc] at this; omega
            have O4 := Lib.hid h1
            clear h1 h2 h3 HB HZ' HO HXB HBE
            go_wp2
            go_roundw
            case rel => exact ⟨_, by omega, by rfl, ⟨sp4, O4.out⟩, BB4.out, B4.out, hs4⟩
            case measure => simp [intOf]
end Go.Proofs.Ytlagngkafllbiaa
