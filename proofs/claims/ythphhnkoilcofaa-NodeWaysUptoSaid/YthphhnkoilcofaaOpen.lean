/- The walk of the reference's SHA-256 of a list of bytes. -/
import Derived.Test.YthphhnkoilcofaaRShaZ
import Derived.Test.YthphhnkoilcofaaA4
import Derived.Laws.BitsAllLaws
import Derived.Lib.Bytealg
import Derived.Laws.Externs
import Derived.BigQuiet
import Derived.BigRegion
import Derived.Lib.BitFns
import Derived.Shelf.SlSortCmp.WholeK
import Derived.DeepKeys3
import Derived.Shelf.SlSortCmp.QuietGrown
import Derived.Shelf.SlSortCmp.NoneTotal
import Derived.Test.YthphhnkoilcofaaRows
import Derived.OpenShut
import Derived.Carry
import Derived.WalkKit
import Derived.ProofKit
import Derived.JoinedCond
set_option linter.unusedSimpArgs false
set_option linter.unusedVariables false
namespace Go.Proofs.Ythphhnkoilcofaa
open Go Go.RowKit
theorem pad_step (n k : Nat) (hk : k < padN n) : (n + 1 + k) % 64 ≠ 56 := by unfold padN at hk; omega
theorem pad_end (n : Nat) : (n + 1 + padN n) % 64 = 56 := by unfold padN; omega
/-- The next byte of a row is filled. -/
theorem row_nextB (xs : List UInt8) (n : Nat) (x : UInt8) (hn : 0 < n) : ((xs ++ List.replicate n 0).map B8).toArray.setIfInBounds xs.length (B8 x) = ((xs ++ [x] ++ List.replicate (n - 1) 0).map B8).toArray := by
  obtain ⟨m, rfl⟩ : ∃ m, n = m + 1 := ⟨n - 1, by omega⟩
  simp [List.replicate_succ]
/-- A byte of a word, as the code reckons it. -/
theorem byte_of (x : BitVec 32) (r : Nat) (hr : r < 4) (v : Int) (hv : v = n32 x / ((256 ^ (3 - r) : Nat) : Int) % 256) : Value.int .u8 v = B8 (UInt8.ofNat (x.toNat / 256 ^ (3 - r))) := by
  rw [B8_ofNat, hv]; unfold n32
  rcases (by omega : r = 0 ∨ r = 1 ∨ r = 2 ∨ r = 3) with rfl | rfl | rfl | rfl <;> refine congrArg _ ?_ <;> simp only [Nat.reduceSub, Nat.reducePow] <;> omega
set_option maxRecDepth 100000 in
set_option maxHeartbeats 1600000 in
theorem sumR_any (l : List UInt8) (A : Option Addr) (c : Nat) (w : World) (hr : Rd byteE w w.heap.size A l) (hl : l.length ≤ 140737488355000) :
    Calls Try.prog 144 #[.slice A l.length c] w fun e w' => e = .returned (.agg ((sum l).map B8).toArray) ∧ Below w.heap.size w w' := by
  have HR := Lib.hid hr; clear hr
  have hpn : padN l.length < 64 := by unfold padN; omega
  go_enter Try.func144, Try.ntmps144
  iterate 6 go_step
  refine wpList_forget (fun w0 => (∃ z : Array Value, z.size = 32 ∧ Blk w0 w.heap.size 26 z) ∧ Below w.heap.size w w0 ∧ w.heap.size < w0.heap.size) ?_ ?_
  · exact ⟨⟨_, by rfl, Blk.new _ _ _⟩, (Below.refl _ _).alloc (Nat.le_refl _) _, by simp⟩
  rintro w0 ⟨⟨z, hz, b0⟩, bb, hw0⟩
  have hr0 := (HR.out.below bb).more (Nat.le_of_lt hw0)
  have BB := Lib.hid bb; have HZ := Lib.hid hz; have B0 := Lib.hid b0; have R0 := Lib.hid hr0; clear bb hz b0 hr0
  go_wp2_with (first
    | (at_builtin; refine wpList_app rfl byteE_fits (.tmp 10) (.tmp 11) 60 rfl Try.underlying60 rfl (base := w0.heap.size) (own_new _ _ (Nat.le_refl _)) rfl (R0.out.alloc (Nat.le_refl _) _) rfl (by simp only [maxLen, List.length_nil]; omega) (by simp only [byteE, List.length_nil]; omega) (by rw [World.size_alloc]; omega) ?_
       intro v1 w1 sp1 h1 h2 h3
       have BB1 := Lib.hid (below_own (BB.out.alloc (by omega) _) h2 (own_new w0 _ (Nat.le_refl _)) (Nat.le_of_lt hw0) (by rw [World.size_alloc]; omega))
       have B1 := Lib.hid ((B0.out.alloc (.cells #[] 5)).own h2 (own_new w0 _ (Nat.le_refl _)) hw0)
       have hs1 : w0.heap.size ≤ w1.heap.size := by have := h2.size; rw [World.size_alloc] at this; omega
       rw [List.nil_append] at h1
       have O1 := Lib.hid h1
       clear h1 h2 h3 BB B0 R0)
    | (at_builtin; refine wpList_app rfl byteE_fits (.tmp 13) (.tmp 14) 60 rfl Try.underlying60 rfl (O1.out.alloc _) rfl (rd_one _ (x := 128) rfl) rfl (by simp only [maxLen]; omega) (by simp only [byteE]; omega) (by rw [World.size_alloc]; omega) ?_
       intro v2 w2 sp2 h1 h2 h3
       have BB2 := Lib.hid (below_own (BB1.out.alloc (by omega) _) h2 (O1.out.alloc _) (Nat.le_of_lt hw0) (by rw [World.size_alloc]; omega))
       have B2 := Lib.hid ((B1.out.alloc _).own h2 (O1.out.alloc _) hw0)
       have hs2 : w0.heap.size ≤ w2.heap.size := by have := h2.size; rw [World.size_alloc] at this; omega
       have O2 := Lib.hid h1
       clear h1 h2 h3 BB1 B1 O1))
  go_loopw [3] (fun v wr => ∃ k : Nat, k ≤ padN l.length ∧ (∃ sp, Own byteE wr w0.heap.size v (l ++ [128] ++ List.replicate k 0) sp) ∧ Below w.heap.size w wr ∧ Blk wr w.heap.size 26 z ∧ w0.heap.size ≤ wr.heap.size)
    (fun v _ => l.length + 1 + padN l.length - slen v)
  case atStart => exact ⟨0, Nat.zero_le _, ⟨sp2, by simpa using O2.out⟩, BB2.out, B2.out, hs2⟩
  case round =>
    obtain ⟨k, hk, ⟨sp, ho⟩, hb, hz', hs⟩ := hrel
    clear BB2 B2 O2
    have hlen : (l ++ [128] ++ List.replicate k 0).length = l.length + 1 + k := by rw [List.length_append, List.length_append, List.length_replicate]; rfl
    obtain ⟨Av, cv, rfl, hcv1, hcv2⟩ := ho.shape hlen
    have HO := Lib.hid ho; have HB := Lib.hid hb; have HZ' := Lib.hid hz'; have HLEN := Lib.hid hlen
    clear ho hb hz' hlen hcv1 hcv2
    have hps := pad_step l.length k
    have hpe := pad_end l.length
    by_cases hlt : k < padN l.length
    · have hne : ¬ (((l.length : Int) + 1 + (k : Int)) % 64 = 56) := by have := hps hlt; omega
      clear hps hpe
      go_wp2_with (at_builtin; refine wpList_app rfl byteE_fits (.tmp 20) (.tmp 21) 60 rfl Try.underlying60 rfl (HO.out.alloc _) rfl (rd_one _ (x := 0) rfl) rfl (by rw [HLEN.out]; simp only [maxLen]; omega) (by rw [HLEN.out]; simp only [byteE]; omega) (by rw [World.size_alloc]; omega) ?_; intro v1 w1 sp1 h1 h2 h3)
      rw [List.append_assoc, ← List.replicate_succ'] at h1
      have hlen' : (l ++ [128] ++ List.replicate (k + 1) 0).length = l.length + 1 + (k + 1) := by rw [List.length_append, List.length_append, List.length_replicate]; rfl
      obtain ⟨A1, c1, rfl, _, _⟩ := h1.shape hlen'
      have BB1 := Lib.hid (below_own (HB.out.alloc (by omega) _) h2 (HO.out.alloc _) (Nat.le_of_lt hw0) (by rw [World.size_alloc]; omega))
      have B1 := Lib.hid ((HZ'.out.alloc _).own h2 (HO.out.alloc _) hw0)
      have hs1 : w0.heap.size ≤ w1.heap.size := by have := h2.size; rw [World.size_alloc] at this; omega
      have O1 := Lib.hid h1
      clear h1 h2 h3 HB HZ' HO hlen'
      go_wp2
      go_roundw
      case rel => exact ⟨k + 1, hlt, ⟨sp1, O1.out⟩, BB1.out, B1.out, hs1⟩
      case measure => simp [slen]; omega
    · obtain rfl : k = padN l.length := by omega
      have hne : (((l.length : Int) + 1 + ((padN l.length : Nat) : Int)) % 64 = 56) := by omega
      clear hps hpe
      have HNE := Lib.hid hne; clear hne
      have hbl : ((((l.length : Int) + 1 + ((padN l.length : Nat) : Int)) % 64) != 56) = false := by simpa using HNE.out
      go_wp2
      clear hbl
      go_loopw [3, 5] (fun v i wr => ∃ m : Nat, m ≤ 8 ∧ i = .int .i64 ((m : Int) - 1) ∧ (∃ sp, Own byteE wr w0.heap.size v (l ++ [128] ++ List.replicate (padN l.length) 0 ++ (be (l.length * 8) 8).take (8 - m)) sp) ∧ Below w.heap.size w wr ∧ Blk wr w.heap.size 26 z ∧ w0.heap.size ≤ wr.heap.size)
        (fun _ i _ => (intOf i + 1).toNat)
      case atStart => exact ⟨8, by omega, rfl, ⟨sp, by simpa using HO.out⟩, HB.out, HZ'.out, hs⟩
      case round =>
        clear HO HB HZ' hs
        obtain ⟨m, hm, rfl, ⟨sp3, ho⟩, hb, hz', hs⟩ := hrel
        have hlen : (l ++ [128] ++ List.replicate (padN l.length) 0 ++ (be (l.length * 8) 8).take (8 - m)).length = l.length + 1 + padN l.length + (8 - m) := by
          rw [List.length_append, List.length_append, List.length_append, List.length_replicate, List.length_take, be_length]; simp only [List.length_cons, List.length_nil]; omega
        obtain ⟨g3, c3, rfl, hcv1, hcv2, hg3, hg3'⟩ := ho.shapePos hlen (by omega)
        have HO := Lib.hid ho; have HB := Lib.hid hb; have HZ' := Lib.hid hz'; have HL3 := Lib.hid hlen
        clear ho hb hz' hlen
        by_cases hm0 : m = 0
        · subst hm0
          have hpad : l ++ [128] ++ List.replicate (padN l.length) 0 ++ (be (l.length * 8) 8).take (8 - 0) = pad l := by
            rw [pad_def, List.take_of_length_le (by rw [be_length]; omega)]
          have e : l.length + 1 + padN l.length + (8 - 0) = (pad l).length := by rw [pad_size]; omega
          have hN64 := pad_length l
          have hNle : (pad l).length ≤ 140737488355200 := by rw [pad_size]; omega
          have ho' := HO.out
          rw [hpad, e] at ho'
          have HO' := Lib.hid ho'
          clear ho' hpad HO HL3
          rw [e] at hcv1 ⊢
          rw [show ((0 : Nat) : Int) - 1 = -1 from rfl]
          clear e
          have hcc := hcv1
          obtain ⟨wb, rfl⟩ : ∃ wb : World, wb = wr := ⟨_, rfl⟩
          have H4 : Hid (Blk (wb.alloc (Obj.cells h0.arr 244)) wb.heap.size 244 h0.arr) := Blk.new _ _ _
          have HB4 := Lib.hid (HB.out.alloc (by omega) (Obj.cells h0.arr 244))
          go_wp2
          go_loopw [7] (fun i wr => ∃ q : Nat, 64 * q ≤ (pad l).length ∧ i = .int .i64 ((64 * q : Nat) : Int) ∧ Blk wr wb.heap.size 244 (steps h0 q (pad l)).arr ∧ Own byteE wr w0.heap.size (.slice (some ⟨g3, 0, none⟩) (pad l).length c3) (pad l) sp3 ∧ Below w.heap.size w wr ∧ Blk wr w.heap.size 26 z ∧ wb.heap.size < wr.heap.size)
            (fun i _ => (pad l).length - (intOf i).toNat)
          case atStart => exact ⟨0, by omega, rfl, by rw [steps_zero]; exact H4.out, HO'.out.alloc _, HB4.out, HZ'.out.alloc _, by simp⟩
          case round =>
            clear H4 HB4 HO' HZ' HB
            obtain ⟨q, hq, rfl, k1, k2, k3, k4, k5⟩ := hrel
            by_cases hlt : 64 * q < (pad l).length
            · have hq64 : 64 * q + 64 ≤ (pad l).length := by omega
              have hblk : ((pad l).drop (64 * q)).length = (pad l).length - 64 * q := List.length_drop
              have hrd : Rd byteE wr wr.heap.size (some ⟨g3, 64 * q, none⟩) (((pad l).drop (64 * q)).take 64) := by
                have := (k2.rd.cut (k := 64 * q) (cap := c3) (by omega)).take 64
                rw [if_neg (by omega)] at this
                simpa [byteE, addr_add] using this
              have htl : (((pad l).drop (64 * q)).take 64).length = 64 := by rw [List.length_take, hblk]; omega
              have HRD := Lib.hid hrd; have HTL := Lib.hid htl; have HST := Lib.hid (steps_next h0 q (pad l))
              have K1 := Lib.hid k1; have K2 := Lib.hid k2; have K3 := Lib.hid k3; have K4 := Lib.hid k4
              clear hrd htl hblk k1 k2 k3 k4 hq
              go_wp2
              refine wp_region_T [6, 7] [] (fun _ => True) (by kernel_rfl) (by kernel_rfl) (by first | rfl | trivial | assumption) ?_
              repeat (first
                | (refine wpT_skip (by rfl) ?_)
                | (refine wpT_ldAll (by rfl) (by rfl) (by rfl) 244 _ rfl (mid := (steps h0 q (pad l)).arr.toList) K1.out.drew rfl (by kernel_rfl) (by kernel_rfl) ?_; go_simp)
                | (refine wpT_here (by rfl) (by rfl) (by rfl) (fun K hK => ?_); go_big_quiet_op; refine hK _ ?_; clear hK K)
                | (refine wpT_loud (by rfl) (by rfl) (fun K hK => ?_); first | (go_step; refine (stepR_any (steps h0 q (pad l)) _ HTL.out _ _ _ (HRD.out.drew)).mono ?_; rintro e w5 ⟨rfl, hb5⟩; have HB5 := Lib.hid hb5; clear hb5; dsimp only; refine hK _ _ trivial ?_) | (refine wp_stAll 244 _ _ rfl (K1.out.drew.below HB5.out (by rw [World.size_drew]; omega)) rfl rfl (by kernel_rfl) (Eq.trans (b := 8) rfl rfl) (by simp [Value.oneCell']) ?_; refine hK _ _ trivial ?_); clear hK K))
              refine wpT_nil ?_
              have K1' := Lib.hid ((K1.out.drew.below HB5.out (by rw [World.size_drew]; omega)).row (step (steps h0 q (pad l)) (List.take 64 (List.drop (64 * q) (pad l)))).arr)
              have K2' := Lib.hid ((K2.out.drew.belowSize HB5.out).row (k := wb.heap.size) (by simp [Value.ownBlock]; omega) (step (steps h0 q (pad l)) (List.take 64 (List.drop (64 * q) (pad l)))).arr)
              have K3' := Lib.hid (Below.row (K3.out.drew.trans (HB5.out.mono (by rw [World.size_drew]; omega))) (g := wb.heap.size) (by omega) (step (steps h0 q (pad l)) (List.take 64 (List.drop (64 * q) (pad l)))).arr)
              have K4' := Lib.hid ((K4.out.drew.below HB5.out (by rw [World.size_drew]; omega)).rowFar (k := wb.heap.size) (by omega) (step (steps h0 q (pad l)) (List.take 64 (List.drop (64 * q) (pad l)))).arr)
              have K5' : wb.heap.size < w5.heap.size := by have := HB5.out.size; rw [World.size_drew] at this; omega
              clear K1 K2 K3 K4 HRD HB5
              go_wp2
              go_roundw
              case rel => exact ⟨q + 1, by omega, by go_num, by rw [HST.out]; exact K1'.out, K2'.out, K3'.out, K4'.out, by simpa using K5'⟩
              case measure => simp [intOf]; omega
            · have hqq : 64 * q = (pad l).length := by omega
              have hsum : sum l = out (steps h0 q (pad l)) := by rw [sum_def, show (pad l).length / 64 = q by omega]
              have HSUM := Lib.hid hsum; clear hsum
              have K1 := Lib.hid k1; have K3 := Lib.hid k3; have K4 := Lib.hid k4
              clear k1 k2 k3 k4 hq hqq
              obtain ⟨S, hS⟩ : ∃ S, S = steps h0 q (pad l) := ⟨_, rfl⟩
              rw [← hS] at K1 HSUM
              clear hS
              obtain ⟨wc, rfl⟩ : ∃ wc : World, wc = wr := ⟨_, rfl⟩
              have h00 : ((out S).take 0 ++ List.replicate (32 - 0) 0).map B8 = List.replicate 32 (B8 0) := by simp
              have H00 := Lib.hid h00; clear h00
              have KB := Lib.hid (K3.out.alloc (by omega) (Obj.cells (List.replicate 32 (B8 0)).toArray 26))
              go_wp2
              go_loopw [9] (fun i wr => ∃ k : Nat, k ≤ 32 ∧ i = .int .i64 k ∧ Blk wr wc.heap.size 26 (((out S).take k ++ List.replicate (32 - k) 0).map B8).toArray ∧ Blk wr wb.heap.size 244 S.arr ∧ Below w.heap.size w wr ∧ Blk wr w.heap.size 26 z)
                (fun i _ => 32 - (intOf i).toNat)
              case atStart => exact ⟨0, by omega, rfl, by rw [H00.out]; exact Blk.new _ _ _, K1.out.alloc _, KB.out, K4.out.alloc _⟩
              case round =>
                clear KB K1 K3 K4
                obtain ⟨k, hk, rfl, f1, f2, f3, f4⟩ := hrel
                by_cases hlt : k < 32
                · have hdiv : ((k : Int) / 4) = ((k / 4 : Nat) : Int) := by omega
                  have hk4 : k / 4 < 8 := by omega
                  have hkk : 4 * (k / 4) + k % 4 = k := by omega
                  have hr4 : k % 4 < 4 := by omega
                  have hx := out_at S (k / 4) (k % 4) hk4 hr4
                  rw [hkk] at hx
                  have hlen : ((out S).take k).length = k := by rw [List.length_take, out_length]; omega
                  have c1 : wr.cell? ⟨wb.heap.size, k / 4, none⟩ = some (W32 (S.l.getD (k / 4) 0)) := by
                    have hb : Blk wr wb.heap.size 244 (S.l.map W32).toArray := f2
                    rw [hb.cell]; have : S.l.length = 8 := rfl; simp [show k / 4 < S.l.length by omega]
                  have c2 : wr.cell? ⟨wc.heap.size, k, none⟩ = some (B8 0) := by
                    rw [f1.cell]; simp [List.getElem?_append, out_length, hk, Nat.min_eq_left, show 0 < 32 - k by omega]
                  have c3 := f1.free k
                  have hn : ∀ v, v = B8 (UInt8.ofNat ((S.l.getD (k / 4) 0).toNat / 256 ^ (3 - k % 4))) → Blk (wr.setCell ⟨wc.heap.size, k, none⟩ v) wc.heap.size 26 (((out S).take (k + 1) ++ List.replicate (32 - (k + 1)) 0).map B8).toArray := by
                    rintro v rfl
                    have := f1.put k (B8 (UInt8.ofNat ((S.l.getD (k / 4) 0).toNat / 256 ^ (3 - k % 4))))
                    have hh := row_nextB ((out S).take k) (32 - k) (UInt8.ofNat ((S.l.getD (k / 4) 0).toNat / 256 ^ (3 - k % 4))) (by omega)
                    rw [hlen] at hh
                    rw [hh] at this
                    rw [List.take_add_one, hx]
                    exact this
                  have HN := Lib.hid hn; have F2 := Lib.hid f2; have F3 := Lib.hid f3; have F4 := Lib.hid f4; have HBO := Lib.hid (byte_of (S.l.getD (k / 4) 0) (k % 4) hr4)
                  clear hn f1 f2 f3 f4 hx hlen hkk hr4
                  generalize S.l.getD (k / 4) 0 = x at *
                  have hmod : ((k : Int) % 4) = ((k % 4 : Nat) : Int) := by omega
                  have hm4 : k % 4 = 0 ∨ k % 4 = 1 ∨ k % 4 = 2 ∨ k % 4 = 3 := by omega
                  generalize k % 4 = r at *
                  generalize k / 4 = q4 at *
                  rcases hm4 with rfl | rfl | rfl | rfl
                  all_goals
                    go_wp2
                    go_roundw
                    case rel => exact ⟨k + 1, by omega, by go_num, HN.out _ (HBO.out _ (by simp only [Nat.reduceSub, Nat.reducePow]; first | rfl | omega)), F2.out.farAt (by omega) _, below_putAt F3.out (by omega) _, F4.out.farAt (by omega) _⟩
                    case measure => simp [intOf]; omega
                · obtain rfl : k = 32 := by omega
                  rw [show ((32 : Nat) : Int) = (32 : Int) from rfl]
                  have hm : ((out S).take 32 ++ List.replicate (32 - 32) 0) = sum l := by rw [HSUM.out, List.take_of_length_le (by rw [out_length]; omega)]; simp
                  rw [hm] at f1
                  have hl3 : ((sum l).map B8).length = 32 := by rw [List.length_map, sum_length]
                  have F1 := Lib.hid f1; have F3 := Lib.hid f3; have F4 := Lib.hid f4; have HL3' := Lib.hid hl3
                  clear f1 f2 f3 f4 hm hl3
                  go_wp2_with ((with_reducible show wpList _ _ _ _ _ _); first
                    | (refine wpList_ldAll rfl 26 (.tmp 8) rfl F1.out rfl (by kernel_rfl) (by rw [HL3'.out]; kernel_rfl) ?_)
                    | (refine wpList_stAll rfl 26 (.tmp 2) _ rfl F4.out rfl rfl (by rw [HL3'.out]; kernel_rfl) (by rw [HL3'.out, HZ.out]) (one_map _ _ fun _ => rfl) ?_))
                  refine bodyPost_ret (results_ldAll (mid := (sum l).map B8) rfl _ (F4.out.row _) rfl (by kernel_rfl) (by rw [HL3'.out]; kernel_rfl)) rfl ⟨rfl, Below.row F3.out (by omega) _⟩
        · have hbe : ∀ x, (be (l.length * 8) 8)[8 - m]? = some x → (be (l.length * 8) 8).take (8 - m) ++ [x] = (be (l.length * 8) 8).take (8 - (m - 1)) := by
            intro x hx
            rw [show 8 - (m - 1) = (8 - m) + 1 by omega, List.take_add_one, hx]; rfl
          have HBE := Lib.hid hbe; clear hbe
          have hl2 : l.length + 1 + padN l.length + (8 - m) ≤ 140737488355200 := by omega
          have hxb : ∀ val, val = B8 (UInt8.ofNat (l.length * 8 / 256 ^ (m - 1))) → ∀ W : World, Rd byteE (W.alloc (.cells #[val] 5)) (W.heap.size + 1) (some ⟨W.heap.size, 0, none⟩) [UInt8.ofNat (l.length * 8 / 256 ^ (m - 1))] := fun _ h W => rd_one W h
          have HXB := Lib.hid hxb; clear hxb
          have HAT : Hid ((be (l.length * 8) 8).take (8 - m) ++ [UInt8.ofNat (l.length * 8 / 256 ^ (m - 1))] = (be (l.length * 8) 8).take (8 - (m - 1))) := by
            refine HBE.out _ ?_
            rcases (by omega : m = 1 ∨ m = 2 ∨ m = 3 ∨ m = 4 ∨ m = 5 ∨ m = 6 ∨ m = 7 ∨ m = 8) with rfl | rfl | rfl | rfl | rfl | rfl | rfl | rfl <;> rfl
          have hA : (l ++ [128] ++ List.replicate (padN l.length) 0 ++ (be (l.length * 8) 8).take (8 - (m - 1))).length = l.length + 1 + padN l.length + (8 - (m - 1)) := by
            rw [List.length_append, List.length_append, List.length_append, List.length_replicate, List.length_take, be_length]; simp only [List.length_cons, List.length_nil]; omega
          have HA := Lib.hid hA; clear hA
          rcases (by omega : m = 1 ∨ m = 2 ∨ m = 3 ∨ m = 4 ∨ m = 5 ∨ m = 6 ∨ m = 7 ∨ m = 8) with rfl | rfl | rfl | rfl | rfl | rfl | rfl | rfl
          all_goals
            go_wp2_with (at_builtin; refine wpList_app rfl byteE_fits (.tmp 31) (.tmp 37) 60 rfl Try.underlying60 rfl (HO.out.alloc _) rfl (HXB.out _ (by rw [B8_ofNat]; simp only [Nat.reduceSub, Nat.reducePow]; refine congrArg _ ?_; omega) _) rfl (by rw [HL3.out]; simp only [maxLen]; omega) (by rw [HL3.out]; simp only [byteE]; omega) (by rw [World.size_alloc]; omega) ?_; intro v4 w4 sp4 h1 h2 h3)
            rw [List.append_assoc, HAT.out] at h1
            have BB4 := Lib.hid (below_own (HB.out.alloc (by omega) _) h2 (HO.out.alloc _) (Nat.le_of_lt hw0) (by rw [World.size_alloc]; omega))
            have B4 := Lib.hid ((HZ'.out.alloc _).own h2 (HO.out.alloc _) hw0)
            have hs4 : w0.heap.size ≤ w4.heap.size := by have := h2.size; rw [World.size_alloc] at this; omega
            have O4 := Lib.hid h1
            clear h1 h2 h3 HB HZ' HO HXB HBE
            go_wp2
            go_roundw
            case rel => exact ⟨_, by omega, by rfl, ⟨sp4, O4.out⟩, BB4.out, B4.out, hs4⟩
            case measure => simp [intOf]
end Go.Proofs.Ythphhnkoilcofaa
/- Contracts in memory made contracts in values: the block step of SHA-256, the document's sum. -/
namespace Go.Proofs.Ythphhnkoilcofaa
open Go Go.RowKit
section
variable {P : Program}
theorem VC.ofA {f : FuncId} {args : List AV} {res : AV} (hf : Fok P f)
    (h : ∀ (w : World) (N : Gh) (vs : List Value), Mem N w → vs.length = args.length → (∀ (i : Nat) x v, args[i]? = some x → vs[i]? = some v → RV N x v) →
      Calls P f vs.toArray w fun e w' => ∃ v, e = .returned v ∧ Below w.heap.size w w' ∧ RV N res v) : VC P f args [] res := by
  refine ⟨hf, fun w N vs hI hl hv => (h w N vs hI.mem hl hv).mono ?_⟩
  rintro e w' ⟨v, rfl, hb, hr⟩
  exact ⟨N, v, rfl, hI.keep (fun k hk => hb.block k hk) hb.size hb.os hb.tape hb.output, hr⟩
theorem two {args : List AV} {vs : List Value} {N : Gh} {x y : AV} (hl : vs.length = [x, y].length) (hv : ∀ (i : Nat) a v, [x, y][i]? = some a → vs[i]? = some v → RV N a v) : ∃ u v, vs = [u, v] ∧ RV N x u ∧ RV N y v := by
  match vs, hl with
  | [u, v], _ => exact ⟨u, v, rfl, hv 0 x u rfl rfl, hv 1 y v rfl rfl⟩
theorem one_ {vs : List Value} {N : Gh} {x : AV} (hl : vs.length = [x].length) (hv : ∀ (i : Nat) a v, [x][i]? = some a → vs[i]? = some v → RV N a v) : ∃ u, vs = [u] ∧ RV N x u := by
  match vs, hl with
  | [u], _ => exact ⟨u, rfl, hv 0 x u rfl rfl⟩
theorem RC.bs_rd {g : Gh} {w : World} (hM : Mem g w) {l : List UInt8} {u : Value} (h : RV g (.bs l none) u) : ∃ A c, u = .slice A l.length c ∧ Rd byteE w w.heap.size A l := by
  obtain ⟨_, A, c, e, _, _, hr⟩ := h.bs_inv.bs_inv
  injection e with e
  refine ⟨A, c, e, ?_⟩
  rcases hr with h | ⟨b, o, hA, hj⟩
  · exact .inl h
  · by_cases hl : l = []
    · exact .inl hl
    · refine .inr ⟨b, o, hA, ?_, fun j u hu => ?_⟩
      · have h0 : 0 < l.length := List.length_pos_iff.2 hl
        exact hM.lt (hj 0 h0)
      · rw [byteE_all, List.getElem?_map] at hu
        obtain ⟨x, hx, rfl⟩ := Option.map_eq_some_iff.1 hu
        obtain ⟨hjl, e⟩ := List.getElem?_eq_some_iff.1 hx
        exact hM.ro _ _ _ (by rw [← e]; exact hj j hjl)
/-- The eight words. -/
def s8v (s : S8) : AV := .st [.v (W32 s.a), .v (W32 s.b), .v (W32 s.c), .v (W32 s.d), .v (W32 s.e), .v (W32 s.f), .v (W32 s.g), .v (W32 s.h)]
def s8T : Ty := .cn .sc (.cn .sc (.cn .sc (.cn .sc (.cn .sc (.cn .sc (.cn .sc (.cn .sc .nl)))))))
theorem s8v_inv {g : Gh} {s : S8} {u : Value} (h : RV g (s8v s) u) : u = .agg s.arr := by
  obtain ⟨T, cs, _, hr, rfl⟩ := h.st_inv
  unfold s8v at *
  cases hr with | cn h1 hr => cases h1; cases hr with | cn h1 hr => cases h1; cases hr with | cn h1 hr => cases h1; cases hr with | cn h1 hr => cases h1; cases hr with | cn h1 hr => cases h1; cases hr with | cn h1 hr => cases h1; cases hr with | cn h1 hr => cases h1; cases hr with | cn h1 hr => cases h1; cases hr; rfl
theorem s8v_rc (g : Gh) (s : S8) : RC g s8T (s8v s) s.arr.toList := by
  show RC g s8T (s8v s) ([_] ++ ([_] ++ ([_] ++ ([_] ++ ([_] ++ ([_] ++ ([_] ++ ([_] ++ []))))))))
  exact .cn (.v rfl) (.cn (.v rfl) (.cn (.v rfl) (.cn (.v rfl) (.cn (.v rfl) (.cn (.v rfl) (.cn (.v rfl) (.cn (.v rfl) .nl)))))))
end
theorem step_v (s : S8) (b : List UInt8) (hb : b.length = 64) : VC Try.prog 163 [s8v s, .ba b] [] (s8v (step s b)) := by
  refine VC.ofA ⟨_, Try.func163, by kernel_rfl, by kernel_rfl⟩ fun w N vs hM hl hv => ?_
  obtain ⟨u, v, rfl, h1, h2⟩ := two (args := []) hl hv
  have e1 := s8v_inv h1; have e2 := h2.ba_inv
  subst e1 e2
  refine (step_any s b hb w).mono ?_
  rintro e w' ⟨rfl, hw⟩
  exact ⟨_, rfl, hw, (show RV1 N (s8v (step s b)) _ from .inl ⟨s8T, _, rfl, s8v_rc N _, rfl⟩).rv⟩
theorem sumR_v (l : List UInt8) (hl : l.length ≤ 140737488355000) : VC Try.prog 144 [.bs l none] [] (.ba (sum l)) := by
  refine VC.ofA ⟨_, Try.func144, by kernel_rfl, by kernel_rfl⟩ fun w N vs hM hn hv => ?_
  obtain ⟨u, rfl, h1⟩ := one_ hn hv
  obtain ⟨A, c, rfl, hr⟩ := RC.bs_rd hM h1
  refine (sumR_any l A c w hr hl).mono ?_
  rintro e w' ⟨rfl, hw⟩
  exact ⟨_, rfl, hw, (show RV1 N (.ba (sum l)) _ from .inl ⟨.ba 32, _, rfl, .ba (sum_length l), rfl⟩).rv⟩
end Go.Proofs.Ythphhnkoilcofaa
/- The program's SHA-256, byte by byte. -/
namespace Go.Proofs.Ythphhnkoilcofaa
open Go Go.RowKit
theorem ren_s8v (fb fr : Nat → Option Nat) (d : Nat) (s : S8) : ren fb fr (d + 1) (s8v s) = s8v s := by cases d <;> rfl
/-- A state of the program's. -/
def shv (s : S8) (b : List UInt8) (n all : Nat) : AV := .st [.v (.bool true), s8v s, .ba b, .v (.int .i64 (n : Int)), .v (.int .i64 (all : Int))]
theorem ren_shv (fb fr : Nat → Option Nat) (d : Nat) (s : S8) (b : List UInt8) (n all : Nat) : ren fb fr (d + 2) (shv s b n all) = shv s b n all := by cases d <;> rfl
theorem begin_v : VC Try.prog 161 [] [] (s8v h0) := by
  refine v_enter Try.func161 rfl (by kernel_rfl) (by decide) ?_
  intro N w0 a w hN hR H
  have hX := And.intro @ren_s8v (@ren_shv)
  have hY := And.intro @s8v.eq_1 (And.intro @shv.eq_1 (And.intro @W32.eq_1 (@h0.eq_1)))
  refine mW ?_; clear H; intro a w H
  refine wp_ret ?_; exact mEnd [] [] [.cell 0 244] [_] hN hR H
theorem new_v : VX Try.prog 125 [] [] [] [] [(ti248.ty, shv h0 (List.replicate 64 0) 0 0)] [] [] (.ptr 0 []) := by
  refine v_enter Try.func125 rfl (by kernel_rfl) (by decide) ?_
  intro N w0 a w hN hR H
  have hX := And.intro @ren_s8v (@ren_shv)
  have hY := And.intro @s8v.eq_1 (And.intro @shv.eq_1 (And.intro @W32.eq_1 (@h0.eq_1)))
  refine mW ?_; clear H; intro a w H
  refine mCall [] [] (begin_v) H ?_; clear H; intro a w H; try refine wpList_nil ?_
  refine mW ?_; clear H; intro a w H
  clear hX; have hX := And.intro @ren_s8v (And.intro @ren_shv (@shv.eq_1))
  refine wp_ret ?_; exact mEnd [0] [] [.tmp 0] [_] hN hR H
theorem none_v (s : S8) (b : List UInt8) (n all : Nat) : VX Try.prog 162 [(ti248.ty, shv s b n all)] [] [] [.ptr 0 []] [(ti248.ty, shv s b n all)] [] [] (.v (.bool false)) := by
  refine v_enter Try.func162 rfl (by kernel_rfl) (by show 1 ≤ 12; decide) ?_
  intro N w0 a w hN hR H
  have hX := And.intro @ren_s8v (@ren_shv)
  have hY := And.intro @s8v.eq_1 (And.intro @shv.eq_1 (And.intro @W32.eq_1 (@h0.eq_1)))
  refine mW ?_; clear H; intro a w H
  refine wp_ret ?_; exact mEnd [0] [] [.tmp 2] [_] hN hR H

/-- What a write makes of the state: a part of a block at a time. -/
def feed : Nat → S8 → List UInt8 → Nat → List UInt8 → S8 × List UInt8 × Nat
  | 0, s, b, n, _ => (s, b, n)
  | f + 1, s, b, n, l => if l = [] then (s, b, n) else
      let b' := b.take n ++ l.take (64 - n) ++ b.drop (n + (l.take (64 - n)).length)
      if n + (l.take (64 - n)).length = 64 then feed f (step s b') b' 0 (l.drop (l.take (64 - n)).length) else feed f s b' (n + (l.take (64 - n)).length) (l.drop (l.take (64 - n)).length)
set_option maxRecDepth 20000 in
theorem write_v (s : S8) (b : List UInt8) (n all : Nat) (l : List UInt8) (hb : b.length = 64) (hn : n < 64) (hl : l.length ≤ 34359738368) (ha : all ≤ 34359738368) :
    VX Try.prog 126 [(ti248.ty, shv s b n all)] [] [] [.ptr 0 [], .bs l none]
      [(ti248.ty, shv (feed l.length s b n l).1 (feed l.length s b n l).2.1 (feed l.length s b n l).2.2 (all + l.length))] [] [] (.v (.int .i64 (l.length : Int))) := by
  refine v_enter Try.func126 rfl (by kernel_rfl) (by show 2 ≤ 65; decide) ?_
  intro N w0 a w hN hR H
  have hX := And.intro @ren_s8v (@ren_shv)
  have hY := And.intro @s8v.eq_1 (And.intro @shv.eq_1 (And.intro @W32.eq_1 (@h0.eq_1)))
  refine mW ?_; clear H; intro a w H
  refine mCall [0] [] (none_v s b n all) H ?_; clear H; intro a w H; try refine wpList_nil ?_
  refine mC H (fun hb => ?_) (fun hb => ?_)
  · cases hb
  clear hX; have hX := And.intro @ren_s8v (And.intro @ren_shv (@shv.eq_1))
  refine mW ?_; clear H; intro a w H
  refine v_loop (fun i : S8 × List UInt8 × Nat × List UInt8 => ⟨[(0, none, .ptr 0 []), (1, none, .bs l none), (5, none, .bs i.2.2.2 none)], [(ti248.ty, .st [.v (.bool true), s8v i.1, .ba i.2.1, .v (.int .i64 (i.2.2.1 : Int)), .v (.int .i64 ((all : Int) + (l.length : Int)))])], [], []⟩)
    (fun i => i.2.1.length = 64 ∧ i.2.2.1 < 64 ∧ i.2.2.2.length ≤ l.length ∧ ∃ f, i.2.2.2.length ≤ f ∧ feed f i.1 i.2.1 i.2.2.1 i.2.2.2 = feed l.length s b n l) (fun i => i.2.2.2.length) (s, b, n, l) ⟨by assumption, hn, Nat.le_refl _, l.length, Nat.le_refl _, rfl⟩
    (H.to 1 0 ⟨hN, hR⟩ ⟨rfl, rfl, rfl, trivial⟩ rfl rfl rfl rfl rfl) ?_
  clear H
  rintro ⟨s', b', n', rest⟩ a w ⟨hb', hn', hr', f, hf, hfe⟩ H
  dsimp only at hb' hn' hr' hf hfe
  refine mW ?_; clear H; intro a w H
  refine mC H (fun hb => ?_) (fun hb => ?_)
  · have h0 : 0 < rest.length := by simpa using hb
    refine mW ?_; clear H; intro a w H
    refine mS ?_; refine mD 0 [9] [] H ?_; clear H; intro gS H; refine mT ?_; clear H; intro a w H
    refine v_drawNil H ?_; clear H; intro H
    obtain ⟨k, hk⟩ : ∃ k, k = (rest.take (64 - n')).length := ⟨_, rfl⟩
    rw [← hk] at H
    rw [List.length_take] at hk
    have hk1 : n' + k ≤ 64 ∧ 0 < k ∧ k ≤ rest.length := by omega
    have hk2 : (rest.take (64 - n')).length = k := by rw [List.length_take]; omega
    have hlb : (b'.take n' ++ rest.take (64 - n') ++ b'.drop (n' + k)).length = 64 := by simp only [List.length_append, List.length_take, List.length_drop]; omega
    obtain ⟨f, rfl⟩ : ∃ g, f = g + 1 := ⟨f - 1, by omega⟩
    have hne : rest ≠ [] := fun e => by subst e; simp at h0
    rw [feed, if_neg hne] at hfe
    dsimp only at hfe
    rw [hk2] at hfe
    have hdl : (rest.drop k).length = rest.length - k := List.length_drop
    refine mW ?_; clear H; intro a w H
    refine mC H (fun hb => ?_) (fun hb => ?_)
    · have he : n' + k = 64 := by simp at hb; omega
      rw [if_pos he] at hfe
      refine mW ?_; clear H; intro a w H
      refine mS ?_; refine mD 0 [10, 13, 16] [0, 1] H ?_; clear H; intro gS H; refine mT ?_; clear H; intro a w H
      refine mCallT [] [] (step_v s' (b'.take n' ++ rest.take (64 - n') ++ b'.drop (n' + k)) hlb) H ?_; clear H; intro a w H
      refine mT ?_; clear H; intro a w H
      refine v_drawNil H ?_; clear H; intro H
      refine mW ?_; clear H; intro a w H
      exact ⟨(_, _, 0, rest.drop k), ⟨hlb, by show 0 < 64; decide, by dsimp only; omega, f, by dsimp only; omega, hfe⟩, by dsimp only; omega, H.to 1 0 ⟨hN, hR⟩ ⟨rfl, rfl, rfl, trivial⟩ rfl rfl rfl rfl rfl⟩
    · have he : ¬ n' + k = 64 := by simp at hb; omega
      rw [if_neg he] at hfe
      refine mW ?_; clear H; intro a w H
      exact ⟨(s', _, n' + k, rest.drop k), ⟨hlb, by dsimp only; omega, by dsimp only; omega, f, by dsimp only; omega, hfe⟩, by dsimp only; omega, H.to 1 0 ⟨hN, hR⟩ ⟨rfl, rfl, rfl, trivial⟩ rfl rfl rfl rfl rfl⟩
  · have h0 : rest = [] := by simp at hb; exact hb
    subst h0
    have hfe2 : feed l.length s b n l = (s', b', n') := by
      rw [← hfe]; cases f with
      | zero => rfl
      | succ f => rw [feed, if_pos rfl]
    rw [hfe2]
    refine mW ?_; clear H; intro a w H
    refine wp_ret ?_; exact mEnd [0] [] [.tmp 4] [_] hN hR H
end Go.Proofs.Ythphhnkoilcofaa
/- Numbers as bytes. -/
namespace Go.Proofs.Ythphhnkoilcofaa
open Go Go.RowKit
def be4n (x : Nat) : List UInt8 := [UInt8.ofNat (x / 16777216), UInt8.ofNat (x / 65536), UInt8.ofNat (x / 256), UInt8.ofNat x]
set_option maxRecDepth 20000 in
theorem put32_v (x : Nat) (hx : x < 4294967296) : VC Try.prog 164 [.v (.int .i64 (x : Int))] [(5, 4)] (.tup [.bs (be4n x) (some 0), .v (.int .i64 0)]) := by
  refine v_enter Try.func164 rfl (by kernel_rfl) (by show 1 ≤ 22; decide) ?_
  intro N w0 a w hN hR H
  refine mW ?_; clear H; intro a w H
  refine mC H (fun hb => ?_) (fun hb => ?_)
  · simp at hb; omega
  refine mW ?_; clear H; intro a w H
  have e1 := u8n x 16777216; have e2 := u8n x 65536; have e3 := u8n x 256; have e4 := u8m x
  simp only [Int.cast_ofNat_Int] at e1 e2 e3
  rw [e1, e2, e3, e4] at H
  refine wp_ret ?_; exact mEnd [] [0] [.tmp 2, .tmp 3] [_, _] hN hR H

theorem be4n_len (x : Nat) : (be4n x).length = 4 := rfl
/-- The state after a text. -/
structure Good (l : List UInt8) (s : S8) (b : List UInt8) (n : Nat) : Prop where
  bl : b.length = 64
  nn : n = l.length % 64
  ss : s = steps h0 (l.length / 64) l
  bb : b.take n = l.drop (64 * (l.length / 64))
theorem Good.lt {l : List UInt8} {s : S8} {b : List UInt8} {n : Nat} (h : Good l s b n) : n < 64 := by rw [h.nn]; exact Nat.mod_lt _ (by decide)
theorem good_nil : Good [] h0 (List.replicate 64 0) 0 := ⟨by simp, rfl, by simp [steps_zero], rfl⟩
theorem feed_good : ∀ (f : Nat) (m l : List UInt8) (s : S8) (b : List UInt8) (n : Nat), m.length ≤ f → Good l s b n → Good (l ++ m) (feed f s b n m).1 (feed f s b n m).2.1 (feed f s b n m).2.2
  | 0, m, l, s, b, n, hm, h => by
    have : m = [] := List.length_eq_zero_iff.1 (by omega)
    subst this; simpa [feed] using h
  | f + 1, m, l, s, b, n, hm, h => by
    have hlt := h.lt
    by_cases hz : m = []
    · subst hz; rw [feed, if_pos rfl]; simpa using h
    · have hm0 : 0 < m.length := List.length_pos_iff.2 hz
      rw [feed, if_neg hz]
      dsimp only
      obtain ⟨k, hk⟩ : ∃ k, k = (m.take (64 - n)).length := ⟨_, rfl⟩
      rw [← hk]
      rw [List.length_take] at hk
      have hkm : m.take (64 - n) = m.take k := by
        rw [hk]
        rcases Nat.le_total (64 - n) m.length with h1 | h1
        · rw [Nat.min_eq_left h1]
        · rw [Nat.min_eq_right h1, List.take_length, List.take_of_length_le h1]
      rw [hkm]
      have hbl := h.bl
      have hlb : (b.take n ++ m.take k ++ b.drop (n + k)).length = 64 := by simp only [List.length_append, List.length_take, List.length_drop]; omega
      have hdl : (m.drop k).length ≤ f := by rw [List.length_drop]; omega
      have hn := h.nn
      have hll : (l ++ m.take k).length = l.length + k := by rw [List.length_append, List.length_take]; omega
      have hsplit : l ++ m = (l ++ m.take k) ++ m.drop k := by rw [List.append_assoc, List.take_append_drop]
      have htk : (b.take n ++ m.take k ++ b.drop (n + k)).take (n + k) = b.take n ++ m.take k := by
        rw [List.take_append_of_le_length (by simp only [List.length_append, List.length_take]; omega), List.take_of_length_le (by simp only [List.length_append, List.length_take]; omega)]
      have hdr : (l ++ m.take k).drop (64 * (l.length / 64)) = b.take n ++ m.take k := by
        rw [List.drop_append_of_le_length (by omega), h.bb]
      by_cases he : n + k = 64
      · rw [if_pos he, hsplit]
        refine feed_good f (m.drop k) (l ++ m.take k) _ _ 0 hdl ⟨hlb, by rw [hll]; omega, ?_, ?_⟩
        · have hq : (l ++ m.take k).length / 64 = l.length / 64 + 1 := by rw [hll]; omega
          have e1 : (b.take n ++ m.take k).take 64 = b.take n ++ m.take k := List.take_of_length_le (by simp only [List.length_append, List.length_take]; omega)
          rw [hq, steps_next, steps_append _ _ _ _ (by omega), ← h.ss, hdr, e1, he, List.drop_of_length_le (by omega), List.append_nil]
        · have : 64 * ((l ++ m.take k).length / 64) = (l ++ m.take k).length := by rw [hll]; omega
          rw [this, List.drop_length]; rfl
      · rw [if_neg he, hsplit]
        have hnk : n + k < 64 := by omega
        have hq : (l ++ m.take k).length / 64 = l.length / 64 := by rw [hll]; omega
        refine feed_good f (m.drop k) (l ++ m.take k) _ _ (n + k) hdl ⟨hlb, by rw [hll]; omega, ?_, ?_⟩
        · rw [hq, steps_append _ _ _ _ (by omega)]; exact h.ss
        · rw [hq, htk, hdr]
/-- A write, by texts. -/
theorem write_g (l m : List UInt8) (s : S8) (b : List UInt8) (n : Nat) (h : Good l s b n) (hl : m.length ≤ 34359738368) (all : Nat) (ha : all ≤ 34359738368) :
    ∃ s' b' n', Good (l ++ m) s' b' n' ∧ VX Try.prog 126 [(ti248.ty, shv s b n all)] [] [] [.ptr 0 [], .bs m none]
      [(ti248.ty, shv s' b' n' (all + m.length))] [] [] (.v (.int .i64 (m.length : Int))) :=
  ⟨_, _, _, feed_good m.length m l s b n (Nat.le_refl _) h, write_v s b n all m h.bl h.lt hl ha⟩
end Go.Proofs.Ythphhnkoilcofaa
/- The program's SHA-256 of a text. -/
namespace Go.Proofs.Ythphhnkoilcofaa
open Go Go.RowKit
def outK (s : S8) : Nat → List UInt8
  | 0 => List.replicate 32 0
  | k + 1 => (outK s k).take (4 * k) ++ (be4n (s.l.getD k 0).toNat).take (32 - 4 * k) ++ (outK s k).drop (4 * k + ((be4n (s.l.getD k 0).toNat).take (32 - 4 * k)).length)
theorem outK_end (s : S8) : outK s 8 = out s := by
  simp [outK, be4n, out, be4, S8.l, List.replicate]
theorem n32lt (y : BitVec 32) : y.toNat < 4294967296 := y.isLt
theorem be8 (v : Nat) (hv : v < 18446744073709551616) : be v 8 = be4n (v / 4294967296) ++ be4n (v % 4294967296) := by
  simp only [be, be4n, List.cons_append, List.nil_append]
  have h1 : ∀ a b : Nat, a % 256 = b % 256 → UInt8.ofNat a = UInt8.ofNat b := fun a b h => UInt8.toNat_inj.1 (by simpa using h)
  have e7 : UInt8.ofNat (v / 256 ^ 7) = UInt8.ofNat (v / 4294967296 / 16777216) := h1 _ _ (by first | rfl | (simp only [Nat.reducePow]; omega))
  have e6 : UInt8.ofNat (v / 256 ^ 6) = UInt8.ofNat (v / 4294967296 / 65536) := h1 _ _ (by first | rfl | (simp only [Nat.reducePow]; omega))
  have e5 : UInt8.ofNat (v / 256 ^ 5) = UInt8.ofNat (v / 4294967296 / 256) := h1 _ _ (by first | rfl | (simp only [Nat.reducePow]; omega))
  have e4 : UInt8.ofNat (v / 256 ^ 4) = UInt8.ofNat (v / 4294967296) := h1 _ _ (by first | rfl | (simp only [Nat.reducePow]; omega))
  have e3 : UInt8.ofNat (v / 256 ^ 3) = UInt8.ofNat (v % 4294967296 / 16777216) := h1 _ _ (by first | rfl | (simp only [Nat.reducePow]; omega))
  have e2 : UInt8.ofNat (v / 256 ^ 2) = UInt8.ofNat (v % 4294967296 / 65536) := h1 _ _ (by first | rfl | (simp only [Nat.reducePow]; omega))
  have e1 : UInt8.ofNat (v / 256 ^ 1) = UInt8.ofNat (v % 4294967296 / 256) := h1 _ _ (by first | rfl | (simp only [Nat.reducePow]; omega))
  have e0 : UInt8.ofNat (v / 256 ^ 0) = UInt8.ofNat (v % 4294967296) := h1 _ _ (by first | rfl | (simp only [Nat.reducePow]; omega))
  rw [e7, e6, e5, e4, e3, e2, e1, e0]
set_option maxRecDepth 20000 in
theorem sumS_v (l : List UInt8) (s : S8) (b : List UInt8) (n : Nat) (h : Good l s b n) (hl : l.length ≤ 34359738000) :
    VX Try.prog 127 [(ti248.ty, shv s b n l.length)] [] [] [.ptr 0 []] [(ti248.ty, shv s b n l.length)] [] [] (.ba (sum l)) := by
  have hbl := h.bl
  refine v_enter Try.func127 rfl (by kernel_rfl) (by show 1 ≤ 68; decide) ?_
  intro N w0 a w hN hR H
  have hX := And.intro @ren_s8v (And.intro @ren_shv (@shv.eq_1))
  have hY := And.intro @s8v.eq_1 (And.intro @shv.eq_1 (And.intro @W32.eq_1 (@h0.eq_1)))
  refine mW ?_; clear H; intro a w H
  refine mCall [0] [] (none_v s b n l.length) H ?_; clear H; intro a w H; try refine wpList_nil ?_
  refine mC H (fun hb => ?_) (fun hb => ?_)
  · cases hb
  refine mW ?_; clear H; intro a w H
  obtain ⟨s1, b1, n1, h1, hw1⟩ := write_g l [128] s b n h (by decide) l.length (by omega)
  refine mCall [2] [] (hw1) H ?_; clear H; intro a w H; try refine wpList_nil ?_
  refine mW ?_; clear H; intro a w H
  have e4 : (l.length : Int) * 8 % 18446744073709551616 = ((l.length * 8 : Nat) : Int) := by omega
  rw [e4] at H
  refine v_loop (fun i : S8 × List UInt8 × Nat × Nat => ⟨[(0, none, .ptr 0 []), (2, none, .ptr 1 []), (3, none, .ptr 2 []), (4, none, .v (.int .u64 ((l.length * 8 : Nat) : Int)))], [(ti248.ty, .st [.v (.bool true), s8v s, .ba b, .v (.int .i64 (n : Int)), .v (.int .i64 (l.length : Int))]), (.ba 32, .ba (List.replicate 32 0)), (ti248.ty, .st [.v (.bool true), s8v i.1, .ba i.2.1, .v (.int .i64 (i.2.2.1 : Int)), .v (.int .i64 ((l.length + 1 + i.2.2.2 : Nat) : Int))])], [], []⟩)
    (fun i => Good (l ++ [128] ++ List.replicate i.2.2.2 0) i.1 i.2.1 i.2.2.1 ∧ i.2.2.2 ≤ padN l.length) (fun i => padN l.length - i.2.2.2) (s1, b1, n1, 0) ⟨by simpa using h1, Nat.zero_le _⟩
    (H.to 3 0 ⟨Nat.le_trans hN (by show 1 ≤ 3; decide), hR⟩ ⟨rfl, rfl, rfl, rfl, trivial⟩ rfl rfl rfl rfl rfl) ?_
  clear H
  rintro ⟨s2, b2, n2, z⟩ a w ⟨h2, hz⟩ H
  dsimp only at h2 hz
  have hn2 := h2.nn
  have hlen2 : (l ++ [128] ++ List.replicate z 0).length = l.length + 1 + z := by simp; omega
  rw [hlen2] at hn2
  have hpd : padN l.length < 64 ∧ (l.length + 1 + padN l.length) % 64 = 56 := by unfold padN; omega
  have hbl2 := h2.bl
  refine mW ?_; clear H; intro a w H
  refine mC H (fun hb => ?_) (fun hb => ?_)
  · have hne : n2 ≠ 56 := fun e => by simp [e] at hb
    have hz1 : z + 1 ≤ padN l.length := by
      rcases Nat.lt_or_ge z (padN l.length) with h5 | h5
      · omega
      · have : z = padN l.length := by omega
        subst this; omega
    obtain ⟨s3, b3, n3, h3, hw3⟩ := write_g _ [0] s2 b2 n2 h2 (by decide) (l.length + 1 + z) (by omega)
    refine mW ?_; clear H; intro a w H
    refine mCall [2] [] (hw3) H ?_; clear H; intro a w H; try refine wpList_nil ?_
    refine mW ?_; clear H; intro a w H
    exact ⟨(s3, b3, n3, z + 1), ⟨by rw [List.append_assoc] at h3; simpa [← List.replicate_succ'] using h3, hz1⟩, by dsimp only; omega, H.to 3 0 ⟨Nat.le_trans hN (by show 1 ≤ 3; decide), hR⟩ ⟨rfl, rfl, rfl, rfl, trivial⟩ rfl rfl rfl rfl rfl⟩
  · have he : n2 = 56 := by simp at hb; omega
    have hz1 : z = padN l.length := by omega
    subst hz1
    subst he
    refine mW ?_; clear H; intro a w H
    have e5 : ((l.length * 8 : Nat) : Int) / 4294967296 = ((l.length * 8 / 4294967296 : Nat) : Int) := by omega
    rw [e5] at H
    have hand : bits .and .u64 ((l.length * 8 : Nat) : Int) 4294967295 = ((l.length * 8 % 4294967296 : Nat) : Int) := by
      have h5 := u64_and_nat (l.length * 8) 4294967295 (by omega) (by decide)
      rw [show (4294967295 : Nat) = 2 ^ 32 - 1 from rfl, Nat.and_two_pow_sub_one_eq_mod] at h5
      exact h5
    clear hX; have hX := And.intro @ren_s8v (And.intro @ren_shv (And.intro @shv.eq_1 (@hand)))
    clear hY; have hY := And.intro @s8v.eq_1 (And.intro @shv.eq_1 (And.intro @W32.eq_1 (And.intro @h0.eq_1 (@hand))))
    refine mCall [] [] (put32_v (l.length * 8 / 4294967296) (by omega)) H ?_; clear H; intro a w H; try refine wpList_nil ?_
    refine mW ?_; clear H; intro a w H
    refine mCall [] [] (put32_v (l.length * 8 % 4294967296) (by omega)) H ?_; clear H; intro a w H; try refine wpList_nil ?_
    refine mW ?_; clear H; intro a w H
    obtain ⟨s3, b3, n3, h3, hw3⟩ := write_g _ (be4n (l.length * 8 / 4294967296)) s2 b2 56 h2 (by rw [be4n_len]; decide) (l.length + 1 + padN l.length) (by omega)
    refine mCall [2] [] (hw3) H ?_; clear H; intro a w H; try refine wpList_nil ?_
    refine mW ?_; clear H; intro a w H
    obtain ⟨s4, b4, n4, h4, hw4⟩ := write_g _ (be4n (l.length * 8 % 4294967296)) s3 b3 n3 h3 (by rw [be4n_len]; decide) (l.length + 1 + padN l.length + 4) (by omega)
    clear hX; have hX := And.intro @ren_s8v (And.intro @ren_shv (And.intro @shv.eq_1 (And.intro @hand (@be4n_len))))
    refine mCall [2] [] (hw4) H ?_; clear H; intro a w H; try refine wpList_nil ?_
    refine mW ?_; clear H; intro a w H
    have hpad : l ++ [128] ++ List.replicate (padN l.length) 0 ++ be4n (l.length * 8 / 4294967296) ++ be4n (l.length * 8 % 4294967296) = pad l := by
      rw [pad_def, be8 _ (by omega), List.append_assoc _ (be4n _)]
    rw [hpad] at h4
    have hout : out s4 = sum l := by rw [sum_def, ← h4.ss]
    refine v_loop (fun k : Nat => ⟨[(2, none, .ptr 1 []), (9, none, .ptr 3 []), (50, none, s8v s4), (51, none, .v (.int .i64 (k : Int)))], [(ti248.ty, .st [.v (.bool true), s8v s, .ba b, .v (.int .i64 (n : Int)), .v (.int .i64 (l.length : Int))]), (.ba 32, .ba (List.replicate 32 0)), (ti248.ty, .st [.v (.bool true), s8v s4, .ba b4, .v (.int .i64 (n4 : Int)), .v (.int .i64 ((l.length + 1 + padN l.length + 4 + 4 : Nat) : Int))]), (.ba 32, .ba (outK s4 k))], [], []⟩)
      (fun k => k ≤ 8) (fun k => 8 - k) 0 (by decide) (H.to 4 0 ⟨Nat.le_trans hN (by show 1 ≤ 4; decide), hR⟩ ⟨rfl, rfl, rfl, rfl, trivial⟩ rfl rfl rfl rfl rfl) ?_
    clear H
    intro k a w hk H
    have hN0 := hN
    replace hN : N.bx.length ≤ 100 := Nat.le_trans hN (by show 1 ≤ 100; decide)
    refine mW ?_; clear H; intro a w H
    refine mC H (fun hb => ?_) (fun hb => ?_)
    · have hk8 : k < 8 := by simp at hb; omega
      have hs8 : k = 0 ∨ k = 1 ∨ k = 2 ∨ k = 3 ∨ k = 4 ∨ k = 5 ∨ k = 6 ∨ k = 7 := by omega
      have hol : ∀ k, k ≤ 8 → (outK s4 k).length = 32 := fun k hk => by
        induction k with
        | zero => simp [outK]
        | succ k ih => have := ih (by omega); simp only [outK, List.length_append, List.length_take, List.length_drop, be4n_len]; omega
      have q0 := n32_lo s4.a; have q1 := n32_lo s4.b; have q2 := n32_lo s4.c; have q3 := n32_lo s4.d; have q4 := n32_lo s4.e; have q5 := n32_lo s4.f; have q6 := n32_lo s4.g; have q7 := n32_lo s4.h
      have r0 := n32_hi s4.a; have r1 := n32_hi s4.b; have r2 := n32_hi s4.c; have r3 := n32_hi s4.d; have r4 := n32_hi s4.e; have r5 := n32_hi s4.f; have r6 := n32_hi s4.g; have r7 := n32_hi s4.h
      have o0 := hol 0 (by decide); have o1 := hol 1 (by decide); have o2 := hol 2 (by decide); have o3 := hol 3 (by decide); have o4 := hol 4 (by decide); have o5 := hol 5 (by decide); have o6 := hol 6 (by decide); have o7 := hol 7 (by decide)
      rcases hs8 with rfl | rfl | rfl | rfl | rfl | rfl | rfl | rfl
      all_goals
        refine mW ?_; clear H; intro a w H
        refine mCall [] [] (put32_v _ (n32lt _)) H ?_; clear H; intro a w H; try refine wpList_nil ?_
        refine mW ?_; clear H; intro a w H
        refine ⟨_ + 1, by decide, ?_, H.to 4 0 ⟨Nat.le_trans hN0 (by show 1 ≤ 4; decide), hR⟩ ⟨rfl, rfl, rfl, rfl, trivial⟩ rfl rfl rfl rfl rfl⟩
        decide
    · have he8 : k = 8 := by simp at hb; omega
      subst he8
      rw [outK_end, hout] at H
      have hsl := sum_length l
      refine mW ?_; clear H; intro a w H
      replace hN := hN0
      refine wp_ret ?_; exact mEnd [0] [] [.cell 2 27] [_] hN hR H
end Go.Proofs.Ythphhnkoilcofaa
/- Digests: SHA-256 of a text; of a byte and parts. -/
namespace Go.Proofs.Ythphhnkoilcofaa
open Go Go.RowKit
set_option maxRecDepth 20000 in
theorem sum_v (l : List UInt8) (hl : l.length ≤ 34359738000) : VC Try.prog 119 [.bs l none] [] (.ba (sum l)) := by
  have hsl := sum_length l
  refine v_enter Try.func119 rfl (by kernel_rfl) (by show 1 ≤ 10; decide) ?_
  intro N w0 a w hN hR H
  have hX := And.intro @ren_s8v (@ren_shv)
  have hY := And.intro @s8v.eq_1 (And.intro @shv.eq_1 (And.intro @W32.eq_1 (@h0.eq_1)))
  refine mW ?_; clear H; intro a w H
  refine mCall [] [] (new_v) H ?_; clear H; intro a w H; try refine wpList_nil ?_
  refine mW ?_; clear H; intro a w H
  obtain ⟨s1, b1, n1, h1, hw1⟩ := write_g [] l h0 (List.replicate 64 0) 0 good_nil (by omega) 0 (by decide)
  refine mCall [1] [] (hw1) H ?_; clear H; intro a w H; try refine wpList_nil ?_
  refine mW ?_; clear H; intro a w H
  rw [List.nil_append] at h1
  refine mCall [1] [] (sumS_v l s1 b1 n1 h1 hl) H ?_; clear H; intro a w H; try refine wpList_nil ?_
  refine mW ?_; clear H; intro a w H
  refine wp_ret ?_; exact mEnd [] [] [.cell 2 27] [_] hN hR H
end Go.Proofs.Ythphhnkoilcofaa
/- Nodes of the program: checked, written, read; digests. -/
namespace Go.Proofs.Ythphhnkoilcofaa
open Go Go.RowKit
structure Nd where
  k : UInt8
  key : List UInt8
  v : List UInt8
  l : List UInt8
  r : List UInt8
  deriving DecidableEq
def z32 : List UInt8 := List.replicate 32 0
theorem hz : List.replicate 32 (0 : UInt8) = z32 := rfl
structure Nd.wf (n : Nd) : Prop where
  key : n.key.length = 32
  v : n.v.length = 32
  l : n.l.length = 32
  r : n.r.length = 32
def Nd.av (n : Nd) : AV := .st [.v (B8 n.k), .ba n.key, .ba n.v, .ba n.l, .ba n.r]
def Nd.zero : Nd := ⟨0, z32, z32, z32, z32⟩
/-- What a node is but for what its kind does not bear. -/
def Nd.bare (n : Nd) : Nd := if n.k = 1 then ⟨1, n.key, n.v, z32, z32⟩ else if n.k = 2 then ⟨2, z32, z32, n.l, n.r⟩ else .zero
def Nd.ok (n : Nd) : Prop := n = n.bare
instance (n : Nd) : Decidable n.ok := inferInstanceAs (Decidable (n = n.bare))
def Nd.text (n : Nd) : List UInt8 := if n.k = 1 then 1 :: (n.key ++ n.v) else if n.k = 2 then 2 :: (n.l ++ n.r) else [0]
abbrev errv (n : Int) : AV := .v (.int .i64 n)
theorem check_v (n : Nd) (hw : n.wf) : VC Try.prog 147 [n.av] [] (errv (if n.ok then 0 else 2)) := by
  obtain ⟨k, key, v, l, r⟩ := n
  obtain ⟨h1, h2, h3, h4⟩ := hw
  dsimp only at h1 h2 h3 h4
  refine mE Try.func147 ?_; intro N w0 a w hN hR H
  simp only [Nd.av] at H
  have hk0 : ((k.toNat : Int) = 0) ↔ k = 0 := ⟨fun h => UInt8.toNat_inj.1 (by simpa using h), fun h => by subst h; rfl⟩
  have hk1 : ((k.toNat : Int) = 1) ↔ k = 1 := ⟨fun h => UInt8.toNat_inj.1 (by simp; omega), fun h => by subst h; rfl⟩
  have hk2 : ((k.toNat : Int) = 2) ↔ k = 2 := ⟨fun h => UInt8.toNat_inj.1 (by simp; omega), fun h => by subst h; rfl⟩
  refine mW ?_; clear H; intro a w H
  refine mC H (fun hb => ?_) (fun hb => ?_)
  · refine mW ?_; clear H; intro a w H
    refine mC H (fun hb => ?_) (fun hb => ?_)
    · have hok : ¬ Nd.ok ⟨k, key, v, l, r⟩ := by clear H; simp only [Bool.not_eq_true', Bool.not_eq_false', Bool.and_eq_true, Bool.and_eq_false_imp, decide_eq_true_eq, decide_eq_false_iff_not] at hb; simp only [hz] at hb; simp_all [Nd.ok, Nd.bare, Nd.zero]
      rw [if_neg hok]
      refine mW ?_; clear H; intro a w H
      refine wp_ret ?_; exact mEnd [] [] [.tmp 2] [_] hN hR H
    · have hok : Nd.ok ⟨k, key, v, l, r⟩ := by clear H; simp only [Bool.not_eq_true', Bool.not_eq_false', Bool.and_eq_true, Bool.and_eq_false_imp, decide_eq_true_eq, decide_eq_false_iff_not] at hb; simp only [hz] at hb; simp_all [Nd.ok, Nd.bare, Nd.zero]
      rw [if_pos hok]
      refine mW ?_; clear H; intro a w H
      refine wp_ret ?_; exact mEnd [] [] [.tmp 2] [_] hN hR H
  · refine mW ?_; clear H; intro a w H
    refine mC H (fun hb => ?_) (fun hb => ?_)
    · refine mW ?_; clear H; intro a w H
      refine mC H (fun hb => ?_) (fun hb => ?_)
      · have hok : ¬ Nd.ok ⟨k, key, v, l, r⟩ := by clear H; simp only [Bool.not_eq_true', Bool.not_eq_false', Bool.and_eq_true, Bool.and_eq_false_imp, decide_eq_true_eq, decide_eq_false_iff_not] at hb; simp only [hz] at hb; simp_all [Nd.ok, Nd.bare, Nd.zero]
        rw [if_neg hok]
        refine mW ?_; clear H; intro a w H
        refine wp_ret ?_; exact mEnd [] [] [.tmp 2] [_] hN hR H
      · have hok : Nd.ok ⟨k, key, v, l, r⟩ := by clear H; simp only [Bool.not_eq_true', Bool.not_eq_false', Bool.and_eq_true, Bool.and_eq_false_imp, decide_eq_true_eq, decide_eq_false_iff_not] at hb; simp only [hz] at hb; simp_all [Nd.ok, Nd.bare, Nd.zero]
        rw [if_pos hok]
        refine mW ?_; clear H; intro a w H
        refine wp_ret ?_; exact mEnd [] [] [.tmp 2] [_] hN hR H
    · refine mW ?_; clear H; intro a w H
      refine mC H (fun hb => ?_) (fun hb => ?_)
      · refine mW ?_; clear H; intro a w H
        refine mC H (fun hb => ?_) (fun hb => ?_)
        · have hok : ¬ Nd.ok ⟨k, key, v, l, r⟩ := by clear H; simp only [Bool.not_eq_true', Bool.not_eq_false', Bool.and_eq_true, Bool.and_eq_false_imp, decide_eq_true_eq, decide_eq_false_iff_not] at hb; simp only [hz] at hb; simp_all [Nd.ok, Nd.bare, Nd.zero]
          rw [if_neg hok]
          refine mW ?_; clear H; intro a w H
          refine wp_ret ?_; exact mEnd [] [] [.tmp 2] [_] hN hR H
        · have hok : Nd.ok ⟨k, key, v, l, r⟩ := by clear H; simp only [Bool.not_eq_true', Bool.not_eq_false', Bool.and_eq_true, Bool.and_eq_false_imp, decide_eq_true_eq, decide_eq_false_iff_not] at hb; simp only [hz] at hb; simp_all [Nd.ok, Nd.bare, Nd.zero]
          rw [if_pos hok]
          refine mW ?_; clear H; intro a w H
          refine wp_ret ?_; exact mEnd [] [] [.tmp 2] [_] hN hR H
      · refine mW ?_; clear H; intro a w H
        refine mC H (fun hb => ?_) (fun hb => ?_)
        · have hok : ¬ Nd.ok ⟨k, key, v, l, r⟩ := by clear H; simp only [Bool.not_eq_true', Bool.not_eq_false', Bool.and_eq_true, Bool.and_eq_false_imp, decide_eq_true_eq, decide_eq_false_iff_not] at hb; simp only [hz] at hb; simp_all [Nd.ok, Nd.bare, Nd.zero]
          rw [if_neg hok]
          refine mW ?_; clear H; intro a w H
          refine wp_ret ?_; exact mEnd [] [] [.tmp 2] [_] hN hR H
        · have hok : Nd.ok ⟨k, key, v, l, r⟩ := by clear H; simp only [Bool.not_eq_true', Bool.not_eq_false', Bool.and_eq_true, Bool.and_eq_false_imp, decide_eq_true_eq, decide_eq_false_iff_not] at hb; simp only [hz] at hb; simp_all [Nd.ok, Nd.bare, Nd.zero]
          rw [if_pos hok]
          refine mW ?_; clear H; intro a w H
          refine wp_ret ?_; exact mEnd [] [] [.tmp 2] [_] hN hR H
theorem encode_ok (n : Nd) (hw : n.wf) (h : n.ok) : VC Try.prog 117 [n.av] [(5, n.text.length)] (.tup [.bs n.text (some 0), errv 0]) := by
  have hck := check_v n hw
  rw [if_pos h] at hck
  obtain ⟨k, key, v, l, r⟩ := n
  obtain ⟨h1, h2, h3, h4⟩ := hw
  dsimp only at h1 h2 h3 h4
  refine mE Try.func117 ?_; intro N w0 a w hN hR H
  have hk1 : ((k.toNat : Int) = 1) ↔ k = 1 := ⟨fun h => UInt8.toNat_inj.1 (by simp; omega), fun h => by subst h; rfl⟩
  have hk2 : ((k.toNat : Int) = 2) ↔ k = 2 := ⟨fun h => UInt8.toNat_inj.1 (by simp; omega), fun h => by subst h; rfl⟩
  simp only [Nd.av] at H hck
  refine mW ?_; clear H; intro a w H
  refine mCall [] [] (hck) H ?_; clear H; intro a w H; try refine wpList_nil ?_
  refine mW ?_; clear H; intro a w H
  refine mC H (fun hb => ?_) (fun hb => ?_)
  · simp at hb
  · refine mW ?_; clear H; intro a w H
    refine mC H (fun hb => ?_) (fun hb => ?_)
    · have hk : k = 1 := hk1.1 (by simpa using hb)
      subst hk
      refine mW ?_; clear H; intro a w H
      refine mCall [] [] (leafText_v key v h1 h2) H ?_; clear H; intro a w H; try refine wpList_nil ?_
      refine mW ?_; clear H; intro a w H
      have hX := @Nd.text.eq_1
      refine wp_ret ?_; exact mEnd [] [0] [.tmp 2, .tmp 3] [_, _] hN hR H
    · have hX := @Nd.text.eq_1
      refine mW ?_; clear H; intro a w H
      refine mC H (fun hb => ?_) (fun hb => ?_)
      · have hk : k = 2 := hk2.1 (by simpa using hb)
        subst hk
        refine mW ?_; clear H; intro a w H
        refine mCall [] [] (innerText_v l r h3 h4) H ?_; clear H; intro a w H; try refine wpList_nil ?_
        refine mW ?_; clear H; intro a w H
        refine wp_ret ?_; exact mEnd [] [0] [.tmp 2, .tmp 3] [_, _] hN hR H
      · have hk : k = 0 := by
          simp only [Nd.ok, Nd.bare, Nd.zero] at h
          simp_all
        subst hk
        refine mW ?_; clear H; intro a w H
        refine mCall [] [] (emptyText_v) H ?_; clear H; intro a w H; try refine wpList_nil ?_
        refine mW ?_; clear H; intro a w H
        refine wp_ret ?_; exact mEnd [] [0] [.tmp 2, .tmp 3] [_, _] hN hR H
theorem encode_bad (n : Nd) (hw : n.wf) (h : ¬ n.ok) : VC Try.prog 117 [n.av] [] (.tup [.bs [] none, errv 2]) := by
  have hck := check_v n hw
  rw [if_neg h] at hck
  obtain ⟨h1, h2, h3, h4⟩ := id hw
  refine mE Try.func117 ?_; intro N w0 a w hN hR H
  simp only [Nd.av] at H hck
  refine mW ?_; clear H; intro a w H
  refine mCall [] [] (hck) H ?_; clear H; intro a w H; try refine wpList_nil ?_
  refine mW ?_; clear H; intro a w H
  refine mC H (fun hb => ?_) (fun hb => ?_)
  · refine mW ?_; clear H; intro a w H
    refine wp_ret ?_; exact mEnd [] [] [.tmp 2, .tmp 3] [_, _] hN hR H
  · simp at hb
theorem digest_ok (n : Nd) (hw : n.wf) (h : n.ok) : VC Try.prog 75 [n.av] [] (.tup [.ba (sum n.text), errv 0]) := by
  have hck := encode_ok n hw h
  obtain ⟨h1, h2, h3, h4⟩ := id hw
  have hsl := sum_length n.text
  refine mE Try.func75 ?_; intro N w0 a w hN hR H
  simp only [Nd.av] at H hck
  refine mW ?_; clear H; intro a w H
  refine mCall [] [] (hck) H ?_; clear H; intro a w H; try refine wpList_nil ?_
  refine mW ?_; clear H; intro a w H
  refine mC H (fun hb => ?_) (fun hb => ?_)
  · simp at hb
  · refine mW ?_; clear H; intro a w H
    have hl : n.text.length ≤ 34359738000 := by
      unfold Nd.text
      obtain ⟨k, key, v, l, r⟩ := n
      obtain ⟨h1, h2, h3, h4⟩ := hw
      dsimp only at h1 h2 h3 h4 ⊢
      split
      · simp; omega
      · split
        · simp; omega
        · simp
    refine mCall [] [] (sum_v n.text hl) H ?_; clear H; intro a w H; try refine wpList_nil ?_
    refine mW ?_; clear H; intro a w H
    refine wp_ret ?_; exact mEnd [] [] [.cell 2 27, .tmp 3] [_, _] hN hR H
theorem digest_bad (n : Nd) (hw : n.wf) (h : ¬ n.ok) : VC Try.prog 75 [n.av] [] (.tup [.ba z32, errv 2]) := by
  have hck := encode_bad n hw h
  obtain ⟨h1, h2, h3, h4⟩ := id hw
  refine mE Try.func75 ?_; intro N w0 a w hN hR H
  simp only [Nd.av] at H hck
  refine mW ?_; clear H; intro a w H
  refine mCall [] [] (hck) H ?_; clear H; intro a w H; try refine wpList_nil ?_
  refine mW ?_; clear H; intro a w H
  refine mC H (fun hb => ?_) (fun hb => ?_)
  · refine mW ?_; clear H; intro a w H
    refine wp_ret ?_; exact mEnd [] [] [.cell 2 27, .tmp 3] [_, _] hN hR H
  · simp at hb
end Go.Proofs.Ythphhnkoilcofaa
/- octet.Compare: byte by byte. -/
namespace Go.Proofs.Ythphhnkoilcofaa
open Go Go.RowKit
set_option maxHeartbeats 1000000 in
set_option maxRecDepth 100000 in
theorem cmp_any (a b : ByteArray) (w : World) : Calls Try.prog 160 #[.string a, .string b] w fun e w' => e = .returned (.int .i64 (Lib.compareBytes a.data.toList b.data.toList)) ∧ w' = w := by
  go_enter Try.func160, Try.ntmps160
  go_wp2
  rw [run_callFunc_extern Try.func193 (by kernel_rfl) (by kernel_rfl) (by kernel_rfl) (e := Extern.BytealgCompare.compare) (by kernel_rfl), Lib.run_compareString]
  simp only [Result.andThen]
  rw [Oper.upon_value]
  go_wp2
  go_ret
  exact ⟨rfl, rfl⟩
end Go.Proofs.Ythphhnkoilcofaa
/- The program's reader of bytes. -/
namespace Go.Proofs.Ythphhnkoilcofaa
open Go Go.RowKit
end Go.Proofs.Ythphhnkoilcofaa
/- octet.Compare, numbers as two bytes. -/
namespace Go.Proofs.Ythphhnkoilcofaa
open Go Go.RowKit
/-- A number, the highest byte first. -/
def num : Nat → List UInt8 → Nat
  | x, [] => x
  | x, b :: l => num (256 * x + b.toNat) l
end Go.Proofs.Ythphhnkoilcofaa
/- How many bits a byte has: math/bits. -/
namespace Go.Proofs.Ythphhnkoilcofaa
open Go Go.RowKit
end Go.Proofs.Ythphhnkoilcofaa
/- Bits in bytes, the highest first. -/
namespace Go.Proofs.Ythphhnkoilcofaa
open Go Go.RowKit
def b8 (f : Nat → Bool) : UInt8 := (if f 0 then 128 else 0) ||| (if f 1 then 64 else 0) ||| (if f 2 then 32 else 0) ||| (if f 3 then 16 else 0) ||| (if f 4 then 8 else 0) ||| (if f 5 then 4 else 0) ||| (if f 6 then 2 else 0) ||| (if f 7 then 1 else 0)
def bitsB (n : Nat) (f : Nat → Bool) : List UInt8 := (List.range ((n + 7) / 8)).map fun j => b8 fun k => f (8 * j + k)
theorem bitsB_len (n : Nat) (f : Nat → Bool) : (bitsB n f).length = (n + 7) / 8 := by simp [bitsB]
/-- A bit of a byte. -/
def bitAt (c : UInt8) (m : Nat) : Bool := (c &&& UInt8.ofNat (128 / 2 ^ m)) != 0
theorem pow128 (m : Nat) : 128 / 2 ^ m < 256 := Nat.lt_of_le_of_lt (Nat.div_le_self _ _) (by decide)
theorem and_bit (c : UInt8) (m : Nat) : (!decide (bits .and .u8 (c.toNat : Int) (128 / 2 ^ m) = 0)) = bitAt c m := by
  have e : (128 / 2 ^ m : Int) = ((128 / 2 ^ m : Nat) : Int) := by rw [Int.natCast_ediv, Int.natCast_pow]; rfl
  have h : bits .and .u8 (c.toNat : Int) (128 / 2 ^ m) = (((c &&& UInt8.ofNat (128 / 2 ^ m)).toNat : Nat) : Int) := by
    rw [e, u8_and_nat _ _ (UInt8.toNat_lt _) (pow128 _), UInt8.toNat_and, UInt8.toNat_ofNat', Nat.mod_eq_of_lt (pow128 _)]
  rw [h]
  unfold bitAt
  by_cases h0 : c &&& UInt8.ofNat (128 / 2 ^ m) = 0
  · simp [h0]
  · have h1 : (c &&& UInt8.ofNat (128 / 2 ^ m)).toNat ≠ 0 := fun e => h0 (UInt8.toNat_inj.1 (by simpa using e))
    have h2 : (((c &&& UInt8.ofNat (128 / 2 ^ m)).toNat : Nat) : Int) ≠ 0 := by omega
    rw [decide_eq_false h2]; simpa using h0
end Go.Proofs.Ythphhnkoilcofaa
/- Keys as ways down: bits, how many are shared, what rises. In plain Lean. -/
namespace Go.Proofs.Ythphhnkoilcofaa
open Go Go.RowKit
def bitN (p : List UInt8) (d : Nat) : Bool := bitAt (p.getD (d / 8) 0) (d % 8)
def pbit (p : List UInt8) (d : Int) : Int := if 0 ≤ d ∧ d < 256 then (if bitN p d.toNat then 1 else 0) else -1
def comF (p q : List UInt8) : Nat → Nat → Nat
  | 0, d => d
  | f + 1, d => if bitN p d = bitN q d then comF p q f (d + 1) else d
def com (p q : List UInt8) : Nat := comF p q 256 0
def agree (d : Nat) (p q : List UInt8) : Prop := ∀ t, t < d → bitN p t = bitN q t
theorem comF_spec (p q : List UInt8) : ∀ f d, d ≤ comF p q f d ∧ comF p q f d ≤ d + f ∧ (∀ t, d ≤ t → t < comF p q f d → bitN p t = bitN q t) ∧ (comF p q f d < d + f → bitN p (comF p q f d) ≠ bitN q (comF p q f d))
  | 0, d => ⟨Nat.le_refl _, Nat.le_refl _, fun t h1 h2 => by simp only [comF] at h2; omega, fun h => by simp only [comF] at h; omega⟩
  | f + 1, d => by
    have ih := comF_spec p q f (d + 1)
    simp only [comF]
    split
    · rename_i he
      obtain ⟨h1, h2, h3, h4⟩ := ih
      refine ⟨by omega, by omega, fun t ht hl => ?_, fun h => h4 (by omega)⟩
      by_cases htd : t = d
      · subst htd; exact he
      · exact h3 t (by omega) hl
    · rename_i he
      exact ⟨Nat.le_refl _, by omega, fun t h1 h2 => by omega, fun _ => he⟩
theorem com_agree (p q : List UInt8) : agree (com p q) p q := fun t ht => (comF_spec p q 256 0).2.2.1 t (Nat.zero_le _) ht
theorem com_ne (p q : List UInt8) (h : com p q < 256) : bitN p (com p q) ≠ bitN q (com p q) := (comF_spec p q 256 0).2.2.2 (by simpa [com] using h)
theorem com_ge {p q : List UInt8} {d : Nat} (hd : d ≤ 256) : d ≤ com p q ↔ agree d p q := by
  constructor
  · intro h t ht; exact com_agree p q t (by omega)
  · intro h
    rcases Nat.lt_or_ge (com p q) d with hl | hg
    · exact absurd (h _ hl) (com_ne p q (by omega))
    · exact hg
theorem agree_refl (d : Nat) (p : List UInt8) : agree d p p := fun _ _ => rfl
theorem agree.symm {d : Nat} {p q : List UInt8} (h : agree d p q) : agree d q p := fun t ht => (h t ht).symm
theorem agree.trans {d : Nat} {p q r : List UInt8} (h : agree d p q) (k : agree d q r) : agree d p r := fun t ht => (h t ht).trans (k t ht)
set_option maxRecDepth 100000 in
theorem bitAt_test8 : ∀ n : Fin 256, ∀ m : Fin 8, bitAt (UInt8.ofNat n.val) m.val = n.val.testBit (7 - m.val) := by decide +kernel
theorem bitAt_test (c : UInt8) (m : Nat) (hm : m < 8) : bitAt c m = c.toNat.testBit (7 - m) := by
  have := bitAt_test8 ⟨c.toNat, c.toNat_lt⟩ ⟨m, hm⟩
  simpa using this
set_option maxRecDepth 100000 in
theorem lead8 : ∀ n : Fin 256, n.val ≠ 0 → Lib.bitLen n.val ≤ 8 ∧ 8 - Lib.bitLen n.val < 8 ∧ (∀ t : Fin 8, t.val < 8 - Lib.bitLen n.val → bitAt (UInt8.ofNat n.val) t.val = false) ∧ bitAt (UInt8.ofNat n.val) (8 - Lib.bitLen n.val) = true := by decide +kernel
/-- The first bit in which two bytes part. -/
theorem lead_xor (x y : UInt8) (h : x ≠ y) : 8 - Lib.bitLen (x ^^^ y).toNat < 8 ∧ Lib.bitLen (x ^^^ y).toNat ≤ 8 ∧ (∀ t, t < 8 - Lib.bitLen (x ^^^ y).toNat → bitAt x t = bitAt y t) ∧ bitAt x (8 - Lib.bitLen (x ^^^ y).toNat) ≠ bitAt y (8 - Lib.bitLen (x ^^^ y).toNat) := by
  have hx : ∀ m, m < 8 → bitAt (x ^^^ y) m = (bitAt x m ^^ bitAt y m) := fun m hm => by
    rw [bitAt_test _ _ hm, bitAt_test _ _ hm, bitAt_test _ _ hm, UInt8.toNat_xor, Nat.testBit_xor]
  have hne : (x ^^^ y).toNat ≠ 0 := fun e => h (by
    have : x ^^^ y = 0 := UInt8.toNat_inj.1 (by simpa using e)
    exact UInt8.xor_eq_zero_iff.1 this)
  obtain ⟨h1, h2, h3, h4⟩ := lead8 ⟨(x ^^^ y).toNat, (x ^^^ y).toNat_lt⟩ hne
  simp only [UInt8.ofNat_toNat] at h3 h4 h1 h2
  refine ⟨h2, h1, fun t ht => ?_, fun e => ?_⟩
  · have := h3 ⟨t, by omega⟩ ht
    rw [hx t (by omega)] at this
    simpa using this
  · rw [hx _ h2, e] at h4
    simp at h4
theorem lt_bit (x y : UInt8) (h : x ≠ y) : x < y ↔ bitAt x (8 - Lib.bitLen (x ^^^ y).toNat) = false := by
  obtain ⟨h1, h2, h3, h4⟩ := lead_xor x y h
  have key : ∀ a b : UInt8, (∀ t, t < 8 - Lib.bitLen (x ^^^ y).toNat → bitAt a t = bitAt b t) → bitAt a (8 - Lib.bitLen (x ^^^ y).toNat) = false → bitAt b (8 - Lib.bitLen (x ^^^ y).toNat) = true → a < b := fun a b k1 k2 k3 => by
    rw [UInt8.lt_iff_toNat_lt]
    generalize hc : 8 - Lib.bitLen (x ^^^ y).toNat = c at *
    rw [bitAt_test _ _ h1] at k2 k3
    have e1 : a.toNat / 2 ^ (7 - c + 1) = b.toNat / 2 ^ (7 - c + 1) := by
      apply Nat.eq_of_testBit_eq
      intro i
      rw [Nat.testBit_div_two_pow, Nat.testBit_div_two_pow]
      by_cases hi : i + (7 - c + 1) < 8
      · have := k1 (7 - (i + (7 - c + 1))) (by omega)
        rw [bitAt_test _ _ (by omega), bitAt_test _ _ (by omega), show 7 - (7 - (i + (7 - c + 1))) = i + (7 - c + 1) by omega] at this
        first | exact this | (rw [Nat.add_comm]; exact this)
      · have h2 : ∀ u : UInt8, ∀ j, 8 ≤ j → u.toNat.testBit j = false := fun u j hj => Nat.testBit_lt_two_pow (Nat.lt_of_lt_of_le u.toNat_lt (Nat.pow_le_pow_right (by decide) hj))
        rw [h2 _ _ (by omega), h2 _ _ (by omega)]
    have e2 : ∀ n : Nat, n / 2 ^ (7 - c) = 2 * (n / 2 ^ (7 - c + 1)) + n / 2 ^ (7 - c) % 2 := fun n => by
      have : n / 2 ^ (7 - c + 1) = n / 2 ^ (7 - c) / 2 := by rw [Nat.pow_succ, Nat.div_div_eq_div_mul]
      omega
    rw [Nat.testBit_eq_decide_div_mod_eq] at k2 k3
    have k2' : a.toNat / 2 ^ (7 - c) % 2 ≠ 1 := by simpa using k2
    have k3' : b.toNat / 2 ^ (7 - c) % 2 = 1 := by simpa using k3
    have e3 := e2 a.toNat; have e4 := e2 b.toNat
    rw [e1] at e3
    refine Classical.byContradiction fun hn => ?_
    have := Nat.div_le_div_right (c := 2 ^ (7 - c)) (Nat.le_of_not_lt hn)
    omega
  constructor
  · intro hl
    cases hb : bitAt x (8 - Lib.bitLen (x ^^^ y).toNat)
    · rfl
    · exfalso
      rw [hb] at h4
      have := key y x (fun t ht => (h3 t ht).symm) (by simpa using h4.symm) hb
      rw [UInt8.lt_iff_toNat_lt] at this hl
      omega
  · intro hb
    rw [hb] at h4
    exact key x y h3 hb (by simpa using h4.symm)
/-- The lesser key, by bits. -/
def ltB (p q : List UInt8) : Prop := ∃ c, c < 256 ∧ agree c p q ∧ bitN p c = false ∧ bitN q c = true
theorem ltB.trans {p q r : List UInt8} (h : ltB p q) (k : ltB q r) : ltB p r := by
  obtain ⟨c, hc, h1, h2, h3⟩ := h
  obtain ⟨d, hd, k1, k2, k3⟩ := k
  rcases Nat.lt_trichotomy c d with hl | rfl | hg
  · exact ⟨c, hc, fun t ht => (h1 t ht).trans (k1 t (by omega)), h2, (k1 c hl) ▸ h3⟩
  · rw [h3] at k2; cases k2
  · exact ⟨d, hd, fun t ht => (h1 t (by omega)).trans (k1 t ht), (h1 d hg).trans k2, k3⟩
theorem ltB.irr {p : List UInt8} (h : ltB p p) : False := by obtain ⟨c, _, _, h2, h3⟩ := h; rw [h2] at h3; cases h3
theorem bitN_cons_lt (x : UInt8) (p : List UInt8) (t : Nat) (h : t < 8) : bitN (x :: p) t = bitAt x t := by
  unfold bitN; rw [Nat.div_eq_of_lt h, Nat.mod_eq_of_lt h]; rfl
theorem bitN_cons_ge (x : UInt8) (p : List UInt8) (t : Nat) : bitN (x :: p) (t + 8) = bitN p t := by
  unfold bitN; rw [Nat.add_div_right _ (by decide), Nat.add_mod_right]; rfl
theorem cmp_lt : ∀ p q : List UInt8, p.length = q.length → (Lib.compareBytes p q < 0 ↔ ∃ c, c < 8 * p.length ∧ agree c p q ∧ bitN p c = false ∧ bitN q c = true)
  | [], [], _ => by simp [Lib.compareBytes]
  | [], _ :: _, h => by cases h
  | _ :: _, [], h => by cases h
  | x :: p, y :: q, h => by
    have hl : p.length = q.length := by simpa using h
    have ih := cmp_lt p q hl
    by_cases he : x = y
    · subst he
      have e : Lib.compareBytes (x :: p) (x :: q) = Lib.compareBytes p q := by
        simp [Lib.compareBytes]
      rw [e, ih]
      constructor
      · rintro ⟨c, hc, h1, h2, h3⟩
        refine ⟨c + 8, by rw [List.length_cons]; omega, fun t ht => ?_, by rw [bitN_cons_ge]; exact h2, by rw [bitN_cons_ge]; exact h3⟩
        by_cases ht8 : t < 8
        · rw [bitN_cons_lt _ _ _ ht8, bitN_cons_lt _ _ _ ht8]
        · obtain ⟨t', rfl⟩ : ∃ t', t = t' + 8 := ⟨t - 8, by omega⟩
          rw [bitN_cons_ge, bitN_cons_ge]; exact h1 t' (by omega)
      · rintro ⟨c, hc, h1, h2, h3⟩
        by_cases hc8 : c < 8
        · rw [bitN_cons_lt _ _ _ hc8] at h2 h3; rw [h2] at h3; cases h3
        · obtain ⟨c', rfl⟩ : ∃ t', c = t' + 8 := ⟨c - 8, by omega⟩
          rw [bitN_cons_ge] at h2 h3
          refine ⟨c', by rw [List.length_cons] at hc; omega, fun t ht => ?_, h2, h3⟩
          have := h1 (t + 8) (by omega)
          rwa [bitN_cons_ge, bitN_cons_ge] at this
    · obtain ⟨l1, l2, l3, l4⟩ := lead_xor x y he
      have lb := lt_bit x y he
      have e : Lib.compareBytes (x :: p) (y :: q) < 0 ↔ x < y := by
        simp only [Lib.compareBytes]
        split
        · rename_i hxy; simp [hxy]
        · rename_i hxy
          constructor
          · intro h; exfalso; revert h
            split
            · simp
            · rename_i hyx
              exfalso; apply he; apply UInt8.toNat_inj.1
              rw [UInt8.lt_iff_toNat_lt] at hxy hyx; omega
          · intro h; exact absurd h hxy
      rw [e, lb]
      constructor
      · intro hb
        rw [hb] at l4
        refine ⟨8 - Lib.bitLen (x ^^^ y).toNat, by rw [List.length_cons]; omega, fun t ht => ?_, by rw [bitN_cons_lt _ _ _ l1]; exact hb, by rw [bitN_cons_lt _ _ _ l1]; simpa using l4.symm⟩
        rw [bitN_cons_lt _ _ _ (by omega), bitN_cons_lt _ _ _ (by omega)]; exact l3 t ht
      · rintro ⟨c, hc, h1, h2, h3⟩
        have hce : c = 8 - Lib.bitLen (x ^^^ y).toNat := by
          rcases Nat.lt_trichotomy c (8 - Lib.bitLen (x ^^^ y).toNat) with hl | he | hg
          · rw [bitN_cons_lt _ _ _ (by omega)] at h2 h3
            rw [l3 c hl, h3] at h2; cases h2
          · exact he
          · have := h1 _ hg
            rw [bitN_cons_lt _ _ _ l1, bitN_cons_lt _ _ _ l1] at this
            exact absurd this l4
        subst hce
        rwa [bitN_cons_lt _ _ _ l1] at h2
theorem cmp_ltB {p q : List UInt8} (hp : p.length = 32) (hq : q.length = 32) : Lib.compareBytes p q < 0 ↔ ltB p q := by
  rw [cmp_lt p q (by omega), hp]; rfl
theorem agree_all : ∀ p q : List UInt8, p.length = q.length → agree (8 * p.length) p q → p = q
  | [], [], _, _ => rfl
  | [], _ :: _, h, _ => by cases h
  | _ :: _, [], h, _ => by cases h
  | x :: p, y :: q, h, ha => by
    have hl : p.length = q.length := by simpa using h
    have e := agree_all p q hl fun t ht => by
      have := ha (t + 8) (by rw [List.length_cons]; omega)
      rwa [bitN_cons_ge, bitN_cons_ge] at this
    by_cases hx : x = y
    · rw [e, hx]
    · exfalso
      obtain ⟨l1, l2, l3, l4⟩ := lead_xor x y hx
      have := ha (8 - Lib.bitLen (x ^^^ y).toNat) (by rw [List.length_cons]; omega)
      rw [bitN_cons_lt _ _ _ l1, bitN_cons_lt _ _ _ l1] at this
      exact l4 this
theorem agree_eq {p q : List UInt8} (hp : p.length = 32) (hq : q.length = 32) (h : agree 256 p q) : p = q := agree_all p q (by omega) (by rw [hp]; exact h)
end Go.Proofs.Ythphhnkoilcofaa
/- Keys as ways down: the program's and the document's functions. -/
namespace Go.Proofs.Ythphhnkoilcofaa
open Go Go.RowKit
theorem e7w (d : Int) (h0 : 0 ≤ d) : (if (d % 8).toNat ≤ 8 then (d % 8).toNat else 8) = d.toNat % 8 := by split <;> omega
theorem e8w (d : Int) (h0 : 0 ≤ d) : (d / 8).toNat = d.toNat / 8 := by omega
theorem mask_v (d : Int) (h0 : 0 ≤ d) (h1 : d < 256) : VC Try.prog 112 [.v (.int .i64 d)] [] (.v (.int .u8 (128 / 2 ^ (d.toNat % 8)))) := by
  have e7 := e7w d h0
  refine mE Try.func112 ?_; intro N w0 a w hN hR H
  have hX := @e7
  have hY := @e7
  refine mW ?_; clear H; intro a w H
  refine wp_ret ?_; exact mEnd [] [] [.tmp 2] [_] hN hR H
set_option maxRecDepth 20000 in
theorem bit_v (p : List UInt8) (hp : p.length = 32) (d : Int) : VC Try.prog 66 [.ba p, .v (.int .i64 d)] [] (.v (.int .i64 (pbit p d))) := by
  refine mE Try.func66 ?_; intro N w0 a w hN hR H
  refine mW ?_; clear H; intro a w H
  by_cases h : 0 ≤ d ∧ d < 256
  · have hm := mask_v d h.1 h.2
    have e8 := e8w d h.1
    rw [pbit, if_pos h]
    have h1 := h.1; have h2 := h.2
    refine mC H (fun hb => ?_) (fun hb => ?_)
    · exfalso; simp at hb; omega
    · refine mS ?_; refine mD 1 [5] [0, 1, 2, 3] H ?_; clear H; intro gS H; refine mT ?_; clear H; intro a w H
      refine mCallT [] [] (hm) H ?_; clear H; intro a w H
      have hX := @e8
      have hY := @e8
      refine mT ?_; clear H; intro a w H
      refine v_drawNil H ?_; clear H; intro H
      rw [and_bit] at H
      have eb : bitAt (p.getD (d.toNat / 8) 0) (d.toNat % 8) = bitN p d.toNat := rfl
      rw [eb] at H
      refine mC H (fun hb => ?_) (fun hb => ?_)
      · rw [hb]
        refine mW ?_; clear H; intro a w H
        refine wp_ret ?_; exact mEnd [] [] [.tmp 4] [_] hN hR H
      · rw [hb]
        refine mW ?_; clear H; intro a w H
        refine wp_ret ?_; exact mEnd [] [] [.tmp 4] [_] hN hR H
  · rw [pbit, if_neg h]
    refine mC H (fun hb => ?_) (fun hb => ?_)
    · refine mW ?_; clear H; intro a w H
      refine wp_ret ?_; exact mEnd [] [] [.tmp 4] [_] hN hR H
    · exfalso; simp at hb; omega
end Go.Proofs.Ythphhnkoilcofaa
/- slices.SortFunc at entries: the program bears it; how it compares. -/
namespace Go.Proofs.Ythphhnkoilcofaa
open Go Go.RowKit
def srtR : Go.Shelf.Ren := ⟨fun | 6 => 133 | 15 => 140 | 14 => 167 | 28 => 178 | 29 => 179 | 20 => 205 | 21 => 206 | 22 => 207 | 23 => 208 | 24 => 209 | 25 => 210 | 26 => 211 | 27 => 212 | 46 => 234 | 47 => 230 | 48 => 231 | 49 => 235 | 50 => 236 | 57 => 241 | n => n, fun | 22 => 57 | 24 => 62 | 25 => 207 | 3 => 3 | 39 => 219 | 0 => 0 | 53 => 243 | 55 => 251 | 4 => 4 | 46 => 277 | 45 => 276 | 50 => 201 | 5 => 5 | 9 => 9 | 66 => 300 | 70 => 291 | 76 => 311 | 77 => 306 | n => n, fun x => x⟩
theorem srtL : SlLaysF0.n6 Try.prog srtR :=
  { mixed := by kernel_rfl,
    f6 := ⟨Try.f133.name, by decide, by kernel_rfl⟩,
    f15 := by kernel_rfl,
    f14 := ⟨Try.f167.name, by decide, by kernel_rfl⟩,
    f28 := by kernel_rfl,
    f29 := by kernel_rfl,
    f20 := ⟨Try.f205.name, by decide, by kernel_rfl⟩,
    f21 := ⟨Try.f206.name, by decide, by kernel_rfl⟩,
    f22 := ⟨Try.f207.name, by decide, by kernel_rfl⟩,
    f23 := ⟨Try.f208.name, by decide, by kernel_rfl⟩,
    f24 := ⟨Try.f209.name, by decide, by kernel_rfl⟩,
    f25 := ⟨Try.f210.name, by decide, by kernel_rfl⟩,
    f26 := ⟨Try.f211.name, by decide, by kernel_rfl⟩,
    f27 := ⟨Try.f212.name, by decide, by kernel_rfl⟩,
    f46 := ⟨Try.f234.name, by decide, by kernel_rfl⟩,
    f47 := by kernel_rfl,
    f48 := by kernel_rfl,
    f49 := ⟨Try.f235.name, by decide, by kernel_rfl⟩,
    f50 := ⟨Try.f236.name, by decide, by kernel_rfl⟩,
    f57 := ⟨Try.f241.name, by decide, by kernel_rfl⟩,
    t22 := Try.underlying57, a22 := Try.isAgg57, z22 := Try.sizeOf57, v22 := Try.zeroValue57,
    t25 := Try.underlying207, a25 := Try.isAgg207, z25 := Try.sizeOf207, v25 := Try.zeroValue207,
    t3 := Try.underlying3, a3 := Try.isAgg3, z3 := Try.sizeOf3, v3 := Try.zeroValue3,
    t39 := Try.underlying219, a39 := Try.isAgg219, z39 := Try.sizeOf219, v39 := Try.zeroValue219,
    t0 := Try.underlying0, a0 := Try.isAgg0, z0 := Try.sizeOf0, v0 := Try.zeroValue0,
    t53 := Try.underlying243, a53 := Try.isAgg243, z53 := Try.sizeOf243, v53 := Try.zeroValue243,
    t55 := Try.underlying251, a55 := Try.isAgg251, z55 := Try.sizeOf251, v55 := Try.zeroValue251,
    t4 := Try.underlying4, a4 := Try.isAgg4, z4 := Try.sizeOf4, v4 := Try.zeroValue4,
    t46 := Try.underlying277, a46 := Try.isAgg277, z46 := Try.sizeOf277, v46 := Try.zeroValue277,
    t45 := Try.underlying276, a45 := Try.isAgg276, z45 := Try.sizeOf276, v45 := Try.zeroValue276,
    t50 := Try.underlying201, a50 := Try.isAgg201, z50 := Try.sizeOf201, v50 := Try.zeroValue201,
    t5 := Try.underlying5, a5 := Try.isAgg5, z5 := Try.sizeOf5, v5 := Try.zeroValue5,
    t9 := Try.underlying9, a9 := Try.isAgg9, z9 := Try.sizeOf9, v9 := Try.zeroValue9,
    t66 := Try.underlying300, a66 := Try.isAgg300, z66 := Try.sizeOf300, v66 := Try.zeroValue300,
    t70 := Try.underlying291, a70 := Try.isAgg291, z70 := Try.sizeOf291, v70 := Try.zeroValue291,
    t76 := Try.underlying311, a76 := Try.isAgg311, z76 := Try.sizeOf311, v76 := Try.zeroValue311,
    t77 := Try.underlying306, a77 := Try.isAgg306, z77 := Try.sizeOf306, v77 := Try.zeroValue306 }
end Go.Proofs.Ythphhnkoilcofaa
/- Maps whose keys are arrays of bytes: made, looked up, put into. -/
namespace Go.Proofs.Ythphhnkoilcofaa
open Go Go.RowKit
theorem mapM_some {α β : Type} {f : α → Option β} : ∀ (l : List α), (∀ x ∈ l, ∃ y, f x = some y) → ∃ ys, l.mapM f = some ys
  | [], _ => ⟨[], rfl⟩
  | x :: l, h => by
    obtain ⟨y, hy⟩ := h x List.mem_cons_self
    obtain ⟨ys, hys⟩ := mapM_some l fun z hz => h z (List.mem_cons_of_mem _ hz)
    exact ⟨y :: ys, by simp [List.mapM_cons, hy, hys]⟩
/-- A type of keys. -/
structure KT (P : Program) (kt : TypeId) (n : Nat) : Prop where
  law : WideMaps.KeyLaw P kt
  key : ∀ l : List UInt8, l.length = n → ∃ q, keyOf P kt (.agg (l.map B8).toArray) = some q
theorem KT.of {P : Program} {kt e : TypeId} {n : Nat} (ha : P.underlying kt = some (.array n e)) (he : P.underlying e = some (.int .u8)) (hk : P.keyTypeAt 2 kt = true) (ht : P.tiled 2 kt = true) (hK : P.keyType kt = true) (hc : P.cellsOf kt = n) (hce : P.cellsOf e = 1) (hs : 1 ≤ P.types.size) : KT P kt n :=
  ⟨deep_law (m := 2) (by decide) hk ht (by rw [ha]), fun l hl => by
    obtain ⟨d, hd⟩ : ∃ d, P.types.size = d + 1 := ⟨P.types.size - 1, by omega⟩
    have hlen : (l.map B8).length = n := by simpa using hl
    obtain ⟨ys, hys⟩ := mapM_some (f := fun i => P.keyLits (P.types.size) e (((l.map B8).drop (i * P.cellsOf e)).take (P.cellsOf e))) (List.range n) fun i hi => by
      have hi' : i < l.length := by rw [hl]; exact List.mem_range.1 hi
      have e1 : (((l.map B8).drop (i * P.cellsOf e)).take (P.cellsOf e)) = [B8 l[i]] := by
        rw [hce, Nat.mul_one, List.drop_eq_getElem_cons (by simpa using hi')]
        simp
      rw [e1, hd]
      refine ⟨[.int .u8 (l[i].toNat : Int)], ?_⟩
      unfold Program.keyLits
      rw [he]
      have h1 : (Lit.int .u8 (l[i].toNat : Int)).wf = true := by
        have := l[i].toNat_lt
        simp [Lit.wf, IntKind.min, IntKind.max, IntKind.signed, IntKind.bits]; omega
      simp [B8, h1]
    refine ⟨.string (keyBytes ys.flatten), ?_⟩
    unfold keyOf
    rw [ha]
    have hf : (Value.agg (l.map B8).toArray).formed P kt = true := by simp [Value.formed, ha, hc, hl]
    have hkl : P.keyLits (P.types.size + 1) kt (l.map B8) = some ys.flatten := by
      unfold Program.keyLits
      rw [ha]
      simp only [hlen, hc, if_true]
      rw [hys]; rfl
    simp only [hK, hf, Bool.and_self, if_true, Value.cells, List.toList_toArray, hkl, Option.map_some]⟩
theorem new_at (w : World) (o : Obj) : (w.alloc o).heap[w.heap.size]? = some o := by show (w.heap.push o)[w.heap.size]? = some o; simp
section
variable {P : Program} {τ : Tab} {w0 w : World} {N : Gh} {g : Gh} {st : St} {nt : Nat} {a : Act}
theorem v_mkMap {ops : Array Oper} {Q : Exit → Act → World → Prop} {rest : List Oper} {o : Oper} {t : Nat} (K V : Ty) (H : Rel P w0 N nt st a w)
    (k : ∀ a w, Rel P w0 N nt ((⟨st.t, st.bx ++ [(.mp K V, .mp [] [])], st.fz, st.rw⟩ : St).put o.dst none (.mr st.bx.length)) a w → wpList P ops Q rest a w) (hgd : o.guard = none := by rfl) (ho : o.op = .makeMap t none := by rfl) (hd : okDst nt none o.dst = true := by rfl) : wpList P ops Q (o :: rest) a w := by
  obtain ⟨g, HI, hF⟩ := H
  obtain ⟨g', l1, I1, h1⟩ := HI.boxG (x := ⟨w.heap.size, 0, .mp K V, [], false, 0, 0, false, some (#[], 0)⟩) (a := .mp [] []) (w' := w.alloc (.map #[] 0)) rfl (grown_alloc w _) (fun _ => ⟨rfl, ⟨fun e => (by cases e), fun m e => (by injection e with e; subst e; exact new_at w _)⟩⟩) (fun e => by cases e) (fun _ => rfl)
    (.inr (.inr (.inr ⟨K, V, [], [], #[], 0, rfl, rfl, rfl, rfl, rfl, rfl, rfl, fun k h => absurd h (by simp)⟩)))
  refine wpList_plain hgd fun K' hK => ?_
  unfold Oper.wp
  have he : (execOp a.eval o).run P w = .ok (.value (.map (some w.heap.size))) (w.alloc (.map #[] 0)) := by
    obtain ⟨dst, op, ty, pos, after, gd⟩ := o
    dsimp only at ho
    subst ho
    rfl
  rw [he, Oper.upon_value]
  refine hK _ _ (k _ _ ⟨g', ?_, (hF.mono l1.1).put hd (fun _ => (RC.mr h1 rfl).rvp) rfl (fun h => absurd trivial h)⟩)
  cases o.dst <;> exact I1
/-- The entries of a map. -/
theorem map_at (HI : Inv P w0 N g st.bx st.fz st.rw w) {i n : Nat} {V : Ty} {ks : List (List UInt8)} {vs : List AV} (hb : st.bx[i]? = some (.mp (.ba n) V, .mp (ks.map .ba) vs)) : ∃ x es clk, g.bx[i]? = some x ∧ x.ty = .mp (.ba n) V ∧ x.off = false ∧ x.mp = some (es, clk) ∧ x.cells = [] ∧ w.heap[x.blk]? = some (.map es clk) ∧ ks.length = es.size ∧ vs.length = es.size ∧
    ∀ k (h : k < es.size) (h1 : k < ks.length) (h2 : k < vs.length), ks[k].length = n ∧ es[k].key = .agg (ks[k].map B8).toArray ∧ ∃ ds, RC g.base V vs[k] ds ∧ es[k].val = mkV V ds := by
  obtain ⟨x, hx, hty, hbc⟩ := HI.br.get hb
  rcases hbc with ⟨_, _, hrc⟩ | ⟨_, _, _, _, _, ⟨_, e, _⟩, _⟩ | ⟨_, _, _, ⟨_, e, _⟩, _⟩ | ⟨K, V', ks', vs', es, clk, e1, e2, ho, hm, hc, hk, hv, hall⟩
  · cases hrc
  · cases e
  · cases e
  · injection e1 with e1 e1'; subst e1 e1'
    injection e2 with e2 e2'; subst e2 e2'
    refine ⟨x, es, clk, hx, hty, ho, hm, hc, (HI.mem.bx i x hx ho).m _ hm, by simpa using hk, hv, fun k h h1 h2 => ?_⟩
    obtain ⟨cs, ds, q1, q2, q3, q4⟩ := hall k h (by simpa using h1) h2
    rw [List.getElem_map] at q1
    obtain ⟨q5, rfl⟩ := q1.ba_inv
    injection q5 with q5
    exact ⟨q5.symm, q2, ds, q3, q4⟩
theorem find_at {kt n : Nat} (hKT : KT P kt n) {ks : List (List UInt8)} {es : Array MapEntry} (hlen : ks.length = es.size) (hall : ∀ k (h : k < es.size) (h1 : k < ks.length), ks[k].length = n ∧ es[k].key = .agg (ks[k].map B8).toArray) {kl : List UInt8} (hl : kl.length = n) (w : World) :
    ((Instr.findKey kt (.agg (kl.map B8).toArray) es.toList).run P w = .ok none w ∧ kl ∉ ks) ∨ ∃ j, ∃ h : j < es.size, ks[j]? = some kl ∧ (Instr.findKey kt (.agg (kl.map B8).toArray) es.toList).run P w = .ok (some (j, es[j].val)) w := by
  have inj : ∀ x y : List UInt8, Value.agg (x.map B8).toArray = Value.agg (y.map B8).toArray → x = y := fun x y e => by
    injection e with e
    have e1 := congrArg Array.toList e
    simp only [List.toList_toArray] at e1
    exact (List.map_inj_right (f := B8) (fun u v h => by unfold B8 at h; injection h with _ h; exact UInt8.toNat_inj.1 (by omega))).1 e1
  obtain ⟨q, hq⟩ := hKT.key kl hl
  rcases hKT.law.find w hq es.toList (fun e he => by
    obtain ⟨j, hj, rfl⟩ := List.getElem_of_mem he
    have hj' : j < es.size := by simpa using hj
    obtain ⟨h1, h2⟩ := hall j hj' (by omega)
    rw [Array.getElem_toList, h2]
    exact hKT.key _ h1) with ⟨h1, h2⟩ | ⟨j, e, h1, h2, h3⟩
  · refine .inl ⟨h1, fun hm => ?_⟩
    obtain ⟨j, hj, e⟩ := List.getElem_of_mem hm
    have hj' : j < es.size := by omega
    obtain ⟨_, h4⟩ := hall j hj' hj
    exact h2 es[j] (by simp) (by rw [h4, e])
  · have hj : j < es.size := by have := (List.getElem?_eq_some_iff.1 h2).1; simpa using this
    have he : e = es[j] := by rw [Array.getElem?_toList, Array.getElem?_eq_getElem hj] at h2; injection h2 with h2; exact h2.symm
    subst he
    obtain ⟨_, h4⟩ := hall j hj (by omega)
    refine .inr ⟨j, hj, ?_, h1⟩
    rw [List.getElem?_eq_getElem (by omega)]
    congr 1
    exact inj _ _ (h4.symm.trans h3)
theorem v_look {ops : Array Oper} {Q : Exit → Act → World → Prop} {rest : List Oper} {o : Oper} {t kt et i n : Nat} {m kx : Operand} {V : Ty} {ks : List (List UInt8)} {vs : List AV} {kl : List UInt8} {z : AV} {zv : Value} (hKT : KT P kt n) (H : Rel P w0 N nt st a w)
    (ht : P.underlying t = some (.map kt et)) (hz : ∀ w, (zeroValue et).run P w = .ok zv w) (hzr : ∀ g, RV g z zv) (hl : kl.length = n)
    (k1 : kl ∉ ks → ∀ a w, Rel P w0 N nt (st.put o.dst none z) a w → wpList P ops Q rest a w) (k2 : ∀ (j : Nat) (v : AV), ks[j]? = some kl → vs[j]? = some v → ∀ a w, Rel P w0 N nt (st.put o.dst none v) a w → wpList P ops Q rest a w)
    (hgd : o.guard = none := by rfl) (ho : o.op = .lookup t m kx false := by rfl) (hd : okDst nt none o.dst = true := by rfl) (hm : st.ev none m = .mr i := by rfl) (hk : st.ev none kx = .ba kl := by rfl) (hb : st.bx[i]? = some (.mp (.ba n) V, .mp (ks.map .ba) vs) := by rfl) : wpList P ops Q (o :: rest) a w := by
  obtain ⟨g, HI, hF⟩ := H
  obtain ⟨x, es, clk, hx, hty, hoff, hmp, hc, hheap, hkl, hvl, hall⟩ := map_at HI hb
  have em := ev_sound hF (c := none) trivial m
  have ek := ev_sound hF (c := none) trivial kx
  rw [hm] at em; rw [hk] at ek
  have ek := ek.ba_inv
  have em2 : a.eval m = .map (some x.blk) := by
    have h3 := em.mr_inv
    generalize a.eval m = u at h3
    cases h3 with
    | mr h hT => rw [hx] at h; injection h with h; subst h; rfl
  have hget : (getObj x.blk).run P w = .ok (.map es clk) w := MapKept.run_getObj_map hheap
  have hchk : (Instr.checkKey es.isEmpty 10000 kt (a.eval kx)).run P w = .ok () w := by
    obtain ⟨q, hq⟩ := hKT.key kl hl
    rw [ek]; exact hKT.law.check w _ hq
  refine wpList_plain hgd fun K hK => ?_
  unfold Oper.wp
  have he : (execOp a.eval o).run P w = ((Instr.lookup t (a.eval m) (a.eval kx) false).run P w).andThen fun v w => .ok (.value v) w := by
    obtain ⟨dst, op, ty, pos, after, gd⟩ := o
    dsimp only at ho
    subst ho
    simp only [execOp, Sem.run_bind, Sem.run_pure]
  have hu : (underlying t).run P w = .ok (.map kt et) w := run_underlying ht w
  rw [he]
  rcases find_at hKT hkl (fun k h h1 => ⟨(hall k h h1 (by omega)).1, (hall k h h1 (by omega)).2.1⟩) hl w with ⟨h1, h2⟩ | ⟨j, hj, h1, h2⟩
  · have hr : (Instr.lookup t (a.eval m) (a.eval kx) false).run P w = .ok zv w := by
      rw [em2]
      unfold Instr.lookup
      simp only [Sem.run_bind, hu, Result.andThen_ok, hget, Sem.run_pure, hchk]
      rw [ek, h1]
      simp [hz]
    rw [hr]
    simp only [Result.andThen_ok, Oper.upon_value]
    refine hK _ _ (k1 h2 _ _ ⟨g, ?_, hF.put hd (fun _ => hzr g) rfl (fun h => absurd trivial h)⟩)
    cases o.dst <;> exact HI
  · have hr : (Instr.lookup t (a.eval m) (a.eval kx) false).run P w = .ok es[j].val w := by
      rw [em2]
      unfold Instr.lookup
      simp only [Sem.run_bind, hu, Result.andThen_ok, hget, Sem.run_pure, hchk]
      rw [ek, h2]
      simp
    rw [hr]
    simp only [Result.andThen_ok, Oper.upon_value]
    obtain ⟨_, _, ds, q1, q2⟩ := hall j hj (by omega) (by omega)
    refine hK _ _ (k2 j vs[j] h1 (List.getElem?_eq_getElem _) _ _ ⟨g, ?_, hF.put hd (fun _ => by rw [q2]; exact (q1.mono g.base_le).rv.rv') rfl (fun h => absurd trivial h)⟩)
    cases o.dst <;> exact HI
/-- A key that is none of a map's is put into it. -/
theorem v_mapNew {ops : Array Oper} {Q : Exit → Act → World → Prop} {rest : List Oper} {o : Oper} {t kt et i n : Nat} {m kx vx : Operand} {V : Ty} {ks : List (List UInt8)} {vs : List AV} {kl : List UInt8} {v : AV} (hKT : KT P kt n) (H : Rel P w0 N nt st a w)
    (ht : P.underlying t = some (.map kt et)) (hl : kl.length = n) (hn : kl ∉ ks)
    (k : ∀ a w, Rel P w0 N nt ((⟨st.t, st.bx.set i (.mp (.ba n) V, .mp (ks.map .ba ++ [.ba kl]) (vs ++ [strip 3 v])), st.fz, st.rw⟩ : St)) a w → wpList P ops Q rest a w)
    (hgd : o.guard = none := by rfl) (ho : o.op = .mapUpdate t m kx vx := by rfl) (hd : o.dst = none := by rfl) (hm : st.ev none m = .mr i := by rfl) (hk : st.ev none kx = .ba kl := by rfl) (hv : st.ev none vx = v := by rfl) (hb : st.bx[i]? = some (.mp (.ba n) V, .mp (ks.map .ba) vs) := by rfl) (hf : notIn i st.fz = true := by rfl) (hp : pure_ 3 v = true := by rfl) (hft : fit V v := by first | rfl | trivial) : wpList P ops Q (o :: rest) a w := by
  obtain ⟨g, HI, hF⟩ := H
  obtain ⟨x, es, clk, hx, hty, hoff, hmp, hc, hheap, hkl, hvl, hall⟩ := map_at HI hb
  have em := ev_sound hF (c := none) trivial m
  have ek := ev_sound hF (c := none) trivial kx
  have ev := ev_sound hF (c := none) trivial vx
  rw [hm] at em; rw [hk] at ek; rw [hv] at ev
  have ek := ek.ba_inv
  have em2 : a.eval m = .map (some x.blk) := by
    have h3 := em.mr_inv
    generalize a.eval m = u at h3
    cases h3 with
    | mr h hT => rw [hx] at h; injection h with h; subst h; rfl
  obtain ⟨ds, hds, hvd⟩ := ev.fit hft
  have hdb := hds.strip_ hp
  have hget : (getObj x.blk).run P w = .ok (.map es clk) w := MapKept.run_getObj_map hheap
  have hchk : (Instr.checkKey false 10000 kt (a.eval kx)).run P w = .ok () w := by
    obtain ⟨q, hq⟩ := hKT.key kl hl
    rw [ek]; exact hKT.law.check w _ hq
  have hu : (underlying t).run P w = .ok (.map kt et) w := run_underlying ht w
  have hfind : (Instr.findKey kt (a.eval kx) es.toList).run P w = .ok none w := by
    rw [ek]
    rcases find_at hKT hkl (fun k h h1 => ⟨(hall k h h1 (by omega)).1, (hall k h h1 (by omega)).2.1⟩) hl w with ⟨h1, h2⟩ | ⟨j, hj, h1, h2⟩
    · exact h1
    · exact absurd (List.mem_of_getElem? h1) hn
  let ne : MapEntry := { key := a.eval kx, val := a.eval vx, born := clk }
  have hr : (Instr.mapUpdate t (a.eval m) (a.eval kx) (a.eval vx)).run P w = (setObj x.blk (.map (es.push ne) (clk + 1))).run P w := by
    rw [em2]
    unfold Instr.mapUpdate
    simp only [Sem.run_bind, hu, Result.andThen_ok, hget, hchk, hfind]
    rfl
  let w' : World := { w with heap := w.heap.setIfInBounds x.blk (.map (es.push ne) (clk + 1)) }
  have hlt : x.blk < w.heap.size := (Array.getElem?_eq_some_iff.1 hheap).1
  have hset : (setObj x.blk (.map (es.push ne) (clk + 1))).run P w = .ok () w' := MapKept.run_setObj_map _ hheap
  have hxf : x.fz = false := by cases e : x.fz with | false => rfl | true => exact absurd (HI.fz i x hx e) (notIn_ok hf)
  obtain ⟨g', h1, h2, _⟩ := HI.upd (x' := { x with mp := some (es.push ne, clk + 1) }) (w' := w') (a := .mp (ks.map .ba ++ [.ba kl]) (vs ++ [strip 3 v])) hx (notIn_ok hf)
    (by unfold Bx.own; rw [hoff]; exact ⟨rfl, rfl, rfl, by simp [w'], fun k hk hne => by
      show (w.heap.setIfInBounds x.blk _)[k]? = _
      rw [Array.getElem?_setIfInBounds_ne (fun e => hne (by rw [e]; rfl))]⟩) rfl hxf (Nat.le_refl _) (fun _ => ⟨rfl, rfl, rfl⟩)
    (fun _ => ⟨⟨fun e => (by cases e), fun m e => by
      injection e with e; subst e
      show (w.heap.setIfInBounds x.blk _)[x.blk]? = _
      rw [Array.getElem?_setIfInBounds_self_of_lt hlt]⟩, .inr ⟨hoff, rfl⟩⟩) (fun e => by rw [show ({ x with mp := some (es.push ne, clk + 1) } : Bx).off = x.off from rfl, hoff] at e; cases e) (fun _ => hc)
    (by
      rw [hty]
      refine .inr (.inr (.inr ⟨.ba n, V, _, _, es.push ne, clk + 1, rfl, rfl, hoff, rfl, hc, by simp [hkl], by simp [hvl], fun j hj q1 q2 => ?_⟩))
      by_cases hj2 : j < es.size
      · obtain ⟨r1, r2, ds2, r3, r4⟩ := hall j hj2 (by omega) (by omega)
        refine ⟨ks[j].map B8, ds2, ?_, ?_, ?_, ?_⟩
        · rw [List.getElem_append_left (by simp; omega), List.getElem_map]; exact .ba r1
        · rw [Array.getElem_push_lt hj2, r2]; rfl
        · rw [List.getElem_append_left (by omega)]; exact r3
        · rw [Array.getElem_push_lt hj2, r4]
      · have hje : j = es.size := by simp at hj; omega
        subst hje
        refine ⟨kl.map B8, ds, ?_, ?_, ?_, ?_⟩
        · rw [List.getElem_append_right (by simp; omega)]; simp [hkl]; exact .ba hl
        · rw [Array.getElem_push_eq]; exact ek
        · rw [List.getElem_append_right (by omega)]; simp [hvl]; exact hdb
        · rw [Array.getElem_push_eq]; exact hvd)
  rw [hty] at h2
  refine wpList_plain hgd fun K hK => ?_
  unfold Oper.wp
  have he : (execOp a.eval o).run P w = .ok .skip w' := by
    obtain ⟨dst, op, ty, pos, after, gd⟩ := o
    dsimp only at ho
    subst ho
    simp only [execOp, Sem.run_bind, Sem.run_pure, hr, hset, Result.andThen_ok]
  rw [he, Oper.upon_skip]
  have e8 : a.put o.dst undef = a := by rw [hd]; rfl
  rw [e8]
  exact hK _ _ (k _ _ ⟨g', h2, ⟨hF.sz, hF.df, fun p hp hg => (hF.t p hp hg).mono h1, hF.u⟩⟩)
end
end Go.Proofs.Ythphhnkoilcofaa
/- Entries sorted: how two are compared. -/
namespace Go.Proofs.Ythphhnkoilcofaa
open Go Go.RowKit
theorem cell_new (w : World) (cs : Array Value) (t : TypeId) (j : Nat) : (w.alloc (.cells cs t)).cell? ⟨w.heap.size, j, none⟩ = cs[j]? := by
  unfold World.cell?
  rw [show (w.alloc (.cells cs t)).heap[(⟨w.heap.size, j, none⟩ : Addr).block]? = some (.cells cs t) from new_at w _]
  rfl
theorem size_alloc (w : World) (o : Obj) : (w.alloc o).heap.size = w.heap.size + 1 := by show (w.heap.push o).size = _; simp
theorem cmpT_any (a b : ByteArray) (w : World) : Calls Try.prog 124 #[.string a, .string b] w fun e w' => e = .returned (.int .i64 (Lib.compareBytes a.data.toList b.data.toList)) ∧ w' = w := by
  go_enter Try.func124, Try.ntmps124
  go_wp2_with (first | (go_at_call 160; refine (cmp_any _ _ _).mono ?_; rintro e w' ⟨rfl, rfl⟩))
  go_ret
  exact ⟨rfl, rfl⟩
theorem ocmp_any (x y : List UInt8) (B : Nat) (A1 A2 : Option Addr) (c1 c2 : Nat) (w : World) (h1 : Rd byteE w B A1 x) (h2 : Rd byteE w B A2 y) : Calls Try.prog 79 #[.slice A1 x.length c1, .slice A2 y.length c2] w fun e w' => e = .returned (.int .i64 (Lib.compareBytes x y)) ∧ w' = w := by
  have r1 := run_str h1 x.length c1 rfl
  have r2 := run_str h2 y.length c2 rfl
  have hc := cmpT_any (strOf x) (strOf y) w
  have e1 : (strOf x).data.toList = x := rfl
  have e2 : (strOf y).data.toList = y := rfl
  rw [e1, e2] at hc
  generalize strOf x = s1 at *
  generalize strOf y = s2 at *
  go_enter Try.func79, Try.ntmps79
  go_wp2_with (first | (go_at_call 124; refine hc.mono ?_; rintro e w' ⟨rfl, rfl⟩))
  go_ret
  exact ⟨rfl, rfl⟩
set_option maxHeartbeats 1000000 in
set_option maxRecDepth 100000 in
theorem pcmp_any (x y : List UInt8) (hx : x.length = 32) (hy : y.length = 32) (W : World) : Calls Try.prog 22 #[.agg (x.map B8).toArray, .agg (y.map B8).toArray] W fun e w' => e = .returned (.int .i64 (Lib.compareBytes x y)) ∧ ∃ q os', w' = Sort.grow (W.drewN q) os' := by
  have mixed : Try.prog.follows .mixedOrders = true := by kernel_rfl
  have hcon : ∀ n os, Calls Try.prog 79 #[.slice (some ⟨W.heap.size, 0, none⟩) 32 32, .slice (some ⟨W.heap.size + 1, 0, none⟩) 32 32] (Sort.grow ((((W.alloc (.cells (x.map B8).toArray 37)).alloc (.cells (y.map B8).toArray 37))).drewN n) os) fun e w' => e = .returned (.int .i64 (Lib.compareBytes x y)) ∧ ∃ p : GrownBy, w' = Sort.grow ((((W.alloc (.cells (x.map B8).toArray 37)).alloc (.cells (y.map B8).toArray 37))).drewN p.n) p.os := fun n os => by
    have h1 : Rd byteE (Sort.grow ((((W.alloc (.cells (x.map B8).toArray 37)).alloc (.cells (y.map B8).toArray 37))).drewN n) os) (W.heap.size + 2) (some ⟨W.heap.size, 0, none⟩) x := .inr ⟨_, _, rfl, by omega, fun j u hj => by
      refine cell_grown (by simp; omega) ?_ n os
      rw [byteE_all] at hj
      refine Lib.cell?_alloc_some _ ?_
      rw [Nat.zero_add, cell_new, List.getElem?_toArray]
      exact hj⟩
    have h2 : Rd byteE (Sort.grow ((((W.alloc (.cells (x.map B8).toArray 37)).alloc (.cells (y.map B8).toArray 37))).drewN n) os) (W.heap.size + 2) (some ⟨W.heap.size + 1, 0, none⟩) y := .inr ⟨_, _, rfl, by omega, fun j u hj => by
      refine cell_grown (by simp) ?_ n os
      rw [byteE_all] at hj
      have := cell_new (W.alloc (.cells (x.map B8).toArray 37)) (y.map B8).toArray 37 j
      rw [size_alloc] at this
      rw [Nat.zero_add, this, List.getElem?_toArray]
      exact hj⟩
    have h := ocmp_any x y _ _ _ 32 32 _ h1 h2
    rw [hx, hy] at h
    exact h.mono fun e w' ⟨he, hw⟩ => ⟨he, ⟨n, os⟩, hw⟩
  go_enter Try.func22, Try.ntmps22
  go_wp2
  generalize hw2 : (W.alloc (.cells (x.map B8).toArray 37)).alloc (.cells (y.map B8).toArray 37) = W2 at hcon ⊢
  go_quiet_grown (first | (go_at_call 79; exact hcon _ _))
  go_wp2
  go_ret
  refine ⟨rfl, nq, #[.cells (x.map B8).toArray 37, .cells (y.map B8).toArray 37] ++ osq, ?_⟩
  rw [← hw2, Sort.alloc_eq_grow, Sort.alloc_eq_grow, Sort.grow_grow]
  show Sort.grow (Sort.grow (W.drewN nq) _) osq = _
  rw [Sort.grow_grow]; rfl
/-- An entry's cells. -/
abbrev Cel := {p : List UInt8 × Value // p.1.length = 32 ∧ p.2.oneCell' = true}
instance : Inhabited Cel := ⟨⟨(List.replicate 32 0, .int .i64 0), by decide, rfl⟩⟩
def encC (x : Cel) : List Value := x.1.1.map B8 ++ [x.1.2]
theorem encC_len (x : Cel) : (encC x).length = 33 := by simp [encC, x.2.1]
theorem encC_one (x : Cel) : ∀ v ∈ encC x, v.oneCell' = true := fun v hv => by
  unfold encC at hv
  rcases List.mem_append.1 hv with h | h
  · obtain ⟨u, _, rfl⟩ := List.mem_map.1 h; rfl
  · rw [List.mem_singleton.1 h]; exact x.2.2
def cfC (x y : Cel) : Int := Lib.compareBytes x.1.1 y.1.1
theorem op_ld {P : Program} {o : Oper} {a : Act} {w : World} {K : Act → World → Prop} {Q : Exit → Act → World → Prop} {t : TypeId} {p : Operand} {b : Nat} {v : Value} (hl : (loadVar t ⟨b, 0, none⟩).run P w = .ok v w) (ho : o.op = .load t p) (hp : a.eval p = .pointer (some ⟨b, 0, none⟩)) (k : K (a.put o.dst v) w) : Oper.wp P o a w K Q := by
  unfold Oper.wp
  have he : (execOp a.eval o).run P w = .ok (.value v) w := by
    obtain ⟨dst, op, ty, pos, after, gd⟩ := o
    dsimp only at ho
    subst ho
    simp [execOp, Instr.loadAt, Instr.sureAddr, hp, hl]
  rw [he, Oper.upon_value]
  exact k
set_option maxHeartbeats 1000000 in
set_option maxRecDepth 100000 in
theorem srt_cmp (x y : Cel) (W : World) : Calls Try.prog 134 #[.agg (encC x).toArray, .agg (encC y).toArray] W fun e w' => e = .returned (.int .i64 (cfC x y)) ∧ ∃ q os', w' = Sort.grow (W.drewN q) os' := by
  have hc := fun W' => pcmp_any x.1.1 y.1.1 x.2.1 y.2.1 W'
  have ld : ∀ (z : Cel) (b : Nat) (W' : World), W'.heap[b]? = some (.cells (encC z).toArray 62) → (loadVar 37 ⟨b, 0, none⟩).run Try.prog W' = .ok (.agg (z.1.1.map B8).toArray) W' := fun z b W' hb => by
    refine run_loadV (g := ⟨fun _ _ => none, [], []⟩) (Tab.get_ok tab_ok (t := 37) (i := ti37) rfl) (a := .ba z.1.1) (.ba z.2.1) fun j u hu => ?_
    unfold World.cell?
    rw [show W'.heap[(⟨b, 0 + j, none⟩ : Addr).block]? = _ from hb]
    show (encC z).toArray[0 + j]? = some u
    rw [Nat.zero_add, List.getElem?_toArray, encC, List.getElem?_append_left (by have := (List.getElem?_eq_some_iff.1 hu).1; exact this)]
    exact hu
  have b1 : ((W.alloc (.cells (encC x).toArray 62)).alloc (.cells (encC y).toArray 62)).heap[W.heap.size]? = some (.cells (encC x).toArray 62) := by
    have h := new_at W (.cells (encC x).toArray 62)
    have hs := size_alloc W (.cells (encC x).toArray 62)
    show ((W.alloc _).heap.push _)[W.heap.size]? = _
    rw [Array.getElem?_push_lt (by omega)]
    rw [Array.getElem?_eq_getElem (by omega)] at h
    exact h
  have b2 : ((W.alloc (.cells (encC x).toArray 62)).alloc (.cells (encC y).toArray 62)).heap[W.heap.size + 1]? = some (.cells (encC y).toArray 62) := by
    have h := new_at (W.alloc (.cells (encC x).toArray 62)) (.cells (encC y).toArray 62)
    rw [size_alloc] at h
    exact h
  go_enter Try.func134, Try.ntmps134
  iterate 21 go_step
  refine op_ld (ld x _ _ b1) rfl rfl ?_
  iterate 5 go_step
  refine op_ld (ld y _ _ b2) rfl rfl ?_
  go_wp2_with (first | (go_at_call 22; refine (hc _).mono ?_; rintro e w' ⟨rfl, q, os, rfl⟩))
  go_ret
  exact ⟨rfl, q, _, by rw [Sort.alloc_eq_grow, Sort.alloc_eq_grow, Sort.grow_grow]; show Sort.grow (Sort.grow (W.drewN q) _) os = _; rw [Sort.grow_grow]⟩
end Go.Proofs.Ythphhnkoilcofaa
/- Entries sorted in their block. -/
namespace Go.Proofs.Ythphhnkoilcofaa
open Go Go.RowKit
theorem flat_cel (cs : List Cel) : cs.flatMap encC = (List.range cs.length).flatMap fun k => encC cs[k]! := by
  have h : ∀ (l : List Cel), l = (List.range l.length).map fun k => l[k]! := fun l => by
    apply List.ext_getElem?
    intro i
    rw [List.getElem?_map]
    by_cases hi : i < l.length
    · rw [List.getElem?_range hi, List.getElem?_eq_getElem hi]; simp [hi]
    · rw [List.getElem?_eq_none (by omega), List.getElem?_eq_none (by simpa using hi)]; rfl
  conv => lhs; rw [h cs]
  rw [List.flatMap_map]
theorem flatK_cel (cs : List Cel) : Go.Sort.flatK encC 33 cs.toArray = (cs.flatMap encC).toArray := by
  have hl : (cs.flatMap encC).length = cs.length * 33 := by rw [flat_cel]; exact flat_len _ fun k _ => encC_len _
  apply Array.ext_getElem?
  intro j
  by_cases hj : j < cs.length * 33
  · have h1 : j / 33 < cs.length := by omega
    have hx : (encC cs[j / 33]!)[j % 33]? = some ((encC cs[j / 33]!)[j % 33]'(by rw [encC_len]; omega)) := List.getElem?_eq_getElem _
    have := flat_get (F := fun k => encC cs[k]!) (s := 33) cs.length (fun k _ => encC_len _) (j / 33) (j % 33) _ h1 hx
    rw [show j / 33 * 33 + j % 33 = j by omega, ← flat_cel] at this
    have eR : (cs.flatMap encC).toArray[j]? = some ((encC cs[j / 33]!)[j % 33]'(by rw [encC_len]; omega)) := by rw [List.getElem?_toArray]; exact this
    have e := Go.Sort.get_flatK encC 33 cs.toArray j (by simpa using hj)
    rw [eR, Array.getElem?_eq_getElem (by simpa using hj)]
    congr 1
    rw [getElem!_pos (Go.Sort.flatK encC 33 cs.toArray) j (by simpa using hj)] at e
    rw [e]
    have e2 : (cs.toArray)[j / 33]! = cs[j / 33]! := by simp [h1]
    rw [e2, getElem!_pos (encC cs[j / 33]!) (j % 33) (by rw [encC_len]; omega)]
  · rw [Array.getElem?_eq_none (by simpa using hj), Array.getElem?_eq_none (by simp [hl]; omega)]
theorem swo_C : Go.Sort.SWO (ltOf cfC) := by
  have tot : ∀ p q : List UInt8, p.length = 32 → q.length = 32 → p = q ∨ ltB p q ∨ ltB q p := fun p q hp hq => by
    by_cases h : com p q < 256
    · have h1 := com_agree p q; have h2 := com_ne p q h
      cases hb : bitN p (com p q) with
      | false => exact .inr (.inl ⟨_, h, h1, hb, by rw [hb] at h2; simpa using h2.symm⟩)
      | true => exact .inr (.inr ⟨_, h, h1.symm, by rw [hb] at h2; simpa using h2.symm, hb⟩)
    · exact .inl (agree_eq hp hq fun t ht => com_agree p q t (by omega))
  have e : ∀ x y : Cel, ltOf cfC x y = true ↔ ltB x.1.1 y.1.1 := fun x y => by
    unfold ltOf cfC; rw [decide_eq_true_eq]; exact cmp_ltB x.2.1 y.2.1
  have en : ∀ x y : Cel, ltOf cfC x y = false ↔ ¬ ltB x.1.1 y.1.1 := fun x y => by rw [← e, Bool.not_eq_true]
  refine ⟨fun x => (en x x).2 fun h => h.irr, fun x y z h1 h2 => (e x z).2 (((e x y).1 h1).trans ((e y z).1 h2)), fun x y z h1 h2 => (en x z).2 fun h => ?_⟩
  have h1 := (en x y).1 h1; have h2 := (en y z).1 h2
  rcases tot x.1.1 y.1.1 x.2.1 y.2.1 with q | q | q
  · rw [q] at h; exact h2 h
  · exact h1 q
  · exact h2 (q.trans h)
theorem srt_blk (cs : List Cel) (sp : List Value) (b cap : Nat) {t : TypeId} (w : World) (hb : Blk w b t (cs.flatMap encC ++ sp).toArray) (hsz : cs.length < 4611686018427387904) :
    Calls Try.prog 133 #[.slice (some ⟨b, 0, none⟩) cs.length cap, .func (.func 134) #[] #[]] w fun e w' => e = .returned (.tuple #[]) ∧
      ∃ ds : List Cel, ds.Perm cs ∧ (∀ i j, i < j → j < ds.length → ltOf cfC ds[j]! ds[i]! = false) ∧ Blk w' b t (ds.flatMap encC ++ sp).toArray ∧ (∀ j, j < w.heap.size → j ≠ b → w'.heap[j]? = w.heap[j]?) ∧ w.heap.size ≤ w'.heap.size ∧ w'.os = w.os ∧ w'.tape = w.tape ∧ w'.output = w.output := by
  have hl : (cs.flatMap encC).length = cs.length * 33 := by rw [flat_cel]; exact flat_len _ fun k _ => encC_len _
  have hH : Go.Sort.HoldsK encC 33 w b 0 cs.toArray := fun j hj => by
    have hj' : j < cs.length * 33 := by simpa using hj
    refine ⟨?_, frozen_of_row w b (0 + j) _ t hb⟩
    rw [hb.cell, Nat.zero_add, List.getElem?_toArray, List.getElem?_append_left (by omega), flatK_cel]
    rw [List.getElem?_eq_getElem (by omega)]
    simp [hl, hj', getElem!_pos]
  have h := AnyQ.slices_SortFunc srtL 33 Try.isAgg62 Try.sizeOf62 encC encC_len encC_one cfC swo_C 134 #[] b 0 cap cs.toArray w (enters_of Try.func134 (by kernel_rfl) rfl) (fun _ _ _ _ x y => srt_cmp x y _) hH hb.lt (by simpa using hsz)
  refine h.mono ?_
  rintro e w' ⟨rfl, d', n, os, ⟨p1, _, p3⟩, hs, rfl⟩
  have hsz' : d'.size = cs.length := by simpa using p1
  refine ⟨rfl, d'.toList, ?_, fun i j hij hj => ?_, ?_, fun j hj hne => ?_, ?_, rfl, rfl, rfl⟩
  · have e1 : (d'.extract 0 cs.toArray.size) = d' := by rw [← p1, Array.extract_size]
    have e2 : (cs.toArray.extract 0 cs.toArray.size) = cs.toArray := by rw [Array.extract_size]
    rw [e1, e2] at p3
    exact p3
  · have := hs i j (Nat.zero_le _) hij (by simp at hj ⊢; omega)
    rw [getElem!_pos d'.toList j hj, getElem!_pos d'.toList i (by omega)]
    rw [getElem!_pos d' j (by simpa using hj), getElem!_pos d' i (by simp at hj; omega)] at this
    simpa using this
  · have hsz2 : (d'.toList.flatMap encC).length = cs.length * 33 := by rw [flat_cel, flat_len _ fun k _ => encC_len _]; simp [hsz']
    have hblt := hb.lt
    unfold Blk at hb ⊢
    simp only [sortWorldK, Go.Sort.putRowK, Go.Sort.grow, Go.Sort.putRow, Go.Sort.mapBlock, Go.Sort.ahead]
    rw [Array.getElem?_append_left (by simpa using hblt), Array.getElem?_modify, if_pos rfl, hb]
    simp only [Option.map_some, Go.Sort.onCells]
    congr 2
    have ef := flatK_cel d'.toList
    rw [Array.toArray_toList] at ef
    apply Array.ext_getElem?
    intro j
    simp only [Go.Sort.putCells, Array.getElem?_mapIdx, List.getElem?_toArray, Nat.zero_le, true_and, Nat.zero_add, Nat.sub_zero, List.size_toArray]
    rw [ef]
    by_cases hj : j < cs.length * 33
    · rw [List.getElem?_append_left (by omega), List.getElem?_append_left (by omega)]
      simp [hj, getElem!_pos, hl, hsz2]
    · rw [List.getElem?_append_right (by omega), List.getElem?_append_right (by omega), hl, hsz2]
      simp only [List.size_toArray, hsz2]
      cases sp[j - cs.length * 33]? with
      | none => rfl
      | some x => simp [hj]
  · simp only [sortWorldK, Go.Sort.putRowK, Go.Sort.grow, Go.Sort.putRow, Go.Sort.mapBlock, Go.Sort.ahead]
    rw [Array.getElem?_append_left (by simpa using hj), Array.getElem?_modify, if_neg (fun e => hne e.symm)]
  · simp [sortWorldK, Go.Sort.putRowK, Go.Sort.grow, Go.Sort.putRow, Go.Sort.mapBlock, Go.Sort.ahead]
end Go.Proofs.Ythphhnkoilcofaa
/- Entries by rising key; slices.SortFunc in values. -/
namespace Go.Proofs.Ythphhnkoilcofaa
open Go Go.RowKit
abbrev Pr := List UInt8 × List UInt8
abbrev prT : Ty := .cn (.ba 32) (.cn .sc .nl)
def prA (p : Pr) : AV := .st [.ba p.1, .bs p.2 none]
def K32 (l : List Pr) : Prop := ∀ x ∈ l, x.1.length = 32
def Dis (l : List Pr) : Prop := l.Pairwise fun x y => x.1 ≠ y.1
def Ris (l : List Pr) : Prop := l.Pairwise fun x y => ltB x.1 y.1
theorem ltB_tot {p q : List UInt8} (hp : p.length = 32) (hq : q.length = 32) : p = q ∨ ltB p q ∨ ltB q p := by
  by_cases h : com p q < 256
  · have h1 := com_agree p q; have h2 := com_ne p q h
    cases hb : bitN p (com p q) with
    | false => exact .inr (.inl ⟨_, h, h1, hb, by rw [hb] at h2; simpa using h2.symm⟩)
    | true => exact .inr (.inr ⟨_, h, h1.symm, by rw [hb] at h2; simpa using h2.symm, hb⟩)
  · exact .inl (agree_eq hp hq fun t ht => com_agree p q t (by omega))
def ins (p : Pr) : List Pr → List Pr
  | [] => [p]
  | q :: l => if Lib.compareBytes p.1 q.1 < 0 then p :: q :: l else q :: ins p l
theorem ins_perm (p : Pr) : ∀ l, (ins p l).Perm (p :: l)
  | [] => .refl _
  | q :: l => by
    unfold ins
    split
    · exact .refl _
    · exact ((ins_perm p l).cons q).trans (.swap p q l)
def srt (l : List Pr) : List Pr := l.foldr ins []
theorem srt_perm : ∀ l, (srt l).Perm l
  | [] => .refl _
  | p :: l => (ins_perm p (srt l)).trans ((srt_perm l).cons p)
theorem ins_ris (p : Pr) (hp : p.1.length = 32) : ∀ l, K32 l → Ris l → (∀ x ∈ l, p.1 ≠ x.1) → Ris (ins p l)
  | [], _, _, _ => by unfold ins Ris; simp
  | q :: l, hk, hr, hn => by
    obtain ⟨h1, h2⟩ := List.pairwise_cons.1 hr
    have hq := hk q List.mem_cons_self
    have hc : Lib.compareBytes p.1 q.1 < 0 ↔ ltB p.1 q.1 := cmp_ltB hp hq
    unfold ins
    split
    · rename_i hlt
      refine List.pairwise_cons.2 ⟨fun y hy => ?_, hr⟩
      rcases List.mem_cons.1 hy with rfl | hy
      · exact hc.1 hlt
      · exact (hc.1 hlt).trans (h1 y hy)
    · rename_i hlt
      refine List.pairwise_cons.2 ⟨fun y hy => ?_, ins_ris p hp l (fun x hx => hk x (List.mem_cons_of_mem _ hx)) h2 fun x hx => hn x (List.mem_cons_of_mem _ hx)⟩
      rcases List.mem_cons.1 ((ins_perm p l).mem_iff.1 hy) with rfl | hy
      · rcases ltB_tot hp hq with e | e | e
        · exact absurd e (hn q List.mem_cons_self)
        · exact absurd (hc.2 e) hlt
        · exact e
      · exact h1 y hy
theorem K32.perm {l m : List Pr} (h : K32 l) (hp : m.Perm l) : K32 m := fun x hx => h x (hp.mem_iff.1 hx)
theorem srt_ris : ∀ l, K32 l → Dis l → Ris (srt l)
  | [], _, _ => List.Pairwise.nil
  | p :: l, hk, hd => by
    obtain ⟨h1, h2⟩ := List.pairwise_cons.1 hd
    have hk2 : K32 l := fun x hx => hk x (List.mem_cons_of_mem _ hx)
    exact ins_ris p (hk p List.mem_cons_self) (srt l) (hk2.perm (srt_perm l)) (srt_ris l hk2 h2) fun x hx => h1 x ((srt_perm l).mem_iff.1 hx)
theorem ris_uniq : ∀ l m : List Pr, Ris l → Ris m → l.Perm m → l = m
  | [], m, _, _, h => (List.nil_perm.1 h).symm
  | a :: l, [], _, _, h => absurd h.length_eq (by simp)
  | a :: l, b :: m, h1, h2, h => by
    obtain ⟨a1, a2⟩ := List.pairwise_cons.1 h1
    obtain ⟨b1, b2⟩ := List.pairwise_cons.1 h2
    have e : a = b := by
      rcases List.mem_cons.1 (h.mem_iff.1 List.mem_cons_self) with e | e
      · exact e
      · rcases List.mem_cons.1 (h.symm.mem_iff.1 List.mem_cons_self) with e2 | e2
        · exact e2.symm
        · exact ((a1 b e2).trans (b1 a e)).irr.elim
    subst e
    rw [ris_uniq l m a2 b2 (List.Perm.cons_inv h)]
theorem perm_lift {α β : Type} {f : α → β} {cs ds : List β} (h : cs.Perm ds) : ∀ z : List α, z.map f = cs → ∃ z', z.Perm z' ∧ z'.map f = ds := by
  induction h with
  | nil => intro z hz; exact ⟨z, .refl _, hz⟩
  | cons x h ih =>
    intro z hz
    cases z with
    | nil => cases hz
    | cons y z =>
      simp only [List.map_cons, List.cons.injEq] at hz
      obtain ⟨z', h1, h2⟩ := ih z hz.2
      exact ⟨y :: z', h1.cons y, by simp [hz.1, h2]⟩
  | swap x y l =>
    intro z hz
    match z, hz with
    | a :: b :: z, hz =>
      simp only [List.map_cons, List.cons.injEq] at hz
      exact ⟨b :: a :: z, .swap b a z, by simp [hz.1, hz.2.1, hz.2.2]⟩
  | trans h1 h2 ih1 ih2 =>
    intro z hz
    obtain ⟨z', k1, k2⟩ := ih1 z hz
    obtain ⟨z'', k3, k4⟩ := ih2 z' k2
    exact ⟨z'', k1.trans k3, k4⟩
/-- What the sort leaves is the sorted list, entry by entry. -/
theorem srt_of (zs : List (Pr × Cel)) (hz : ∀ z ∈ zs, z.2.1.1 = z.1.1) (hd : Dis (zs.map (·.1))) {ds : List Cel} (hp : ds.Perm (zs.map (·.2))) (hs : ∀ i j, i < j → j < ds.length → ltOf cfC ds[j]! ds[i]! = false) :
    ∃ z' : List (Pr × Cel), z'.Perm zs ∧ z'.map (·.2) = ds ∧ z'.map (·.1) = srt (zs.map (·.1)) := by
  obtain ⟨z', h1, h2⟩ := perm_lift hp.symm zs rfl
  refine ⟨z', h1.symm, h2, ?_⟩
  have hk : K32 (zs.map (·.1)) := fun x hx => by
    obtain ⟨z, hz1, rfl⟩ := List.mem_map.1 hx
    rw [← hz z hz1]; exact z.2.2.1
  have hpm : (z'.map (·.1)).Perm (zs.map (·.1)) := (h1.map _).symm
  refine ris_uniq _ _ ?_ (srt_ris _ hk hd) (hpm.trans (srt_perm _).symm)
  have hd' : Dis (z'.map (·.1)) := (hpm.pairwise_iff (fun h => h.symm)).2 hd
  unfold Ris
  rw [List.pairwise_iff_getElem]
  intro i j hi hj hij
  have hj' : j < z'.length := by simpa using hj
  have hi' : i < z'.length := by omega
  have hne := (List.pairwise_iff_getElem.1 hd') i j hi hj hij
  rw [List.getElem_map, List.getElem_map] at hne ⊢
  have hzi : z'[i].2.1.1 = z'[i].1.1 := hz _ (h1.symm.mem_iff.1 (List.getElem_mem hi'))
  have hzj : z'[j].2.1.1 = z'[j].1.1 := hz _ (h1.symm.mem_iff.1 (List.getElem_mem hj'))
  have hs' := hs i j hij (by rw [← h2]; simpa using hj')
  have ei : ds[i]! = z'[i].2 := by rw [← h2]; simp [hi']
  have ej : ds[j]! = z'[j].2 := by rw [← h2]; simp [hj']
  rw [ei, ej] at hs'
  unfold ltOf cfC at hs'
  rw [decide_eq_false_iff_not, cmp_ltB z'[j].2.2.1 z'[i].2.2.1, hzi, hzj] at hs'
  have l1 : z'[i].1.1.length = 32 := by rw [← hzi]; exact z'[i].2.2.1
  have l2 : z'[j].1.1.length = 32 := by rw [← hzj]; exact z'[j].2.2.1
  rcases ltB_tot l1 l2 with e | e | e
  · exact absurd e hne
  · exact e
  · exact absurd e hs'
end Go.Proofs.Ythphhnkoilcofaa
/- slices.SortFunc in values: a box that grows holds the entries sorted. -/
namespace Go.Proofs.Ythphhnkoilcofaa
open Go Go.RowKit
theorem pr_cel {g : Gh} {p : Pr} {cs : List Value} (h : RC g prT (prA p) cs) : ∃ c : Cel, c.1.1 = p.1 ∧ cs = encC c := by
  unfold prA at h
  obtain ⟨c, d, rfl, h1, h2⟩ := h.st_inv
  obtain ⟨c2, d2, rfl, h3, h4⟩ := h2.st_inv
  obtain ⟨e1, rfl⟩ := h1.ba_inv
  injection e1 with e1
  obtain ⟨_, A, c, rfl, _⟩ := h3.bs_inv
  cases h4
  exact ⟨⟨(p.1, .slice A p.2.length c), e1.symm, rfl⟩, rfl, by simp [encC]⟩
theorem zip_of {g : Gh} {F : Nat → List Value} : ∀ (l : List Pr) (s : Nat), (∀ k (h : k < l.length), RC g prT (prA l[k]) (F (s + k))) → ∃ zs : List (Pr × Cel), zs.map (·.1) = l ∧ (∀ z ∈ zs, z.2.1.1 = z.1.1 ∧ RC g prT (prA z.1) (encC z.2)) ∧ (List.range l.length).flatMap (fun k => F (s + k)) = (zs.map (·.2)).flatMap encC
  | [], _, _ => ⟨[], rfl, (fun z hz => (by cases hz)), rfl⟩
  | p :: l, s, h => by
    obtain ⟨zs, h1, h2, h3⟩ := zip_of l (s + 1) fun k hk => by
      have := h (k + 1) (by simpa using hk)
      rw [show s + 1 + k = s + (k + 1) by omega]
      simpa using this
    have h0 := h 0 (by simp)
    simp only [List.getElem_cons_zero, Nat.add_zero] at h0
    obtain ⟨c, hc1, hc2⟩ := pr_cel h0
    refine ⟨(p, c) :: zs, by simp [h1], fun z hz => ?_, ?_⟩
    · rcases List.mem_cons.1 hz with rfl | hz
      · exact ⟨hc1, by rw [← hc2]; exact h0⟩
      · exact h2 z hz
    · rw [List.length_cons, List.range_succ_eq_map, List.flatMap_cons, List.flatMap_map, Nat.add_zero, hc2]
      simp only [List.map_cons, List.flatMap_cons]
      congr 1
      rw [← h3]
      congr 1
      funext k
      show F (s + (k + 1)) = F (s + 1 + k)
      congr 1; omega
theorem sort_v (l : List Pr) (γ : Nat) (hd : Dis l) (hn : l.length ≤ 4294967296) : VX Try.prog 133 [(.vc 62 prT, .vc γ (l.map prA))] [] [] [.vw 0 γ l.length, .v (.func (.func 134) #[] #[])]
    [(.vc 62 prT, .vc γ ((srt l).map prA))] [] [] (.tup []) := by
  refine ⟨⟨Try.f133, Try.func133, by kernel_rfl, by kernel_rfl⟩, fun w N vs HI hlen hv => ?_⟩
  obtain ⟨v, u, rfl⟩ : ∃ v u, vs = [v, u] := by
    match vs, hlen with
    | [v, u], _ => exact ⟨v, u, rfl⟩
  have h0 := hv 0 _ v rfl rfl
  have hu := (hv 1 _ u rfl rfl).v_inv
  subst hu
  obtain ⟨_, y, e9, T9, A, c, e1, hy, hty, hle, hnc, hm, hxx⟩ := h0.vw_inv.vw_inv
  injection e1 with e1; subst e1
  obtain ⟨y', hy', hyT, hbc⟩ := HI.br.at_ 0 _ _ (by rfl)
  rw [hy] at hy'; injection hy' with hy'; subst hy'
  obtain ⟨T2, F, sp, ⟨e4, he4, htid⟩, hmp, hgen, hT0, hcm, hcs, hcl, hsp, hFk⟩ := hbc.vc_inv
  injection he4 with he40 he41; subst he40 he41
  obtain ⟨hcc, hA⟩ := hxx hgen
  have hlm : (l.map prA).length = l.length := List.length_map ..
  obtain ⟨zs, z1, z2, z3⟩ := zip_of (g := N.base) (F := F) l 0 fun k hk => by
    have := hFk k (by rw [hlm]; exact hk)
    rw [List.getElem_map] at this
    rw [Nat.zero_add]; exact this
  simp only [Nat.zero_add] at z3
  have hzl : zs.length = l.length := by rw [← z1, List.length_map]
  have hfz : y.fz = false := by
    cases e : y.fz with
    | false => rfl
    | true => exact absurd (HI.fz 0 y hy e) (by simp)
  rw [hlm] at hcs
  rcases hA with ⟨ho, rfl⟩ | ⟨ho, rfl⟩
  · have hc0 := hcm.2 ho
    have hl0 : l = [] := List.length_eq_zero_iff.1 (by omega)
    subst hl0
    refine (AnyF.slices_SortFunc_none srtL none c _ w).mono ?_
    rintro e w' ⟨rfl, rfl⟩
    exact ⟨N, _, rfl, HI, ⟨[], rfl, rfl, fun i a u ha _ => by simp at ha⟩⟩
  · have hblk := (HI.mem.bx 0 y hy ho).c hmp
    rw [htid, hcs, z3] at hblk
    have hsb := srt_blk (zs.map (·.2)) sp y.blk c w hblk (by rw [List.length_map]; omega)
    rw [List.length_map, hzl] at hsb
    refine hsb.mono ?_
    rintro e w' ⟨rfl, ds, hp, hs, hb2, hold, hsz, ho2, ht2, hu2⟩
    obtain ⟨z', p1, p2, p3⟩ := srt_of zs (fun z hz => (z2 z hz).1) (by rw [z1]; exact hd) hp hs
    rw [z1] at p3
    have hz'l : z'.length = l.length := by rw [← hzl]; exact p1.length_eq
    have hsl : (srt l).length = l.length := (srt_perm l).length_eq
    have hds : ds.flatMap encC = (List.range l.length).flatMap fun k => encC ds[k]! := by
      rw [flat_cel, show ds.length = l.length by rw [← p2, List.length_map, hz'l]]
    have hF2 : ∀ k, k < l.length → RC N.base prT (prA ((srt l)[k]!)) (encC ds[k]!) := fun k hk => by
      have hk' : k < z'.length := by omega
      have e1 : ds[k]! = z'[k].2 := by rw [← p2]; simp [hk']
      have e2 : (srt l)[k]! = z'[k].1 := by rw [← p3]; simp [hk']
      rw [e1, e2]
      exact (z2 _ (p1.mem_iff.1 (List.getElem_mem hk'))).2
    have hlen2 : (ds.flatMap encC).length = (zs.map (·.2)).length * 33 := by rw [hds, flat_len _ fun k _ => encC_len _, List.length_map, hzl]
    have hlen1 : ((zs.map (·.2)).flatMap encC).length = (zs.map (·.2)).length * 33 := by rw [flat_cel, flat_len _ fun k _ => encC_len _]
    obtain ⟨g', h1, h2, h3⟩ := HI.upd (x' := { y with cells := ds.flatMap encC ++ sp }) (w' := w') (a := .vc γ ((srt l).map prA)) hy (by simp)
      (by unfold Bx.own; rw [ho]; exact ⟨ho2, ht2, hu2, hsz, fun k hk hne => hold k hk (fun e => hne (by rw [e]; rfl))⟩) rfl hfz (Nat.le_refl _) (fun _ => ⟨rfl, rfl, rfl⟩)
      (fun _ => ⟨.of hmp (by show Blk w' y.blk y.tid _; rw [htid]; exact hb2), .inr ⟨ho, rfl⟩⟩) (fun e => by rw [show ({ y with cells := ds.flatMap encC ++ sp } : Bx).off = y.off from rfl, ho] at e; cases e) (fun e => by rw [show ({ y with cells := ds.flatMap encC ++ sp } : Bx).mp = y.mp from rfl, hmp] at e; cases e)
      (by
        rw [hyT]
        refine .inr (.inl ⟨prT, γ, (srt l).map prA, fun k => encC ds[k]!, sp, ⟨_, rfl, htid⟩, rfl, hmp, hgen, hT0, hcm, ?_, ?_, hsp, fun k hk => ?_⟩)
        · show ds.flatMap encC ++ sp = _
          rw [hds, List.length_map, hsl]
        · show (ds.flatMap encC ++ sp).length = _
          rw [← hcl, hcs, z3, List.length_append, List.length_append, hlen2, hlen1]
        · rw [List.length_map] at hk
          rw [List.getElem_map]
          have := hF2 k (by omega)
          rw [getElem!_pos (srt l) k hk] at this
          exact this)
    rw [hyT] at h2
    exact ⟨g', _, rfl, h2, ⟨[], rfl, rfl, fun i a u ha _ => by simp at ha⟩⟩
end Go.Proofs.Ythphhnkoilcofaa
/- The arguments of a statement, as values; what a statement's form asks for, out of a contract in values. -/
namespace Go.Proofs.Ythphhnkoilcofaa
open Go Go.RowKit
theorem bulk_part {H : Type} {d : DataW H} : ∀ {l : List (DataW H)}, d ∈ l → Rows.uptoBulk d ≤ Rows.uptoBulkAll l
  | x :: l, h => by
    rcases List.mem_cons.1 h with e | e
    · subst e; simp only [Rows.uptoBulkAll]; omega
    · have := bulk_part e; simp only [Rows.uptoBulkAll]; omega
theorem bulk_one {H : Type} (d : DataW H) : 1 ≤ Rows.uptoBulk d := by
  cases d with
  | lit l => cases l <;> simp [Rows.uptoBulk]
  | _ => simp [Rows.uptoBulk]
theorem bulk_len {H : Type} : ∀ l : List (DataW H), l.length ≤ Rows.uptoBulkAll l
  | [] => by simp
  | x :: l => by have := bulk_one x; have := bulk_len l; simp only [Rows.uptoBulkAll, List.length_cons]; omega
def isU8 (τ : Tab) (e : Nat) : Bool := match Tab.get e τ with
  | some j => (match j.d with | .int .u8 => true | _ => false)
  | none => false
def tyOf (τ : Tab) (e : Nat) : Ty := match Tab.get e τ with
  | some j => j.ty
  | none => .sc
def ShL (f : Nat → AV → Prop) : List Nat → List AV → Prop
  | [], [] => True
  | t :: ts, a :: az => f t a ∧ ShL f ts az
  | _, _ => False
/-- The values that a type may have: each stretch no longer than M. -/
def Sh (τ : Tab) (M : Nat) : Nat → Nat → AV → Prop
  | 0, _, _ => False
  | d + 1, t, a => match (Tab.get t τ).map TI.d with
    | some (.int k) => ∃ n, a = .v (.int k n) ∧ ilo k ≤ n ∧ n ≤ ihi k
    | some .bool => ∃ b, a = .v (.bool b)
    | some .str => ∃ s : ByteArray, a = .v (.string s) ∧ s.size ≤ M
    | some (.slc e) => if isU8 τ e then ∃ l, a = .bs l none ∧ l.length ≤ M else ∃ es, a = .sl (tyOf τ e) es none ∧ es.length ≤ M ∧ ∀ x ∈ es, Sh τ M d e x
    | some (.arr n _) => ∃ l, a = .ba l ∧ l.length = n
    | some (.rcd fs) => ∃ az, a = .st az ∧ ShL (Sh τ M d) (fs.map (·.2)) az
    | _ => False
def lay (τ : Tab) : List (Nat × Nat) → Nat → Ty → Bool
  | [], _, .nl => true
  | (o, t) :: fs, off, .cn T Ts => o == off && (Tab.get t τ).isSome && tyOf τ t == T && lay τ fs (off + T.size) Ts
  | _, _, _ => false
def okT (τ : Tab) : Nat → Nat → Bool
  | 0, _ => false
  | d + 1, t => match Tab.get t τ with
    | some i => (match i.d with
      | .int _ => i.ty == .sc
      | .bool => i.ty == .sc
      | .str => i.ty == .sc
      | .slc e => i.ty == .sc && (Tab.get e τ).isSome && decide (0 < (tyOf τ e).size) && (isU8 τ e && tyOf τ e == .sc || !isU8 τ e && okT τ d e)
      | .arr n e => isU8 τ e && i.ty == .ba n && tyOf τ e == .sc
      | .rcd fs => lay τ fs 0 i.ty && i.ty.agg && fs.all fun f => okT τ d f.2
      | _ => false)
    | none => false
section
variable {τ : Tab} {M d t : Nat} {a : AV} {i : TI}
theorem Sh.int {k : IntKind} (ht : Tab.get t τ = some i) (hd : i.d = .int k) (h : Sh τ M (d + 1) t a) : ∃ n, a = .v (.int k n) ∧ ilo k ≤ n ∧ n ≤ ihi k := by
  unfold Sh at h; simp only [ht, Option.map_some, hd] at h; exact h
theorem Sh.bool (ht : Tab.get t τ = some i) (hd : i.d = .bool) (h : Sh τ M (d + 1) t a) : ∃ b, a = .v (.bool b) := by
  unfold Sh at h; simp only [ht, Option.map_some, hd] at h; exact h
theorem Sh.str (ht : Tab.get t τ = some i) (hd : i.d = .str) (h : Sh τ M (d + 1) t a) : ∃ s : ByteArray, a = .v (.string s) ∧ s.size ≤ M := by
  unfold Sh at h; simp only [ht, Option.map_some, hd] at h; exact h
theorem Sh.bytes {e : Nat} (ht : Tab.get t τ = some i) (hd : i.d = .slc e) (hu : isU8 τ e = true) (h : Sh τ M (d + 1) t a) : ∃ l, a = .bs l none ∧ l.length ≤ M := by
  unfold Sh at h; simp only [ht, Option.map_some, hd, hu, if_true] at h; exact h
theorem Sh.slc {e : Nat} (ht : Tab.get t τ = some i) (hd : i.d = .slc e) (hu : isU8 τ e = false) (h : Sh τ M (d + 1) t a) : ∃ es, a = .sl (tyOf τ e) es none ∧ es.length ≤ M ∧ ∀ x ∈ es, Sh τ M d e x := by
  unfold Sh at h; simp only [ht, Option.map_some, hd, hu, Bool.false_eq_true, if_false] at h; exact h
theorem Sh.arr {n e : Nat} (ht : Tab.get t τ = some i) (hd : i.d = .arr n e) (h : Sh τ M (d + 1) t a) : ∃ l, a = .ba l ∧ l.length = n := by
  unfold Sh at h; simp only [ht, Option.map_some, hd] at h; exact h
theorem Sh.rcd {fs : List (Nat × Nat)} (ht : Tab.get t τ = some i) (hd : i.d = .rcd fs) (h : Sh τ M (d + 1) t a) : ∃ az, a = .st az ∧ ShL (Sh τ M d) (fs.map (·.2)) az := by
  unfold Sh at h; simp only [ht, Option.map_some, hd] at h; exact h
theorem shl_nil {f : Nat → AV → Prop} {az : List AV} (h : ShL f [] az) : az = [] := by
  cases az with
  | nil => rfl
  | cons _ _ => exact h.elim
theorem shl_cons {f : Nat → AV → Prop} {t : Nat} {ts : List Nat} {az : List AV} (h : ShL f (t :: ts) az) : ∃ a r, az = a :: r ∧ f t a ∧ ShL f ts r := by
  cases az with
  | nil => exact h.elim
  | cons a r => exact ⟨a, r, rfl, h.1, h.2⟩
/-- Elements, each of a form. -/
theorem sh_list {α : Type} {p : AV → Prop} {q : α → Prop} {f : α → AV} (hp : ∀ x, p x → ∃ y, x = f y ∧ q y) : ∀ {es : List AV}, (∀ x ∈ es, p x) → ∃ ys : List α, es = ys.map f ∧ ∀ y ∈ ys, q y
  | [], _ => ⟨[], rfl, fun y h => by cases h⟩
  | x :: es, h => by
    obtain ⟨y, rfl, hy⟩ := hp x (h x List.mem_cons_self)
    obtain ⟨ys, rfl, hys⟩ := sh_list hp (es := es) fun x hx => h x (List.mem_cons_of_mem _ hx)
    exact ⟨y :: ys, rfl, fun z hz => by rcases List.mem_cons.1 hz with e | e; (subst e; exact hy); exact hys z e⟩
theorem u8_of {n : Int} (h : ilo .u8 ≤ n ∧ n ≤ ihi .u8) : ∃ k : UInt8, Value.int .u8 n = B8 k := ⟨UInt8.ofNat n.toNat, by
  simp only [ilo, ihi] at h
  simp only [B8, UInt8.toNat_ofNat']
  congr 1; omega⟩
end
/-- All cells of a memory. -/
def allOf (w : World) : Gh := ⟨fun b o => w.cell? ⟨b, o, none⟩, [], []⟩
section
variable {H : Type} {enc : TypeId × Value → H} {P : Program} {τ : Tab} {w : World} {sp : Nat → Bool} {held : Bool} {M : Nat}
theorem wf_lohi {k : IntKind} {n : Int} (h : (Lit.int k n).wf = true) : ilo k ≤ n ∧ n ≤ ihi k := by
  cases k <;> simp [Lit.wf, IntKind.min, IntKind.max, IntKind.signed, IntKind.bits] at h <;> simp only [ilo, ihi] <;> omega
theorem isU8_ok (hτ : τ.ok P) {e : Nat} (h : isU8 τ e = true) : P.underlying e = some (.int .u8) := by
  unfold isU8 at h
  split at h
  · rename_i j hj
    have hok := (Tab.get_ok hτ hj).d
    split at h
    · rename_i hd; rw [hd] at hok; exact hok
    · cases h
  · cases h
theorem cells_ty (hτ : τ.ok P) {e : Nat} (h : (Tab.get e τ).isSome = true) : P.cellsOf e = (tyOf τ e).size := by
  unfold tyOf
  cases hj : Tab.get e τ with
  | none => rw [hj] at h; cases h
  | some j =>
    obtain ⟨inf, z, h1, h2, _⟩ := (Tab.get_ok hτ hj).info
    simp [Program.cellsOf, h1, h2]
theorem isU8_some {e : Nat} (h : isU8 τ e = true) : (Tab.get e τ).isSome = true := by
  unfold isU8 at h
  split at h
  · rename_i j hj; rw [hj]; rfl
  · cases h
theorem B8_of {n : Int} (h : 0 ≤ n ∧ n ≤ 255) : B8 (UInt8.ofNat n.toNat) = .int .u8 n := by
  simp only [B8, UInt8.toNat_ofNat']
  congr 1; omega
theorem trod_rc (hτ : τ.ok P) : ∀ (d : Nat) {t fuel : Nat} {cs : List Value} {x : DataW H × List MemPlace}, okT τ d t = true → DataW.trod enc P w 0 sp held fuel t cs = some x → Rows.uptoBulk x.1 ≤ M →
    ∃ a, Sh τ M d t a ∧ RC (allOf w) (tyOf τ t) a cs := by
  intro d
  induction d with
  | zero => intro t fuel cs x h; cases h
  | succ d ih =>
    intro t fuel cs x hok hx hM
    unfold okT at hok
    cases hg : Tab.get t τ with
    | none => rw [hg] at hok; cases hok
    | some i =>
    rw [hg] at hok
    have hi := Tab.get_ok hτ hg
    have hty : tyOf τ t = i.ty := by unfold tyOf; rw [hg]
    have hdd := hi.d
    have hsz : P.cellsOf t = i.ty.size := by rw [← hty]; exact cells_ty hτ (by rw [hg]; rfl)
    rw [hty]
    dsimp only at hok
    have sh : ∀ a, (match some i.d with
      | some (.int k) => ∃ n, a = AV.v (.int k n) ∧ ilo k ≤ n ∧ n ≤ ihi k
      | some .bool => ∃ b, a = .v (.bool b)
      | some .str => ∃ s : ByteArray, a = .v (.string s) ∧ s.size ≤ M
      | some (.slc e) => if isU8 τ e then ∃ l, a = .bs l none ∧ l.length ≤ M else ∃ es, a = .sl (tyOf τ e) es none ∧ es.length ≤ M ∧ ∀ x ∈ es, Sh τ M d e x
      | some (.arr n _) => ∃ l, a = .ba l ∧ l.length = n
      | some (.rcd fs) => ∃ az, a = .st az ∧ ShL (Sh τ M d) (fs.map (·.2)) az
      | _ => False) → Sh τ M (d + 1) t a := fun a h => by unfold Sh; rw [hg]; exact h
    generalize hdi : i.d = D' at hok hdd sh
    cases D' with
    | int k =>
      obtain ⟨n, rfl, rfl, hw⟩ := DataW.trod_int hdd hx
      rw [eq_of_beq hok]
      exact ⟨.v (.int k n), sh _ ⟨n, rfl, wf_lohi hw⟩, .v rfl⟩
    | bool =>
      obtain ⟨b, rfl, rfl⟩ := DataW.trod_bool hdd hx
      rw [eq_of_beq hok]
      exact ⟨.v (.bool b), sh _ ⟨b, rfl⟩, .v rfl⟩
    | str =>
      obtain ⟨s, rfl, rfl, hs⟩ := DataW.trod_string hdd hx
      rw [eq_of_beq hok]
      refine ⟨.v (.string s), sh _ ⟨s, rfl, ?_⟩, .v rfl⟩
      simp only [Rows.uptoBulk] at hM
      have : s.data.toList.length = s.size := by rw [Array.length_toList]; rfl
      omega
    | slc e =>
      simp only [Bool.and_eq_true, Bool.or_eq_true, Bool.not_eq_true', decide_eq_true_eq] at hok
      obtain ⟨⟨⟨h1, h2⟩, h3⟩, h4⟩ := hok
      have hce := cells_ty hτ h2
      rw [eq_of_beq h1]
      by_cases hu : isU8 τ e = true
      · have hu1 : tyOf τ e = .sc := by rcases h4 with h4 | h4; exact eq_of_beq h4.2; rw [h4.1] at hu; cases hu
        have hs0 : P.cellsOf e = 1 := by rw [hce, hu1]; rfl
        rcases ChangeShapes.open_ints hdd (isU8_ok hτ hu) hs0 hx with ⟨rfl, rfl⟩ | ⟨A, len, cap, zs, rfl, _, hl, hm, hz, rfl, hc, hw⟩
        · refine ⟨.bs [] none, sh _ ?_, RC.nil1 rfl⟩
          show ite _ _ _
          rw [if_pos hu]; exact ⟨[], rfl, Nat.zero_le _⟩
        · have hlz : len ≤ zs.length := by rw [hz]; split <;> omega
          have hll : ((zs.take len).map fun n => UInt8.ofNat n.toNat).length = len := by simp [hlz]
          refine ⟨.bs ((zs.take len).map fun n => UInt8.ofNat n.toNat) none, sh _ ?_, ?_⟩
          · show ite _ _ _
            rw [if_pos hu]
            refine ⟨_, rfl, ?_⟩
            rw [hll]
            simp only [Rows.uptoBulk] at hM
            have h5 := bulk_len (ChangeShapes.lits (H := H) .u8 (zs.take len))
            have h6 : (ChangeShapes.lits (H := H) .u8 (zs.take len)).length = len := by simp [ChangeShapes.lits, hlz]
            omega
          · have := RC.bs (g := allOf w) (l := (zs.take len).map fun n => UInt8.ofNat n.toNat) (tok := none) (A := some A) (c := cap) (by rw [hll]; exact hl) hm ?_ (fun i hi => by cases hi)
            · rw [hll] at this; exact this
            · rcases Nat.eq_zero_or_pos len with h0 | h0
              · left; rw [h0]; rfl
              · right
                obtain ⟨b, o, rfl, hcc⟩ := ints_at hc (by omega)
                refine ⟨b, o, rfl, fun j hj => ?_⟩
                rw [hll] at hj
                have h7 := hcc j (by omega)
                show w.cell? _ = _
                rw [h7]
                have h8 : zs.getD j 0 = zs[j]'(by omega) := by simp [List.getD, show j < zs.length by omega]
                have h9 := wf_lohi (hw _ (List.getElem_mem (show j < zs.length by omega)))
                simp only [ilo, ihi] at h9
                rw [h8]
                simp only [List.getElem_map, List.getElem_take]
                rw [B8_of h9]
      · have h4' : okT τ d e = true := by rcases h4 with h4 | h4; exact absurd h4.1 hu; exact h4.2
        rcases DataW.trod_slice hdd hx with ⟨rfl, rfl⟩ | ⟨A, len, cap, elems, rest, n, _, rfl, rfl, _, hl, hm, hlen, hel, _, _⟩
        · refine ⟨.sl (tyOf τ e) [] none, sh _ ?_, RC.nil2 rfl⟩
          show ite _ _ _
          rw [if_neg hu]; exact ⟨[], rfl, Nat.zero_le _, fun x hx => by cases hx⟩
        · simp only [Rows.uptoBulk] at hM
          have hb1 := bulk_len (elems.map (·.1))
          rw [List.length_map, hlen] at hb1
          have each : ∀ k, ∃ p : List Value × AV, k < len → w.cells? 0 (A.add (k * P.cellsOf e)) (P.cellsOf e) = some p.1 ∧ Sh τ M d e p.2 ∧ RC (allOf w) (tyOf τ e) p.2 p.1 := fun k => by
            by_cases hk : k < len
            · have h5 := hel k hk
              rw [List.getElem?_eq_getElem (by omega)] at h5
              obtain ⟨cs', h6, h7⟩ := Option.bind_eq_some_iff.1 h5
              have h8 : Rows.uptoBulk (elems[k]'(by omega)).1 ≤ M := by
                have := bulk_part (List.mem_map_of_mem (f := (·.1)) (List.getElem_mem (show k < elems.length by omega)))
                omega
              obtain ⟨a, ha1, ha2⟩ := ih h4' h7 h8
              exact ⟨(cs', a), fun _ => ⟨h6, ha1, ha2⟩⟩
            · exact ⟨([], .any), fun h => absurd h hk⟩
          obtain ⟨f, hf⟩ := Classical.axiomOfChoice each
          have hll : ((List.range len).map fun k => (f k).2).length = len := by simp
          refine ⟨.sl (tyOf τ e) ((List.range len).map fun k => (f k).2) none, sh _ ?_, ?_⟩
          · show ite _ _ _
            rw [if_neg hu]
            refine ⟨_, rfl, by rw [hll]; omega, fun x hx => ?_⟩
            obtain ⟨k, hk, rfl⟩ := List.mem_map.1 hx
            exact (hf k (List.mem_range.1 hk)).2.1
          · have := RC.sl (g := allOf w) (T := tyOf τ e) (es := (List.range len).map fun k => (f k).2) (tok := none) (A := some A) (c := cap) (by rw [hll]; exact hl) hm (fun k => (f k).1) ?_ (fun k hk => ?_) (fun i hi => by cases hi)
            · rw [hll] at this; exact this
            · rcases Nat.eq_zero_or_pos len with h0 | h0
              · left; rw [h0]; rfl
              · right
                obtain ⟨b, o, spot⟩ := A
                have hs0 : spot = none := by
                  obtain ⟨_, h6, h7⟩ := World.cells?_some (hf 0 h0).1
                  have h8 := h7 0 (by omega)
                  have : 0 < (f 0).1.length := by omega
                  rw [List.getElem?_eq_getElem this] at h8
                  have := World.cell?_spot h8
                  simpa [Addr.add] using this
                subst hs0
                refine ⟨b, o, rfl, fun k hk j u hu => ?_⟩
                rw [hll] at hk
                obtain ⟨_, h6, h7⟩ := World.cells?_some (hf k hk).1
                have hj := (List.getElem?_eq_some_iff.1 hu).1
                have h8 := h7 j (by omega)
                rw [hu, addr_add, addr_add, hce] at h8
                exact h8
            · have hk' : k < len := by rw [hll] at hk; exact hk
              simp only [List.getElem_map, List.getElem_range]
              exact (hf k hk').2.2
    | arr n e =>
      simp only [Bool.and_eq_true] at hok
      obtain ⟨⟨h1, h2⟩, h3⟩ := hok
      have hce : P.cellsOf e = 1 := by rw [cells_ty hτ (isU8_some h1), eq_of_beq h3]; rfl
      obtain ⟨xs, m, _, rfl, hcl, hxl, hx1⟩ := DataW.trod_array hdd.1 hx
      rw [eq_of_beq h2]
      have hn : cs.length = n := by rw [hcl, hsz, eq_of_beq h2]; rfl
      have key : ∀ k (hk : k < cs.length), ∃ q : Int, cs[k] = .int .u8 q ∧ 0 ≤ q ∧ q ≤ 255 := fun k hk => by
        have h5 := hx1 k (by omega)
        rw [List.getElem?_eq_getElem (by omega)] at h5
        obtain ⟨q, h6, _, h7⟩ := DataW.trod_int (isU8_ok hτ h1) h5
        rw [hce, Nat.mul_one] at h6
        have h8 : ((cs.drop k).take 1)[0]? = some (.int .u8 q) := by rw [h6]; rfl
        rw [List.getElem?_take, if_pos (by decide), List.getElem?_drop, Nat.add_zero, List.getElem?_eq_getElem hk] at h8
        injection h8 with h8
        have := wf_lohi h7
        exact ⟨q, h8, this⟩
      have hcs : cs = (cs.map fun v => match v with | .int _ q => UInt8.ofNat q.toNat | _ => 0).map B8 := by
        apply List.ext_getElem
        · simp
        · intro k hk _
          obtain ⟨q, h5, h6⟩ := key k hk
          simp only [List.getElem_map, h5]
          exact (B8_of h6).symm
      obtain ⟨l, hl⟩ : ∃ l : List UInt8, cs = l.map B8 := ⟨_, hcs⟩
      subst hl
      exact ⟨.ba l, sh _ ⟨l, rfl, by simpa using hn⟩, .ba (by simpa using hn)⟩
    | rcd fs =>
      simp only [Bool.and_eq_true, List.all_eq_true] at hok
      obtain ⟨⟨h1, h2⟩, h3⟩ := hok
      obtain ⟨F, hu, hF, _⟩ := hdd
      obtain ⟨xs, m, _, rfl, hcl, hxl, hx1⟩ := DataW.trod_struct hu hx
      simp only [Rows.uptoBulk] at hM
      rw [hsz] at hcl
      have key : ∀ (L : List (Nat × Nat)) (off : Nat) (T : Ty) (k : Nat), fs.drop k = L → lay τ L off T = true → cs.length = off + T.size → ∃ az, ShL (Sh τ M d) (L.map (·.2)) az ∧ RC (allOf w) T (.st az) (cs.drop off) := by
        intro L
        induction L with
        | nil =>
          intro off T k _ hlay hc
          cases T with
          | nl => rw [show cs.drop off = [] from List.drop_eq_nil_of_le (by rw [hc]; exact Nat.le_refl _)]; exact ⟨[], trivial, .nl⟩
          | _ => cases hlay
        | cons p L ihL =>
          intro off T k hk hlay hc
          cases T with
          | cn T Ts =>
            obtain ⟨o, ft⟩ := p
            simp only [lay, Bool.and_eq_true] at hlay
            obtain ⟨⟨⟨h4, h5⟩, h6⟩, h7⟩ := hlay
            obtain rfl := eq_of_beq h4
            obtain rfl := eq_of_beq h6
            have hfk : fs[k]? = some (o, ft) := by
              have : (fs.drop k)[0]? = some (o, ft) := by rw [hk]; rfl
              rw [List.getElem?_drop, Nat.add_zero] at this; exact this
            have hFk : ∃ fl, F[k]? = some fl ∧ fl.offset = o ∧ fl.type = ft := by
              rw [← hF, List.getElem?_map] at hfk
              obtain ⟨fl, h8, h9⟩ := Option.map_eq_some_iff.1 hfk
              simp only [Prod.mk.injEq] at h9
              exact ⟨fl, by simpa using h8, h9.1, h9.2⟩
            obtain ⟨fl, hfl, rfl, rfl⟩ := hFk
            have h8 := hx1 k fl hfl
            have hkx : k < xs.length := by rw [hxl]; have := (Array.getElem?_eq_some_iff.1 hfl).1; exact this
            rw [List.getElem?_eq_getElem hkx] at h8
            have h9 : Rows.uptoBulk xs[k].1 ≤ M := by
              have := bulk_part (List.mem_map_of_mem (f := (·.1)) (List.getElem_mem hkx))
              omega
            obtain ⟨a, ha1, ha2⟩ := ih (h3 _ (List.mem_of_getElem? hfk)) h8 h9
            obtain ⟨az, hz1, hz2⟩ := ihL (fl.offset + (tyOf τ fl.type).size) Ts (k + 1) (by rw [← List.drop_drop, hk]; rfl) h7 (by rw [hc]; simp only [Ty.size]; omega)
            refine ⟨a :: az, ⟨ha1, hz1⟩, ?_⟩
            have := RC.cn ha2 hz2
            rw [cells_ty hτ h5, ← List.drop_drop, List.take_append_drop] at this
            exact this
          | _ => cases hlay
      obtain ⟨az, hz1, hz2⟩ := key fs 0 i.ty 0 rfl h1 (by rw [hcl]; omega)
      exact ⟨.st az, sh _ ⟨az, rfl, hz1⟩, hz2⟩
    | _ => cases hok
theorem arg_rv (hτ : τ.ok P) {d t b0 : Nat} {r : Reach} {v : Value} {x : DataW H} {ps : List MemPlace} (hok : okT τ d t = true) (hval : Value.okWide P w r b0 t v) (hx : DataW.Trod enc P w 0 sp held t v x ps) (hM : Rows.uptoBulk x ≤ M) :
    ∃ a, Sh τ M d t a ∧ RV (allOf w) a v := by
  obtain ⟨fuel, hf⟩ := hx
  obtain ⟨a, h1, h2⟩ := trod_rc hτ d hok hf hM
  refine ⟨a, h1, ?_⟩
  cases d with
  | zero => cases hok
  | succ d =>
  unfold okT at hok
  cases hg : Tab.get t τ with
  | none => rw [hg] at hok; cases hok
  | some i =>
  rw [hg] at hok
  have hdd := (Tab.get_ok hτ hg).d
  have hty : tyOf τ t = i.ty := by unfold tyOf; rw [hg]
  rw [hty] at h2
  dsimp only at hok
  have hag : i.ty.agg = true → (∃ cs, v = .agg cs) → RV (allOf w) a v := fun h3 ⟨cs, hv⟩ => by
    subst hv
    refine (show RV1 (allOf w) a (.agg cs) from .inl ⟨i.ty, cs.toList, h3, h2, rfl⟩).rv
  have hsc : i.ty = .sc → v.cells.toList = [v] → RV (allOf w) a v := fun h3 hv => by
    rw [h3, hv] at h2; exact h2.rvp
  generalize i.d = D' at hok hdd
  cases D' with
  | int k => obtain ⟨n, rfl⟩ := WideShapes.okWide_int hdd hval; exact hsc (eq_of_beq hok) rfl
  | bool => obtain ⟨n, rfl⟩ := WideShapes.okWide_bool hdd hval; exact hsc (eq_of_beq hok) rfl
  | str => obtain ⟨n, rfl⟩ := WideShapes.okWide_string hdd hval; exact hsc (eq_of_beq hok) rfl
  | slc e =>
    obtain ⟨A, len, cap, rfl⟩ := WideShapes.okWide_slice hdd hval
    simp only [Bool.and_eq_true] at hok
    exact hsc (eq_of_beq hok.1.1.1) rfl
  | arr n e =>
    simp only [Bool.and_eq_true] at hok
    have hu := hdd.1
    simp only [Value.okWide, hu] at hval
    obtain ⟨cs, rfl, _⟩ := hval
    exact hag (by rw [eq_of_beq hok.1.2]; rfl) ⟨cs, rfl⟩
  | rcd fs =>
    simp only [Bool.and_eq_true] at hok
    obtain ⟨F, hu, _⟩ := hdd
    obtain ⟨cs, rfl, _⟩ := WideShapes.okWide_struct hu hval
    exact hag hok.1.2 ⟨cs, rfl⟩
  | _ => cases hok
/-- All arguments. -/
theorem args_rv (hτ : τ.ok P) {d b0 : Nat} {r : Reach} : ∀ {ts : List TypeId} {vs : List Value} {ds : List (DataW H)} {ps : List MemPlace}, (ts.all fun t => okT τ d t) = true → DataW.TrodAll enc P w 0 sp held ts vs ds ps →
    (∀ (j : Nat) t v, ts[j]? = some t → vs[j]? = some v → Value.okWide P w r b0 t v) → Rows.uptoBulkAll ds ≤ M →
    ∃ az, ShL (Sh τ M d) ts az ∧ vs.length = az.length ∧ ∀ (i : Nat) x v, az[i]? = some x → vs[i]? = some v → RV (allOf w) x v
  | [], [], [], _, _, _, _, _ => ⟨[], trivial, rfl, fun i x v h => by simp at h⟩
  | t :: ts, v :: vs, x :: ds, _, hok, h, hval, hM => by
    obtain ⟨p, q, h1, h2, _⟩ := h
    simp only [List.all_cons, Bool.and_eq_true] at hok
    simp only [Rows.uptoBulkAll] at hM
    obtain ⟨a, ha1, ha2⟩ := arg_rv (M := M) hτ hok.1 (hval 0 t v rfl rfl) h1 (by omega)
    obtain ⟨az, hz1, hz2, hz3⟩ := args_rv hτ hok.2 h2 (fun j t v hj hv => hval (j + 1) t v hj hv) (by omega)
    refine ⟨a :: az, ⟨ha1, hz1⟩, by simp [hz2], fun i y u hy hu => ?_⟩
    cases i with
    | zero =>
      simp only [List.getElem?_cons_zero, Option.some.injEq] at hy hu
      subst hy hu; exact ha2
    | succ i => exact hz3 i y u (by simpa using hy) (by simpa using hu)
  | [], _ :: _, _, _, _, h, _, _ => by cases h
  | [], [], _ :: _, _, _, h, _, _ => by cases h
  | _ :: _, [], _, _, _, h, _, _ => by cases h
  | _ :: _, _ :: _, [], _, _, h, _, _ => by cases h
theorem allOf_inv (P : Program) (w : World) : Inv P w (allOf w) (allOf w) [] [] [] w := by
  have nb : ∀ (i : Nat) (x : Bx), (allOf w).bx[i]? = some x → False := fun i x h => by simp [allOf] at h
  have nr : ∀ (i : Nat) (x : Rw), (allOf w).rw[i]? = some x → False := fun i x h => by simp [allOf] at h
  refine ⟨⟨fun b o u h => h, fun i x hx => (nb i x hx).elim, fun i x hx => (nb i x hx).elim, fun i x hx => (nb i x hx).elim, fun i r hr => (nr i r hr).elim, fun i x hx => (nb i x hx).elim, fun i x hx => (nb i x hx).elim, fun i j x y hx => (nb i x hx).elim, fun i r k hr => (nr i r hr).elim, fun i r k hr => (nr i r hr).elim, fun i j x r hx => (nb i x hx).elim, fun i j r s k hr => (nr i r hr).elim⟩,
    ⟨Kept.refl _ _, fun i x hx => (nb i x hx).elim, fun i r k hr => (nr i r hr).elim, fun b _ _ o => rfl, Gh.le.refl _⟩, ⟨rfl, fun i T a h => by simp at h⟩, fun i x hx => (nb i x hx).elim, rfl, fun r hr => by simp [allOf] at hr⟩
/-- A law's function, called: true, and nothing old has turned. -/
theorem law_calls (hτ : τ.ok P) {f : FuncId} {fn : Func} {d b0 : Nat} {r : Reach} {args : Array Value} {ds : List (DataW H)} {ps : List MemPlace} (hok : (fn.params.toList.all fun t => okT τ d t) = true)
    (hT : DataW.TrodAll enc P w 0 sp held fn.params.toList args.toList ds ps) (hval : ∀ (j : Nat) t v, fn.params[j]? = some t → args[j]? = some v → Value.okWide P w r b0 t v) (hM : Rows.uptoBulkAll ds ≤ M)
    (h : ∀ az, ShL (Sh τ M d) fn.params.toList az → VC P f az [] (.v (.bool true))) : Calls P f args w fun e w' => e = .returned (.bool true) ∧ Below w.heap.size w w' := by
  obtain ⟨az, h1, h2, h3⟩ := args_rv (M := M) hτ hok hT (fun j t v hj hv => hval j t v (by simpa using hj) (by simpa using hv)) hM
  have := (h az h1).2 w (allOf w) args.toList (allOf_inv P w) h2 h3
  refine this.mono fun e w' hp => ?_
  obtain ⟨g, v, rfl, hi, hv⟩ := hp
  refine ⟨by rw [hv.v_inv], hi.fr.kept.below (Nat.le_refl _) fun k _ hk => ?_⟩
  rcases hk with ⟨x, hx, _⟩ | ⟨x, hx, _⟩ <;> simp [allOf] at hx
theorem trodAll_below (hl : laidOutB P = true) {W W' : World} (hb : Below W.heap.size W W') : ∀ {ts : List TypeId} {vs : List Value} {ds : List (DataW H)} {ps : List MemPlace}, (ts.all fun t => P.readableRec t && decide (t < P.types.size)) = true →
    DataW.TrodAll enc P W 0 (fun _ => true) true ts vs ds ps → (∀ x ∈ ps, x.block < W.heap.size) → DataW.TrodAll enc P W' 0 (fun b => decide (b < W.heap.size)) true ts vs ds ps
  | [], [], [], _, _, h, _ => h
  | t :: ts, v :: vs, x :: ds, _, hr, h, hlt => by
    obtain ⟨p, q, h1, h2, rfl⟩ := h
    simp only [List.all_cons, Bool.and_eq_true, decide_eq_true_eq] at hr
    exact ⟨p, q, Below.trod hl hr.1.1 hr.1.2 h1 hb (fun x hx => hlt x (List.mem_append_left _ hx)), trodAll_below hl hb hr.2 h2 (fun x hx => hlt x (List.mem_append_right _ hx)), rfl⟩
  | [], _ :: _, _, _, _, h, _ => by cases h
  | [], [], _ :: _, _, _, h, _ => by cases h
  | _ :: _, [], _, _, _, h, _ => by cases h
  | _ :: _, _ :: _, [], _, _, h, _ => by cases h
/-- What a statement's form asks for: true is handed back, the arguments are as they were. -/
theorem post_true (hl : laidOutB P = true) {fn : Func} {s : ChangeSpec} {W W' : World} {args : Array Value} {ds gs : List (DataW H)} {before : List MemPlace} {bt : TypeId}
    (hW : DataW.Whole enc P fn.params.toList s.vars false W args.toList ds gs before) (hb : Below W.heap.size W W') (hr : (fn.params.toList.all fun t => P.readableRec t && decide (t < P.types.size)) = true) (hv : s.vars = []) (hrt : fn.resultTypes = #[bt]) (hbt : P.underlying bt = some .bool)
    (hs : s.fn H (ds ++ gs) = ⟨[.lit (.bool true)], ds, []⟩) : s.post enc P fn false true false false W args (.bool true) W' := by
  have hlt := fun x hx => hW.lt x hx
  obtain ⟨p, q, hA, hV, rfl, hfz, hnd⟩ := id hW
  refine ⟨ds, gs, p ++ q, [], p, [], hW, ?_, ?_, ?_, hb.frame _, fun h => by cases h⟩
  · rw [hrt, hs]
    exact ⟨[], [], ⟨1, by simp [DataW.trod, hbt, Value.cells]⟩, rfl, rfl⟩
  · rw [hs]
    exact trodAll_below hl hb hr hA fun x hx => by simpa using hlt x (List.mem_append_left _ hx)
  · rw [hs, hv]; rfl
end
end Go.Proofs.Ythphhnkoilcofaa
