/- The statements' kit: do lists share memory? -/
import Derived.Test.YtpeefeioccglcaaA1
import Derived.Deep.OwnRows
import Derived.BigQuiet
import Derived.BigRegion
import Derived.Deep.Draws
import Derived.Deep.LoopGhost
set_option linter.unusedSimpArgs false
set_option linter.unusedVariables false
namespace Go.Proofs.Ytpeefeioccglcaa
open Go Go.RowKit
attribute [local irreducible] wpT
/-- A slice, in its three parts. -/
abbrev SV := Option Addr × Nat × Nat
abbrev SV.v (x : SV) : Value := .slice x.1 x.2.1 x.2.2
def bytesE : El SV where
  ty := 22
  size := 1
  bytes := 24
  enc x := [x.v]
  zero := (none, 0, 0)
  pos := by decide
  len _ := rfl
  one x u hu := by simp at hu; subst hu; rfl
theorem bytesE_fits : bytesE.fits Try.prog := by unfold El.fits; kernel_rfl
theorem bytesE_all (l : List SV) : bytesE.all l = l.map SV.v := by
  induction l with
  | nil => rfl
  | cons x xs ih => rw [El.all_cons, ih]; rfl
theorem madeCells_one (z : Value) (n : Nat) : Builtin.zeroCells #[z] n = (List.replicate n z).toArray := by
  apply Array.toList_inj.1; rw [zeroCells_flatten]
  induction n with
  | zero => rfl
  | succ n ih => rw [List.replicate_succ, List.flatten_cons, ih]; rfl
theorem madeCells_row (z : Value) (n : Nat) : madeCells #[z] n = (List.replicate n z).toArray := by
  apply Array.ext
  · simp [madeCells]
  · intro i h1 h2; simp [madeCells, Nat.mod_one]
theorem own_same {α : Type} {E : El α} {a b : World} {base base' g : Nat} {v : Value} {xs sp : List α} (h : Own E a base v xs sp) (h' : Own E b base' v xs sp) (hg : v.ownBlock = some g) : b.heap[g]? = a.heap[g]? := by
  rcases h with ⟨rfl, _⟩ | ⟨g1, _, rfl, h1, _⟩
  · simp [Value.ownBlock] at hg
  · simp [Value.ownBlock] at hg; subst hg
    rcases h' with ⟨hv, _⟩ | ⟨g2, _, hv, h2, _⟩
    · cases hv
    · injection hv with e; injection e with e; injection e with e; subst e; exact h2.trans h1.symm
/-- A row, and what the list that names it says of it. -/
abbrev ARow := SV × List UInt8 × List UInt8 × TypeId
abbrev ARow.str (x : ARow) : Value := .string (strOf (x.2.1 ++ x.2.2.1))
/-- Rows that do not share memory. -/
structure Apart (w : World) (base : Nat) (L : List ARow) : Prop where
  own : ∀ i (hi : i < L.length), Own (byteT L[i].2.2.2) w base L[i].1.v L[i].2.1 L[i].2.2.1
  ne : ∀ i j (hi : i < L.length) (hj : j < L.length), i ≠ j → L[i].1.v.ownBlock = none ∨ L[i].1.v.ownBlock ≠ L[j].1.v.ownBlock
theorem Apart.below {w w' : World} {base : Nat} {L : List ARow} (h : Apart w base L) (hb : Below w.heap.size w w') : Apart w' base L :=
  ⟨fun i hi => (h.own i hi).belowSize hb, h.ne⟩
/-- The row is no list of slices. -/
theorem own_not {t : TypeId} {w : World} {base g i : Nat} {v : Value} {xs sp : List UInt8} (h : Own (byteT t) w base v xs sp) {x : SV} (hc : w.cell? ⟨g, i, none⟩ = some x.v) : v.ownBlock ≠ some g := by
  intro e
  rcases h with ⟨rfl, _⟩ | ⟨g1, _, rfl, h1, _⟩
  · simp [Value.ownBlock] at e
  · simp [Value.ownBlock] at e; subst e
    rw [h1.cell, byteT_all, List.getElem?_toArray, List.getElem?_map] at hc
    obtain ⟨a, _, ha⟩ := Option.map_eq_some_iff.1 hc; cases ha
/-- The whole row as a string: what the code's 'string(x[:cap(x)])' reads. -/
theorem own_str {w : World} {base : Nat} {x : ARow} (h : Own (byteT x.2.2.2) w base x.1.v x.2.1 x.2.2.1) : ∃ A m c, x.1.v = .slice A m c ∧ m ≤ c ∧ c ≤ maxLen ∧ (A = none → c = 0 ∧ m = 0) ∧
    ∀ W : World, Own (byteT x.2.2.2) W base x.1.v x.2.1 x.2.2.1 → (convert 22 9 (.slice A c c)).run Try.prog W = .ok x.str W := by
  rcases h with ⟨hv, h2, h3⟩ | ⟨g1, _, hv, h1, h2⟩
  · refine ⟨none, 0, 0, hv, Nat.le_refl _, by simp [maxLen], fun _ => ⟨rfl, rfl⟩, fun W _ => ?_⟩
    unfold ARow.str; rw [h2, h3]
    exact run_str (Rd.nil W 0 none) 0 0 rfl
  · refine ⟨_, _, _, hv, by omega, h2, fun e => (by cases e), fun W hW => ?_⟩
    refine run_str (B := W.heap.size) ?_ _ _ (by rw [List.length_append])
    rw [hv] at hW
    have hb := own_byteT hW
    exact Rd.of_blk hb hb.lt 0 fun j u hu => by rw [byteE_all] at hu; rw [Nat.zero_add]; simpa using hu
set_option maxRecDepth 100000 in
set_option maxHeartbeats 1600000 in
theorem apart_any (L : List ARow) (g o c base : Nat) (w : World) (hS : ∀ i (hi : i < L.length), w.cell? ⟨g, o + i, none⟩ = some L[i].1.v) (hg : g < w.heap.size) (hP : Apart w base L) (h0 : 0 < L.length) (hl : L.length ≤ 1099511627776) :
    Calls Try.prog 38 #[.slice (some ⟨g, o, none⟩) L.length c] w fun e w' => e = .returned (.bool true) ∧ Below w.heap.size w w' := by
  obtain ⟨n, hn⟩ : ∃ n, L.length = n := ⟨_, rfl⟩
  have km := fun W : World => run_make_row' (P := Try.prog) 191 9 (.string ⟨#[]⟩) 16 Try.underlying191 (by kernel_rfl) rfl .i64 .i64 n (by omega) (by omega) W
  have hgne : ∀ i (hi : i < L.length), L[i].1.v.ownBlock ≠ some g := fun i hi => own_not (hP.own i hi) (hS i hi)
  have HP := Lib.hid hP; have HS := Lib.hid hS; have HG := Lib.hid hgne; clear hP hS hgne
  rw [hn] at h0 hl ⊢
  have HN := Lib.hid hn; clear hn
  go_enter Try.func38, Try.ntmps38
  go_wp2
  go_loopw [3] (fun v wr => ∃ i : Nat, i ≤ n ∧ v = .int .i64 (i : Int) ∧ Below w.heap.size w wr) (fun v _ => n - (intOf v).toNat)
  case atStart => exact ⟨0, by omega, rfl, Below.refl _ _⟩
  case round =>
    obtain ⟨i, hi, rfl, hb⟩ := hrel
    obtain ⟨wo, rfl⟩ : ∃ wo : World, wo = wr := ⟨_, rfl⟩
    have HB := Lib.hid hb; clear hb
    by_cases hlt : i < n
    · have hiL : i < L.length := by rw [HN.out]; exact hlt
      have hw0 : w.heap.size ≤ wo.heap.size := HB.out.size
      have PO := Lib.hid (HP.out.below HB.out)
      have SO : Hid (∀ j (hj : j < L.length), wo.cell? ⟨g, o + j, none⟩ = some L[j].1.v) := fun j hj => (World.cell?_of_block (a := ⟨g, o + j, none⟩) (HB.out.block g hg)).trans (HS.out j hj)
      obtain ⟨Ai, mi, ci, hvi, -, -, -, -⟩ := own_str (PO.out.own i hiL)
      have HVI := Lib.hid hvi; clear hvi
      go_wp2
      rw [madeCells_row]
      have B0 : Hid (Blk (wo.alloc (Obj.cells (List.replicate n (Value.string ⟨#[]⟩)).toArray 9)) wo.heap.size 9 (List.replicate n (Value.string ⟨#[]⟩)).toArray) := Blk.new _ _ _
      have L0 := Lib.hid ((Below.refl wo.heap.size wo).alloc (Nat.le_refl _) (Obj.cells (List.replicate n (Value.string ⟨#[]⟩)).toArray 9))
      go_loopw [5] (fun v wr => ∃ k : Nat, k ≤ n ∧ v = .int .i64 (k : Int) ∧ Blk wr wo.heap.size 9 ((L.take k).map ARow.str ++ List.replicate (n - k) (Value.string ⟨#[]⟩)).toArray ∧ Below wo.heap.size wo wr) (fun v _ => n - (intOf v).toNat)
      case atStart => exact ⟨0, by omega, rfl, by simpa using B0.out, L0.out⟩
      case round =>
        clear B0 L0
        obtain ⟨k, hk, rfl, b1, b2⟩ := hrel
        have B1 := Lib.hid b1; have B2 := Lib.hid b2; clear b1 b2
        by_cases hlt2 : k < n
        · have hkL : k < L.length := by rw [HN.out]; exact hlt2
          obtain ⟨Ak, mk, ck, hvk, hm1, hm2, hm3, hsk⟩ := own_str ((PO.out.below B2.out).own k hkL)
          have k1 := hsk wr.drew ((PO.out.below B2.out).own k hkL)
          have c1 : wr.cell? ⟨g, o + k, none⟩ = some (.slice Ak mk ck) := by rw [← hvk]; exact (World.cell?_of_block (a := ⟨g, o + k, none⟩) (B2.out.block g (by omega))).trans (SO.out k hkL)
          have ht : ((L.take k).map ARow.str).length = k := by rw [List.length_map, List.length_take]; omega
          have c2 : wr.cell? ⟨wo.heap.size, k, none⟩ = some (Value.string ⟨#[]⟩) := by
            rw [B1.out.cell, List.getElem?_toArray, List.getElem?_append_right (by omega), ht, Nat.sub_self]
            rw [List.getElem?_replicate, if_pos (by omega)]
          have c3 := B1.out.free k
          have hn2 : Blk (wr.drew.setCell ⟨wo.heap.size, k, none⟩ L[k].str) wo.heap.size 9 ((L.take (k + 1)).map ARow.str ++ List.replicate (n - (k + 1)) (Value.string ⟨#[]⟩)).toArray := by
            have := B1.out.drew.put k L[k].str
            have e : ((L.take k).map ARow.str ++ List.replicate (n - k) (Value.string ⟨#[]⟩)).toArray.setIfInBounds k L[k].str = ((L.take (k + 1)).map ARow.str ++ List.replicate (n - (k + 1)) (Value.string ⟨#[]⟩)).toArray := by
              apply Array.toList_inj.1
              rw [Array.toList_setIfInBounds, List.take_succ_eq_append_getElem hkL]
              simp only [List.map_append, List.map_cons, List.map_nil]
              rw [List.set_append_right _ _ (by rw [ht]; exact Nat.le_refl _), ht, Nat.sub_self, show n - k = (n - (k + 1)) + 1 by omega, List.replicate_succ]
              simp
            rw [e] at this; exact this
          have N2 := Lib.hid hn2
          have N3 := Lib.hid (below_putAt (B2.out.drew) (b := wo.heap.size) (i := k) (Nat.le_refl _) L[k].str)
          unfold ARow.str at k1
          have e1 : L[k].str = .string (strOf (L[k].2.1 ++ L[k].2.2.1)) := rfl
          rw [e1] at N2 N3
          generalize L[k].2.1 ++ L[k].2.2.1 = bs at k1 N2 N3 e1
          clear hn2 hvk hsk e1 ht
          cases Ak with
          | none =>
            obtain ⟨rfl, rfl⟩ := hm3 rfl
            go_wp2
            refine wp_region_T [14] [] (fun _ => True) (by kernel_rfl) (by kernel_rfl) trivial ?_
            repeat (first
              | (refine wpT_skip (by rfl) ?_; go_simp)
              | (refine wpT_here (by rfl) (by rfl) (by rfl) (fun K hK => ?_); go_big_quiet_op; refine hK _ ?_; clear hK K)
              | (refine wpT_loud (by rfl) (by rfl) (fun K hK => ?_); go_big_op; refine hK _ _ trivial ?_; clear hK K))
            refine wpT_nil ?_
            go_wp2
            go_roundw
            case rel => exact ⟨k + 1, by omega, by go_num, N2.out, N3.out⟩
            case measure => simp [intOf]; omega
          | some a =>
            go_wp2
            refine wp_region_T [14] [] (fun _ => True) (by kernel_rfl) (by kernel_rfl) trivial ?_
            repeat (first
              | (refine wpT_skip (by rfl) ?_; go_simp)
              | (refine wpT_here (by rfl) (by rfl) (by rfl) (fun K hK => ?_); go_big_quiet_op; refine hK _ ?_; clear hK K)
              | (refine wpT_loud (by rfl) (by rfl) (fun K hK => ?_); go_big_op; refine hK _ _ trivial ?_; clear hK K))
            refine wpT_nil ?_
            go_wp2
            go_roundw
            case rel => exact ⟨k + 1, by omega, by go_num, N2.out, N3.out⟩
            case measure => simp [intOf]; omega
        · obtain rfl : k = n := by omega
          have c1 : wr.cell? ⟨g, o + i, none⟩ = some (.slice Ai mi ci) := by rw [← HVI.out]; exact (World.cell?_of_block (a := ⟨g, o + i, none⟩) (B2.out.block g (by omega))).trans (SO.out i hiL)
          have o1 := (PO.out.below B2.out).own i hiL
          rw [HVI.out] at o1
          have O1 := Lib.hid o1; clear o1
          go_wp2_with (go_at_call 95; refine (over_any _ _ _ _ _ O1.out).mono ?_; rintro e w1 ⟨rfl, hO1, hg1⟩; have O2 := Lib.hid hO1; have G1 := Lib.hid hg1; clear hO1 hg1; dsimp only)
          obtain ⟨wp, rfl⟩ : ∃ wp : World, wp = wr := ⟨_, rfl⟩
          have hlo : ∀ r, (Value.slice Ai mi ci).ownBlock = some r → r < wo.heap.size := fun r hr => by
            have := (PO.out.own i hiL).lt (g := r) (by rw [HVI.out]; exact hr); exact this.2
          have b1 : Blk w1 wo.heap.size 9 (L.map ARow.str).toArray := by
            have := (B1.out.grown G1.out fun e => by have := hlo _ e.symm; omega)
            rw [List.take_of_length_le (by rw [HN.out]; exact Nat.le_refl _), Nat.sub_self, List.replicate_zero, List.append_nil] at this; exact this
          have hsz : wo.heap.size ≤ wp.heap.size := B2.out.size
          have hsz1 : wp.heap.size ≤ w1.heap.size := G1.out.size
          have hgi : (Value.slice Ai mi ci).ownBlock ≠ some g := by have := HG.out i hiL; rw [HVI.out] at this; exact this
          have cell1 : ∀ j (hj : j < L.length), w1.cell? ⟨g, o + j, none⟩ = some L[j].1.v := fun j hj =>
            (World.cell?_of_block (a := ⟨g, o + j, none⟩) (G1.out.block g (by omega) (fun e => hgi e.symm))).trans ((World.cell?_of_block (a := ⟨g, o + j, none⟩) (B2.out.block g (by omega))).trans (SO.out j hj))
          have C1 := Lib.hid cell1; have S1 := Lib.hid b1; clear cell1 b1
          have own1 : ∀ j (hj : j < L.length), j ≠ i → Own (byteT L[j].2.2.2) w1 base L[j].1.v L[j].2.1 L[j].2.2.1 := fun j hj hne => by
            refine ((PO.out.below B2.out).own j hj).grown G1.out ?_
            rcases HP.out.ne j i hj hiL hne with h | h
            · exact .inl h
            · exact .inr (by rw [HVI.out] at h; exact h)
          have W1 := Lib.hid own1; clear own1
          clear c1 B1
          go_loopw [6] (fun v wr => ∃ q : Nat, q ≤ k ∧ v = .int .i64 (q : Int) ∧ Below w1.heap.size w1 wr) (fun v _ => k - (intOf v).toNat)
          case atStart => exact ⟨0, by omega, rfl, Below.refl _ _⟩
          case round =>
            obtain ⟨q, hq, rfl, b2⟩ := hrel
            have B3 := Lib.hid b2; clear b2
            by_cases hlt3 : q < k
            · by_cases hqi : q = i
              · subst hqi
                go_wp2
                refine wp_region_T [] [] (fun _ => True) (by kernel_rfl) (by kernel_rfl) trivial ?_
                repeat (first
                  | (refine wpT_skip (by rfl) ?_; go_simp)
                  | (refine wpT_here (by rfl) (by rfl) (by rfl) (fun K hK => ?_); go_big_quiet_op; refine hK _ ?_; clear hK K)
                  | (refine wpT_loud (by rfl) (by rfl) (fun K hK => ?_); go_big_op; refine hK _ _ trivial ?_; clear hK K))
                refine wpT_nil ?_
                go_wp2
                go_roundw
                case rel => exact ⟨q + 1, by omega, by go_num, B3.out.drew⟩
                case measure => simp [intOf]; omega
              · have hqL : q < L.length := by rw [HN.out]; exact hlt3
                have oq := (W1.out q hqL hqi).belowSize B3.out
                obtain ⟨Ak, mk, ck, hvk, hm1, hm2, hm3, hsk⟩ := own_str oq
                have k1 := hsk wr.drew oq
                have c1 : wr.cell? ⟨g, o + q, none⟩ = some (.slice Ak mk ck) := by rw [← hvk]; exact (World.cell?_of_block (a := ⟨g, o + q, none⟩) (B3.out.block g (by omega))).trans (C1.out q hqL)
                have c2 : wr.cell? ⟨wo.heap.size, q, none⟩ = some L[q].str := by
                  rw [(S1.out.below B3.out S1.out.lt).cell, List.getElem?_toArray, List.getElem?_map, List.getElem?_eq_getElem hqL]; rfl
                have hne : ((q : Int) != (i : Int)) = true := by simp; omega
                unfold ARow.str at k1 c2
                generalize strOf (L[q].2.1 ++ L[q].2.2.1) = bs at k1 c2
                clear oq hvk hsk
                cases Ak with
                | none =>
                  obtain ⟨rfl, rfl⟩ := hm3 rfl
                  go_wp2
                  refine wp_region_T [] [] (fun _ => True) (by kernel_rfl) (by kernel_rfl) trivial ?_
                  repeat (first
                    | (refine wpT_skip (by rfl) ?_; go_simp)
                    | (refine wpT_here (by rfl) (by rfl) (by rfl) (fun K hK => ?_); go_big_quiet_op; refine hK _ ?_; clear hK K)
                    | (refine wpT_loud (by rfl) (by rfl) (fun K hK => ?_); go_big_op; refine hK _ _ trivial ?_; clear hK K))
                  refine wpT_nil ?_
                  go_wp2
                  go_roundw
                  case rel => exact ⟨q + 1, by omega, by go_num, B3.out.drew⟩
                  case measure => simp [intOf]; omega
                | some a =>
                  go_wp2
                  refine wp_region_T [] [] (fun _ => True) (by kernel_rfl) (by kernel_rfl) trivial ?_
                  repeat (first
                    | (refine wpT_skip (by rfl) ?_; go_simp)
                    | (refine wpT_here (by rfl) (by rfl) (by rfl) (fun K hK => ?_); go_big_quiet_op; refine hK _ ?_; clear hK K)
                    | (refine wpT_loud (by rfl) (by rfl) (fun K hK => ?_); go_big_op; refine hK _ _ trivial ?_; clear hK K))
                  refine wpT_nil ?_
                  go_wp2
                  go_roundw
                  case rel => exact ⟨q + 1, by omega, by go_num, B3.out.drew⟩
                  case measure => simp [intOf]; omega
            · obtain rfl : q = k := by omega
              have c1 : wr.cell? ⟨g, o + i, none⟩ = some (.slice Ai mi ci) := by rw [← HVI.out]; exact (World.cell?_of_block (a := ⟨g, o + i, none⟩) (B3.out.block g (by omega))).trans (C1.out i hiL)
              have O3 := Lib.hid (O2.out.belowSize B3.out)
              have hsz2 : w1.heap.size ≤ wr.heap.size := B3.out.size
              go_wp2_with (go_at_call 95; refine (over_any _ _ _ _ _ O3.out).mono ?_; rintro e w4 ⟨rfl, hO4, hg4⟩; have O4 := Lib.hid hO4; have G4 := Lib.hid hg4; clear hO4 hg4; dsimp only)
              go_roundw
              case rel =>
                refine ⟨i + 1, by omega, by go_num, ?_⟩
                have o4 := O4.out
                rw [map_over_over, map_over_over] at o4
                refine ⟨?_, ?_, ?_, ?_, ?_⟩
                · rw [G4.out.os, B3.out.os, G1.out.os, B2.out.os, HB.out.os]
                · rw [G4.out.tape, B3.out.tape, G1.out.tape, B2.out.tape, HB.out.tape]
                · rw [G4.out.output, B3.out.output, G1.out.output, B2.out.output, HB.out.output]
                · have := G4.out.size; omega
                · intro r hr
                  by_cases hri : (Value.slice Ai mi ci).ownBlock = some r
                  · rw [own_same O1.out o4 hri, B2.out.block r (by omega), HB.out.block r hr]
                  · rw [G4.out.block r (by omega) (fun e => hri e.symm), B3.out.block r (by omega), G1.out.block r (by omega) (fun e => hri e.symm), B2.out.block r (by omega), HB.out.block r hr]
              case measure => simp [intOf]; omega
    · obtain rfl : i = n := by omega
      go_wp2
      go_ret
      exact ⟨rfl, HB.out⟩
end Go.Proofs.Ytpeefeioccglcaa
