/- The statements' kit: do lists share memory? -/
import Derived.Test.YtigmpdhnhkdeiaaA1
import Derived.Deep.OwnRows
import Derived.BigQuiet
import Derived.BigRegion
import Derived.Deep.Draws
import Derived.Deep.LoopGhost
import Derived.Test.YtigmpdhnhkdeiaaBits
import Derived.Test.YtigmpdhnhkdeiaaVec
import Derived.Test.YtigmpdhnhkdeiaaLess
set_option linter.unusedSimpArgs false
set_option linter.unusedVariables false
namespace Go.Proofs.Ytigmpdhnhkdeiaa
open Go Go.RowKit
attribute [local irreducible] wpT
/-- A slice, in its three parts. -/
abbrev SV := Option Addr × Nat × Nat
abbrev SV.v (x : SV) : Value := .slice x.1 x.2.1 x.2.2
theorem madeCells_row (z : Value) (n : Nat) : madeCells #[z] n = (List.replicate n z).toArray := by
  apply Array.ext
  · simp [madeCells]
  · intro i h1 h2; simp [madeCells, Nat.mod_one]
theorem own_same {α : Type} {E : El α} {a b : World} {base base' g : Nat} {v : Value} {xs sp : List α} (h : Own E a base v xs sp) (h' : Own E b base' v xs sp) (hg : v.ownBlock = some g) : b.heap[g]? = a.heap[g]? := by
  rcases h with ⟨rfl, _⟩ | ⟨g1, _, rfl, h1, _⟩
  · simp [Value.ownBlock] at hg
  · simp [Value.ownBlock] at hg; subst hg
    rcases h' with ⟨hv, _⟩ | ⟨g2, _, hv, h2, _⟩
    · cases hv
    · injection hv with e; injection e with e; injection e with e; subst e; exact h2.trans h1.symm
/-- A row, and what the list that names it says of it. -/
abbrev ARow := SV × List UInt8 × List UInt8 × TypeId
abbrev ARow.str (x : ARow) : Value := .string (strOf (x.2.1 ++ x.2.2.1))
/-- Rows that do not share memory. -/
structure Apart (w : World) (base : Nat) (L : List ARow) : Prop where
  own : ∀ i (hi : i < L.length), Own (byteT L[i].2.2.2) w base L[i].1.v L[i].2.1 L[i].2.2.1
  ne : ∀ i j (hi : i < L.length) (hj : j < L.length), i ≠ j → L[i].1.v.ownBlock = none ∨ L[i].1.v.ownBlock ≠ L[j].1.v.ownBlock
theorem Apart.below {w w' : World} {base : Nat} {L : List ARow} (h : Apart w base L) (hb : Below w.heap.size w w') : Apart w' base L :=
  ⟨fun i hi => (h.own i hi).belowSize hb, h.ne⟩
/-- The row is no list of slices. -/
theorem own_not {t : TypeId} {w : World} {base g i : Nat} {v : Value} {xs sp : List UInt8} (h : Own (byteT t) w base v xs sp) {x : SV} (hc : w.cell? ⟨g, i, none⟩ = some x.v) : v.ownBlock ≠ some g := by
  intro e
  rcases h with ⟨rfl, _⟩ | ⟨g1, _, rfl, h1, _⟩
  · simp [Value.ownBlock] at e
  · simp [Value.ownBlock] at e; subst e
    rw [h1.cell, byteT_all, List.getElem?_toArray, List.getElem?_map] at hc
    obtain ⟨a, _, ha⟩ := Option.map_eq_some_iff.1 hc; cases ha
/-- The whole row as a string: what the code's 'string(x[:cap(x)])' reads. -/
theorem own_str {w : World} {base : Nat} {x : ARow} (h : Own (byteT x.2.2.2) w base x.1.v x.2.1 x.2.2.1) : ∃ A m c, x.1.v = .slice A m c ∧ m ≤ c ∧ c ≤ maxLen ∧ (A = none → c = 0 ∧ m = 0) ∧
    ∀ W : World, Own (byteT x.2.2.2) W base x.1.v x.2.1 x.2.2.1 → (convert 26 9 (.slice A c c)).run Try.prog W = .ok x.str W := by
  rcases h with ⟨hv, h2, h3⟩ | ⟨g1, _, hv, h1, h2⟩
  · refine ⟨none, 0, 0, hv, Nat.le_refl _, by simp [maxLen], fun _ => ⟨rfl, rfl⟩, fun W _ => ?_⟩
    unfold ARow.str; rw [h2, h3]
    exact run_str (Rd.nil W 0 none) 0 0 rfl
  · refine ⟨_, _, _, hv, by omega, h2, fun e => (by cases e), fun W hW => ?_⟩
    refine run_str (B := W.heap.size) ?_ _ _ (by rw [List.length_append])
    rw [hv] at hW
    have hb := own_byteT hW
    exact Rd.of_blk hb hb.lt 0 fun j u hu => by rw [byteE_all] at hu; rw [Nat.zero_add]; simpa using hu
set_option maxRecDepth 100000 in
set_option maxHeartbeats 1600000 in
theorem apart_any (L : List ARow) (g o c base : Nat) (w : World) (hS : ∀ i (hi : i < L.length), w.cell? ⟨g, o + i, none⟩ = some L[i].1.v) (hg : g < w.heap.size) (hP : Apart w base L) (h0 : 0 < L.length) (hl : L.length ≤ 1099511627776) :
    Calls Try.prog 23 #[.slice (some ⟨g, o, none⟩) L.length c] w fun e w' => e = .returned (.bool true) ∧ Below w.heap.size w w' := by
  obtain ⟨n, hn⟩ : ∃ n, L.length = n := ⟨_, rfl⟩
  have km := fun W : World => run_make_row' (P := Try.prog) 189 9 (.string ⟨#[]⟩) 16 Try.underlying189 (by kernel_rfl) rfl .i64 .i64 n (by omega) (by omega) W
  have hgne : ∀ i (hi : i < L.length), L[i].1.v.ownBlock ≠ some g := fun i hi => own_not (hP.own i hi) (hS i hi)
  have HP := Lib.hid hP; have HS := Lib.hid hS; have HG := Lib.hid hgne; clear hP hS hgne
  rw [hn] at h0 hl ⊢
  have HN := Lib.hid hn; clear hn
  go_enter Try.func23, Try.ntmps23
  go_wp2
  go_loopw [3] (fun v wr => ∃ i : Nat, i ≤ n ∧ v = .int .i64 (i : Int) ∧ Below w.heap.size w wr) (fun v _ => n - (intOf v).toNat)
  case atStart => exact ⟨0, by omega, rfl, Below.refl _ _⟩
  case round =>
    obtain ⟨i, hi, rfl, hb⟩ := hrel
    obtain ⟨wo, rfl⟩ : ∃ wo : World, wo = wr := ⟨_, rfl⟩
    have HB := Lib.hid hb; clear hb
    by_cases hlt : i < n
    · have hiL : i < L.length := by rw [HN.out]; exact hlt
      have hw0 : w.heap.size ≤ wo.heap.size := HB.out.size
      have PO := Lib.hid (HP.out.below HB.out)
      have SO : Hid (∀ j (hj : j < L.length), wo.cell? ⟨g, o + j, none⟩ = some L[j].1.v) := fun j hj => (World.cell?_of_block (a := ⟨g, o + j, none⟩) (HB.out.block g hg)).trans (HS.out j hj)
      obtain ⟨Ai, mi, ci, hvi, -, -, -, -⟩ := own_str (PO.out.own i hiL)
      have HVI := Lib.hid hvi; clear hvi
      go_wp2
      rw [madeCells_row]
      have B0 : Hid (Blk (wo.alloc (Obj.cells (List.replicate n (Value.string ⟨#[]⟩)).toArray 9)) wo.heap.size 9 (List.replicate n (Value.string ⟨#[]⟩)).toArray) := Blk.new _ _ _
      have L0 := Lib.hid ((Below.refl wo.heap.size wo).alloc (Nat.le_refl _) (Obj.cells (List.replicate n (Value.string ⟨#[]⟩)).toArray 9))
      go_loopw [5] (fun v wr => ∃ k : Nat, k ≤ n ∧ v = .int .i64 (k : Int) ∧ Blk wr wo.heap.size 9 ((L.take k).map ARow.str ++ List.replicate (n - k) (Value.string ⟨#[]⟩)).toArray ∧ Below wo.heap.size wo wr) (fun v _ => n - (intOf v).toNat)
      case atStart => exact ⟨0, by omega, rfl, by simpa using B0.out, L0.out⟩
      case round =>
        clear B0 L0
        obtain ⟨k, hk, rfl, b1, b2⟩ := hrel
        have B1 := Lib.hid b1; have B2 := Lib.hid b2; clear b1 b2
        by_cases hlt2 : k < n
        · have hkL : k < L.length := by rw [HN.out]; exact hlt2
          obtain ⟨Ak, mk, ck, hvk, hm1, hm2, hm3, hsk⟩ := own_str ((PO.out.below B2.out).own k hkL)
          have k1 := hsk wr.drew ((PO.out.below B2.out).own k hkL)
          have c1 : wr.cell? ⟨g, o + k, none⟩ = some (.slice Ak mk ck) := by rw [← hvk]; exact (World.cell?_of_block (a := ⟨g, o + k, none⟩) (B2.out.block g (by omega))).trans (SO.out k hkL)
          have ht : ((L.take k).map ARow.str).length = k := by rw [List.length_map, List.length_take]; omega
          have c2 : wr.cell? ⟨wo.heap.size, k, none⟩ = some (Value.string ⟨#[]⟩) := by
            rw [B1.out.cell, List.getElem?_toArray, List.getElem?_append_right (by omega), ht, Nat.sub_self]
            rw [List.getElem?_replicate, if_pos (by omega)]
          have c3 := B1.out.free k
          have hn2 : Blk (wr.drew.setCell ⟨wo.heap.size, k, none⟩ L[k].str) wo.heap.size 9 ((L.take (k + 1)).map ARow.str ++ List.replicate (n - (k + 1)) (Value.string ⟨#[]⟩)).toArray := by
            have := B1.out.drew.put k L[k].str
            have e : ((L.take k).map ARow.str ++ List.replicate (n - k) (Value.string ⟨#[]⟩)).toArray.setIfInBounds k L[k].str = ((L.take (k + 1)).map ARow.str ++ List.replicate (n - (k + 1)) (Value.string ⟨#[]⟩)).toArray := by
              apply Array.toList_inj.1
              rw [Array.toList_setIfInBounds, List.take_succ_eq_append_getElem hkL]
              simp only [List.map_append, List.map_cons, List.map_nil]
              rw [List.set_append_right _ _ (by rw [ht]; exact Nat.le_refl _), ht, Nat.sub_self, show n - k = (n - (k + 1)) + 1 by omega, List.replicate_succ]
              simp
            rw [e] at this; exact this
          have N2 := Lib.hid hn2
          have N3 := Lib.hid (below_putAt (B2.out.drew) (b := wo.heap.size) (i := k) (Nat.le_refl _) L[k].str)
          unfold ARow.str at k1
          have e1 : L[k].str = .string (strOf (L[k].2.1 ++ L[k].2.2.1)) := rfl
          rw [e1] at N2 N3
          generalize L[k].2.1 ++ L[k].2.2.1 = bs at k1 N2 N3 e1
          clear hn2 hvk hsk e1 ht
          cases Ak with
          | none =>
            obtain ⟨rfl, rfl⟩ := hm3 rfl
            go_wp2
            refine wp_region_T [14] [] (fun _ => True) (by kernel_rfl) (by kernel_rfl) trivial ?_
            repeat (first
              | (refine wpT_skip (by rfl) ?_; go_simp)
              | (refine wpT_here (by rfl) (by rfl) (by rfl) (fun K hK => ?_); go_big_quiet_op; refine hK _ ?_; clear hK K)
              | (refine wpT_loud (by rfl) (by rfl) (fun K hK => ?_); go_big_op; refine hK _ _ trivial ?_; clear hK K))
            refine wpT_nil ?_
            go_wp2
            go_roundw
            case rel => exact ⟨k + 1, by omega, by go_num, N2.out, N3.out⟩
            case measure => simp [intOf]; omega
          | some a =>
            go_wp2
            refine wp_region_T [14] [] (fun _ => True) (by kernel_rfl) (by kernel_rfl) trivial ?_
            repeat (first
              | (refine wpT_skip (by rfl) ?_; go_simp)
              | (refine wpT_here (by rfl) (by rfl) (by rfl) (fun K hK => ?_); go_big_quiet_op; refine hK _ ?_; clear hK K)
              | (refine wpT_loud (by rfl) (by rfl) (fun K hK => ?_); go_big_op; refine hK _ _ trivial ?_; clear hK K))
            refine wpT_nil ?_
            go_wp2
            go_roundw
            case rel => exact ⟨k + 1, by omega, by go_num, N2.out, N3.out⟩
            case measure => simp [intOf]; omega
        · obtain rfl : k = n := by omega
          have c1 : wr.cell? ⟨g, o + i, none⟩ = some (.slice Ai mi ci) := by rw [← HVI.out]; exact (World.cell?_of_block (a := ⟨g, o + i, none⟩) (B2.out.block g (by omega))).trans (SO.out i hiL)
          have o1 := (PO.out.below B2.out).own i hiL
          rw [HVI.out] at o1
          have O1 := Lib.hid o1; clear o1
          go_wp2_with (go_at_call 109; refine (over_any _ _ _ _ _ O1.out).mono ?_; rintro e w1 ⟨rfl, hO1, hg1⟩; have O2 := Lib.hid hO1; have G1 := Lib.hid hg1; clear hO1 hg1; dsimp only)
          obtain ⟨wp, rfl⟩ : ∃ wp : World, wp = wr := ⟨_, rfl⟩
          have hlo : ∀ r, (Value.slice Ai mi ci).ownBlock = some r → r < wo.heap.size := fun r hr => by
            have := (PO.out.own i hiL).lt (g := r) (by rw [HVI.out]; exact hr); exact this.2
          have b1 : Blk w1 wo.heap.size 9 (L.map ARow.str).toArray := by
            have := (B1.out.grown G1.out fun e => by have := hlo _ e.symm; omega)
            rw [List.take_of_length_le (by rw [HN.out]; exact Nat.le_refl _), Nat.sub_self, List.replicate_zero, List.append_nil] at this; exact this
          have hsz : wo.heap.size ≤ wp.heap.size := B2.out.size
          have hsz1 : wp.heap.size ≤ w1.heap.size := G1.out.size
          have hgi : (Value.slice Ai mi ci).ownBlock ≠ some g := by have := HG.out i hiL; rw [HVI.out] at this; exact this
          have cell1 : ∀ j (hj : j < L.length), w1.cell? ⟨g, o + j, none⟩ = some L[j].1.v := fun j hj =>
            (World.cell?_of_block (a := ⟨g, o + j, none⟩) (G1.out.block g (by omega) (fun e => hgi e.symm))).trans ((World.cell?_of_block (a := ⟨g, o + j, none⟩) (B2.out.block g (by omega))).trans (SO.out j hj))
          have C1 := Lib.hid cell1; have S1 := Lib.hid b1; clear cell1 b1
          have own1 : ∀ j (hj : j < L.length), j ≠ i → Own (byteT L[j].2.2.2) w1 base L[j].1.v L[j].2.1 L[j].2.2.1 := fun j hj hne => by
            refine ((PO.out.below B2.out).own j hj).grown G1.out ?_
            rcases HP.out.ne j i hj hiL hne with h | h
            · exact .inl h
            · exact .inr (by rw [HVI.out] at h; exact h)
          have W1 := Lib.hid own1; clear own1
          clear c1 B1
          go_loopw [6] (fun v wr => ∃ q : Nat, q ≤ k ∧ v = .int .i64 (q : Int) ∧ Below w1.heap.size w1 wr) (fun v _ => k - (intOf v).toNat)
          case atStart => exact ⟨0, by omega, rfl, Below.refl _ _⟩
          case round =>
            obtain ⟨q, hq, rfl, b2⟩ := hrel
            have B3 := Lib.hid b2; clear b2
            by_cases hlt3 : q < k
            · by_cases hqi : q = i
              · subst hqi
                go_wp2
                refine wp_region_T [] [] (fun _ => True) (by kernel_rfl) (by kernel_rfl) trivial ?_
                repeat (first
                  | (refine wpT_skip (by rfl) ?_; go_simp)
                  | (refine wpT_here (by rfl) (by rfl) (by rfl) (fun K hK => ?_); go_big_quiet_op; refine hK _ ?_; clear hK K)
                  | (refine wpT_loud (by rfl) (by rfl) (fun K hK => ?_); go_big_op; refine hK _ _ trivial ?_; clear hK K))
                refine wpT_nil ?_
                go_wp2
                go_roundw
                case rel => exact ⟨q + 1, by omega, by go_num, B3.out.drew⟩
                case measure => simp [intOf]; omega
              · have hqL : q < L.length := by rw [HN.out]; exact hlt3
                have oq := (W1.out q hqL hqi).belowSize B3.out
                obtain ⟨Ak, mk, ck, hvk, hm1, hm2, hm3, hsk⟩ := own_str oq
                have k1 := hsk wr.drew oq
                have c1 : wr.cell? ⟨g, o + q, none⟩ = some (.slice Ak mk ck) := by rw [← hvk]; exact (World.cell?_of_block (a := ⟨g, o + q, none⟩) (B3.out.block g (by omega))).trans (C1.out q hqL)
                have c2 : wr.cell? ⟨wo.heap.size, q, none⟩ = some L[q].str := by
                  rw [(S1.out.below B3.out S1.out.lt).cell, List.getElem?_toArray, List.getElem?_map, List.getElem?_eq_getElem hqL]; rfl
                have hne : ((q : Int) != (i : Int)) = true := by simp; omega
                unfold ARow.str at k1 c2
                generalize strOf (L[q].2.1 ++ L[q].2.2.1) = bs at k1 c2
                clear oq hvk hsk
                cases Ak with
                | none =>
                  obtain ⟨rfl, rfl⟩ := hm3 rfl
                  go_wp2
                  refine wp_region_T [] [] (fun _ => True) (by kernel_rfl) (by kernel_rfl) trivial ?_
                  repeat (first
                    | (refine wpT_skip (by rfl) ?_; go_simp)
                    | (refine wpT_here (by rfl) (by rfl) (by rfl) (fun K hK => ?_); go_big_quiet_op; refine hK _ ?_; clear hK K)
                    | (refine wpT_loud (by rfl) (by rfl) (fun K hK => ?_); go_big_op; refine hK _ _ trivial ?_; clear hK K))
                  refine wpT_nil ?_
                  go_wp2
                  go_roundw
                  case rel => exact ⟨q + 1, by omega, by go_num, B3.out.drew⟩
                  case measure => simp [intOf]; omega
                | some a =>
                  go_wp2
                  refine wp_region_T [] [] (fun _ => True) (by kernel_rfl) (by kernel_rfl) trivial ?_
                  repeat (first
                    | (refine wpT_skip (by rfl) ?_; go_simp)
                    | (refine wpT_here (by rfl) (by rfl) (by rfl) (fun K hK => ?_); go_big_quiet_op; refine hK _ ?_; clear hK K)
                    | (refine wpT_loud (by rfl) (by rfl) (fun K hK => ?_); go_big_op; refine hK _ _ trivial ?_; clear hK K))
                  refine wpT_nil ?_
                  go_wp2
                  go_roundw
                  case rel => exact ⟨q + 1, by omega, by go_num, B3.out.drew⟩
                  case measure => simp [intOf]; omega
            · obtain rfl : q = k := by omega
              have c1 : wr.cell? ⟨g, o + i, none⟩ = some (.slice Ai mi ci) := by rw [← HVI.out]; exact (World.cell?_of_block (a := ⟨g, o + i, none⟩) (B3.out.block g (by omega))).trans (C1.out i hiL)
              have O3 := Lib.hid (O2.out.belowSize B3.out)
              have hsz2 : w1.heap.size ≤ wr.heap.size := B3.out.size
              go_wp2_with (go_at_call 109; refine (over_any _ _ _ _ _ O3.out).mono ?_; rintro e w4 ⟨rfl, hO4, hg4⟩; have O4 := Lib.hid hO4; have G4 := Lib.hid hg4; clear hO4 hg4; dsimp only)
              go_roundw
              case rel =>
                refine ⟨i + 1, by omega, by go_num, ?_⟩
                have o4 := O4.out
                rw [map_over_over, map_over_over] at o4
                refine ⟨?_, ?_, ?_, ?_, ?_⟩
                · rw [G4.out.os, B3.out.os, G1.out.os, B2.out.os, HB.out.os]
                · rw [G4.out.tape, B3.out.tape, G1.out.tape, B2.out.tape, HB.out.tape]
                · rw [G4.out.output, B3.out.output, G1.out.output, B2.out.output, HB.out.output]
                · have := G4.out.size; omega
                · intro r hr
                  by_cases hri : (Value.slice Ai mi ci).ownBlock = some r
                  · rw [own_same O1.out o4 hri, B2.out.block r (by omega), HB.out.block r hr]
                  · rw [G4.out.block r (by omega) (fun e => hri e.symm), B3.out.block r (by omega), G1.out.block r (by omega) (fun e => hri e.symm), B2.out.block r (by omega), HB.out.block r hr]
              case measure => simp [intOf]; omega
    · obtain rfl : i = n := by omega
      go_wp2
      go_ret
      exact ⟨rfl, HB.out⟩
end Go.Proofs.Ytigmpdhnhkdeiaa
/- ApartBytes of slices that own their memory, written out where they are asked about; guards that are known to hold. -/
namespace Go.Proofs.Ytigmpdhnhkdeiaa
open Go Go.RowKit
section
variable {P : Program} {τ : Tab} {w0 w : World} {N : Gh} {g gS : Gh} {st st' sq sq' : St} {nt : Nat} {a : Act}
theorem zero_u8 : zeroOf Try.prog 5 = [.int .u8 0] := by kernel_rfl
theorem flat_z (m : Nat) : (List.replicate m [Value.int .u8 0]).flatten = (List.replicate m (0 : UInt8)).map B8 := by
  induction m with
  | zero => rfl
  | succ m ih => rw [List.replicate_succ, List.flatten_cons, ih, List.replicate_succ]; rfl
theorem fill_ok {z : Value} : ∀ (vs pre : List Value), (∀ v ∈ vs, v.cells = #[v]) → Instr.fill (fun i => some (i * 1, 1)) (pre ++ List.replicate vs.length z).toArray ((vs.zipIdx pre.length).map fun p => (p.2, p.1)) = some (pre ++ vs).toArray
  | [], pre, _ => by simp [Instr.fill]
  | v :: vs, pre, h => by
    have hv := h v List.mem_cons_self
    have ih := fill_ok (z := z) vs (pre ++ [v]) fun u hu => h u (List.mem_cons_of_mem _ hu)
    have e : (#[v].zipIdx.foldl (fun cs (p : Value × Nat) => cs.setIfInBounds (pre.length * 1 + p.2) p.1) (pre ++ List.replicate (v :: vs).length z).toArray) = (pre ++ [v] ++ List.replicate vs.length z).toArray := by
      apply Array.toList_inj.1
      simp [List.replicate_succ]
    rw [List.length_append, List.length_singleton] at ih
    simp only [List.zipIdx_cons, List.map_cons]
    unfold Instr.fill
    dsimp only
    rw [hv, if_neg (by simp)]
    rw [e, ih]
    simp
theorem run_bsl (vs : List Value) (hv : ∀ v ∈ vs, v.cells = #[v]) (h0 : 0 < vs.length) (hn : vs.length ≤ 1000) (w : World) :
    (Instr.buildSlice 23 vs.length ((vs.zipIdx.map fun p => (p.2, p.1)).toArray)).run Try.prog w = .ok (.slice (some ⟨w.heap.size, 0, none⟩) vs.length vs.length) (w.alloc (.cells vs.toArray 26)) := by
  have hs : (sizeOf 26).run Try.prog w = .ok 1 w := (Tab.get_ok tab_ok (t := 26) (i := ti26) rfl).sizeOf w
  have hz : (zeroValue 26).run Try.prog w = .ok (.slice none 0 0) w := by kernel_rfl
  have hf := fill_ok (z := .slice none 0 0) vs [] hv
  simp only [List.nil_append, List.length_nil] at hf
  unfold Instr.buildSlice
  simp only [Sem.run_bind, run_underlying Try.underlying23, Result.andThen_ok, hs]
  rw [show vs.length * 1 = vs.length from Nat.mul_one _]
  have e : ((Array.range vs.length).map fun i => (Value.slice none 0 0).cells[i % (Value.slice none 0 0).cells.size]!) = (List.replicate vs.length (Value.slice none 0 0)).toArray := by
    apply Array.ext
    · simp
    · intro i h1 h2; simp [Value.cells, Nat.mod_one]
  have hf' : Instr.fill (fun i => some (i * 1, 1)) ((Array.range vs.length).map fun i => (Value.slice none 0 0).cells[i % (Value.slice none 0 0).cells.size]!) (((vs.zipIdx.map fun p => (p.2, p.1)).toArray).toList) = some vs.toArray := by
    rw [e]; exact hf
  rw [if_neg (by omega), if_neg (by omega)]
  simp only [Sem.run_bind, hz, Result.andThen_ok, Sem.run_pure, hf']
  simp [newRow]
end
end Go.Proofs.Ytigmpdhnhkdeiaa
/- Rows that no frame owns: lists of bytes, each with memory of its own; contracts that hand them out. -/
namespace Go.Proofs.Ytigmpdhnhkdeiaa
open Go Go.RowKit
/-- A slice on its own: its block, its length and room, the block's cells; the first k of them stay as they are. -/
structure XR where
  A : Option Nat
  n : Nat
  c : Nat
  tid : TypeId
  cells : List Value
  k : Nat
def XR.v (x : XR) : Value := .slice (x.A.map fun b => ⟨b, 0, none⟩) x.n x.c
theorem XR.own (x : XR) : x.v.ownBlock = x.A := by unfold XR.v; cases x.A <;> rfl
structure XOk (lo : Nat) (g : Gh) (w : World) (x : XR) : Prop where
  le : x.n ≤ x.c ∧ x.c ≤ maxLen
  nil : x.A = none → x.c = 0
  own : ∀ b, x.A = some b → ¬ g.has b ∧ lo ≤ b ∧ Blk w b x.tid x.cells.toArray ∧ ∀ o u, o < x.k → x.cells[o]? = some u → g.ro b o = some u
theorem XOk.lt {lo : Nat} {g : Gh} {w : World} {x : XR} (h : XOk lo g w x) {b : Nat} (hb : x.A = some b) : b < w.heap.size := (h.own b hb).2.2.1.lt
def XApart (X : List XR) : Prop := X.Pairwise fun x y => x.A = none ∨ x.A ≠ y.A
structure Xs (lo : Nat) (g : Gh) (w : World) (X : List XR) : Prop where
  ok : ∀ x ∈ X, XOk lo g w x
  un : XApart X
/-- As Fr, but for blocks from lo on. -/
structure FrX (lo : Nat) (w0 : World) (N g : Gh) (w : World) : Prop where
  os : w.os = w0.os
  tape : w.tape = w0.tape
  output : w.output = w0.output
  size : w0.heap.size ≤ w.heap.size
  block : ∀ k, k < w0.heap.size → k < lo → ¬ N.has k → w.heap[k]? = w0.heap[k]?
  bx : ∀ (i : Nat) (x : Bx), g.bx[i]? = some x → x.off = false → w0.heap.size ≤ x.blk ∨ ∃ y, N.bx[i]? = some y ∧ y.off = false ∧ y.blk = x.blk
  rw : ∀ (i : Nat) (r : Rw) (k : Nat), g.rw[i]? = some r → r.v.ownBlock = some k → w0.heap.size ≤ k ∨ ∃ s, N.rw[i]? = some s ∧ s.v.ownBlock = some k
  ro : ∀ b, b < w0.heap.size → b < lo → ¬ N.has b → ∀ o, g.ro b o = N.ro b o
  le : N.le g
section
variable {P : Program} {τ : Tab} {w0 w w1 w2 : World} {N N1 N2 : Gh} {g g1 gS : Gh} {st st' sq sq' : St} {nt : Nat} {a : Act} {lo : Nat} {X Y : List XR}
theorem FrX.of (h : Fr w0 N g w) (lo : Nat) : FrX lo w0 N g w := ⟨h.kept.os, h.kept.tape, h.kept.output, h.kept.size, fun k hk _ hn => h.kept.block k hk hn, h.bx, h.rw, fun b hb _ hn => h.ro b hb hn, h.le⟩
theorem FrX.fr (h : FrX lo w0 N g w) (hlo : w0.heap.size ≤ lo) : Fr w0 N g w := ⟨⟨h.os, h.tape, h.output, h.size, fun k hk hn => h.block k hk (by omega) hn⟩, h.bx, h.rw, fun b hb hn => h.ro b hb (by omega) hn, h.le⟩
theorem FrX.back (h : FrX lo w0 N g w) {b : Nat} (hb : b < w0.heap.size) (hh : g.has b) : N.has b := by
  rcases hh with ⟨y, hy, hyo, he⟩ | ⟨s, hr, he⟩
  · obtain ⟨i, hi⟩ := List.getElem?_of_mem hy
    rcases h.bx i y hi hyo with h3 | ⟨z, h3, h4, h5⟩
    · omega
    · exact .inl ⟨z, List.mem_of_getElem? h3, h4, h5.trans he⟩
  · obtain ⟨i, hi⟩ := List.getElem?_of_mem hr
    rcases h.rw i s b hi he with h3 | ⟨z, h3, h4⟩
    · omega
    · exact .inr ⟨z, List.mem_of_getElem? h3, h4⟩
theorem FrX.trans (h : FrX lo w0 N N1 w1) (k : FrX lo w1 N1 g w) : FrX lo w0 N g w := by
  have hs := h.size
  refine ⟨k.os.trans h.os, k.tape.trans h.tape, k.output.trans h.output, Nat.le_trans h.size k.size, fun b hb hl hn => (k.block b (by omega) hl (fun hh => hn (h.back hb hh))).trans (h.block b hb hl hn), fun i x hx hxo => ?_, fun i r b hr hrb => ?_, fun b hb hl hn o => (k.ro b (by omega) hl (fun hh => hn (h.back hb hh)) o).trans (h.ro b hb hl hn o), h.le.trans k.le⟩
  · rcases k.bx i x hx hxo with h1 | ⟨y, h1, h2, h3⟩
    · exact .inl (by omega)
    · rw [← h3]; exact h.bx i y h1 h2
  · rcases k.rw i r b hr hrb with h1 | ⟨s, h1, h2⟩
    · exact .inl (by omega)
    · exact h.rw i s b h1 h2
theorem Inv.self {bx : List (Ty × AV)} {fz : List Nat} {rw : List (TypeId × Nat)} (HI : Inv P w0 N g bx fz rw w) : Inv P w g g bx fz rw w :=
  ⟨HI.mem, ⟨Kept.refl _ _, fun i x hx hxo => .inr ⟨x, hx, hxo, rfl⟩, fun i r k hr hrk => .inr ⟨r, hr, hrk⟩, fun _ _ _ _ => rfl, Gh.le.refl _⟩, HI.br, HI.fz, HI.wr, HI.wz⟩
theorem XOk.step {x : XR} (h : XOk lo N1 w1 x) {bx : List (Ty × AV)} {fz : List Nat} {rw : List (TypeId × Nat)} (HI : Inv P w1 N1 g bx fz rw w) : XOk lo g w x := by
  have hB := FrX.of HI.fr w1.heap.size
  refine ⟨h.le, h.nil, fun b hb => ?_⟩
  obtain ⟨h1, h2, h3, h4⟩ := h.own b hb
  exact ⟨fun hh => h1 (hB.back h3.lt hh), h2, h3.kept HI.fr.kept h1, fun o u ho hu => HI.fr.le.ro _ _ _ (h4 o u ho hu)⟩
theorem Xs.step (h : Xs lo N1 w1 X) {bx : List (Ty × AV)} {fz : List Nat} {rw : List (TypeId × Nat)} (HI : Inv P w1 N1 g bx fz rw w) : Xs lo g w X := ⟨fun x hx => (h.ok x hx).step HI, h.un⟩
/-- A frame, and rows on their own. -/
def RelX (lo : Nat) (P : Program) (w0 : World) (N : Gh) (nt : Nat) (st : St) (X : List XR) (a : Act) (w : World) : Prop :=
  ∃ g, Inv P w g g st.bx st.fz st.rw w ∧ FrX lo w0 N g w ∧ FR g nt st a ∧ Xs lo g w X
theorem Rel.toX (H : Rel P w0 N nt st a w) (lo : Nat) : RelX lo P w0 N nt st [] a w := by
  obtain ⟨g, HI, hF⟩ := H
  exact ⟨g, HI.self, .of HI.fr lo, hF, ⟨fun x hx => (by cases hx), List.Pairwise.nil⟩⟩
theorem RelX.open_ (H : RelX lo P w0 N nt st X a w) : ∃ N1, FrX lo w0 N N1 w ∧ Xs lo N1 w X ∧ Rel P w N1 nt st a w ∧ N1.bx.length = st.bx.length ∧ N1.rw.length = st.rw.length := by
  obtain ⟨g, HI, hB, hF, hX⟩ := H
  exact ⟨g, hB, hX, ⟨g, HI, hF⟩, HI.br.len, by rw [← HI.wr, List.length_map]⟩
theorem RelX.close (hB : FrX lo w0 N N1 w1) (hX : Xs lo N1 w1 X) (H : Rel P w1 N1 nt st a w) : RelX lo P w0 N nt st X a w := by
  obtain ⟨g, HI, hF⟩ := H
  exact ⟨g, HI.self, hB.trans (.of HI.fr lo), hF, hX.step HI⟩
theorem RelX.cast (H : RelX lo P w0 N nt st X a w) (h : st = st') : RelX lo P w0 N nt st' X a w := h ▸ H
theorem RelX.eq (H : RelX lo P w0 N nt st X a w) (h : X = Y) : RelX lo P w0 N nt st Y a w := h ▸ H
/-- Bytes that are the last row's become a row on its own. -/
theorem v_pub (H : RelX lo P w0 N nt st X a w) (hlo : lo ≤ w0.heap.size) (ks : List Nat) (d k e : Nat) {l : List UInt8} (hk : st.rw.length = k + 1) (hNk : N.rw.length ≤ k) (hd : find d st.t = some (none, .bs l (some k))) (hrow : st.rw[k]? = some (e, l.length))
    (h1 : keepT ks st.bx.length k st.t = true) (h2 : (st.bx.take st.bx.length).all (fun x => low st.bx.length k 4 x.2) = true) :
    ∃ x : XR, (x.n = l.length ∧ x.tid = e ∧ x.k = l.length ∧ ∃ m, x.c = l.length + m ∧ x.cells = l.map B8 ++ (List.replicate m (zeroOf P e)).flatten) ∧ RelX lo P w0 N nt ⟨(d, none, .v x.v) :: st.t.filter (fun p => ks.contains p.1), st.bx.take st.bx.length, st.fz, st.rw.take k⟩ (X ++ [x]) a w := by
  obtain ⟨g, HI, hB, hF, hX⟩ := H
  have hgl : g.rw.length = k + 1 := by rw [← hk, ← HI.wr, List.length_map]
  have hbs := (hF.t _ (find_mem hd) trivial).bs_inv
  have hv0 : a.tmps.getD d undef = a.tmps.getD d undef := rfl
  generalize hvd : a.tmps.getD d undef = vd at hbs
  cases hbs with
  | @bs _ _ _ A c hc hm hr ht =>
    obtain ⟨r, hrk, _, h3⟩ := ht k rfl
    have hw : (r.tid, r.n) = (e, l.length) := by
      have := HI.wr
      rw [← this, List.getElem?_map, hrk] at hrow
      injection hrow
    simp only [Prod.mk.injEq] at hw
    obtain ⟨hv, hcx⟩ := h3 hw.2
    have hcut := HI.loose.cut (nb := st.bx.length) (nr := k) (Nat.zero_le _) (Nat.zero_le _) h2
    have hbx : ∀ {i : Nat} {x : Bx}, (g.cut st.bx.length k).bx[i]? = some x → g.bx[i]? = some x := fun {i x} hx => by
      have : (g.bx.take st.bx.length)[i]? = some x := hx
      rw [List.getElem?_take] at this; split at this; exact this; cases this
    have hrw : ∀ {i : Nat} {x : Rw}, (g.cut st.bx.length k).rw[i]? = some x → i < k ∧ g.rw[i]? = some x := fun {i x} hx => by
      have : (g.rw.take k)[i]? = some x := hx
      rw [List.getElem?_take] at this; split at this; exact ⟨by assumption, this⟩; cases this
    have hhas : ∀ b, (g.cut st.bx.length k).has b → g.has b := fun b hh => by
      rcases hh with ⟨y, hy, h⟩ | ⟨s, hs, h⟩
      · exact .inl ⟨y, List.mem_of_mem_take hy, h⟩
      · exact .inr ⟨s, List.mem_of_mem_take hs, h⟩
    have hrow1 := HI.mem.rw k r hrk
    have hz := (HI.wz r (List.mem_of_getElem? hrk)).2
    have hxv : (⟨r.v.ownBlock, r.n, c, r.tid, r.cx ++ noughts r, l.length⟩ : XR).v = r.v := by
      rcases hrow1.at_ with ⟨q1, q2, q3⟩ | ⟨b, q1, q2, q3⟩
      · rw [q1] at hv; injection hv with _ hv1 hv2
        unfold XR.v; rw [q1, q2, ← hv2]; rfl
      · rw [q1] at hv; injection hv with _ hv1 hv2
        unfold XR.v; rw [q1, ← hv2]; rfl
    refine ⟨⟨r.v.ownBlock, r.n, c, r.tid, r.cx ++ noughts r, l.length⟩, ⟨hw.2, hw.1, rfl, r.m, by
      show c = l.length + r.m
      rcases hrow1.at_ with ⟨q1, q2, q3⟩ | ⟨b, q1, q2, q3⟩
      · rw [q1] at hv; injection hv with _ hv1 hv2; omega
      · rw [q1] at hv; injection hv with _ hv1 hv2; omega, by rw [hcx]; unfold noughts; rw [hz, hw.1]⟩, g.cut st.bx.length k, hcut.self, ⟨hB.os, hB.tape, hB.output, hB.size, hB.block, fun i x hx => hB.bx i x (hbx hx), fun i s b hs => hB.rw i s b (hrw hs).2, hB.ro, hB.le.ro, fun i x hx => ?_, fun i s hs => ?_⟩, ⟨hF.sz, hF.df, fun p hp hg => ?_, fun p hp hg => ?_⟩, ⟨fun x hx => ?_, ?_⟩⟩
    · obtain ⟨x', q1, q2⟩ := hB.le.bx i x hx
      refine ⟨x', ?_, q2⟩
      show (g.bx.take st.bx.length)[i]? = _
      rw [List.getElem?_take, if_pos (by rw [← HI.br.len]; exact (List.getElem?_eq_some_iff.1 q1).1)]; exact q1
    · obtain ⟨x', q1, q2⟩ := hB.le.rw i s hs
      refine ⟨x', ?_, q2⟩
      show (g.rw.take k)[i]? = _
      rw [List.getElem?_take, if_pos (Nat.lt_of_lt_of_le (List.getElem?_eq_some_iff.1 hs).1 hNk)]; exact q1
    · rcases List.mem_cons.1 hp with rfl | hp
      · show RV _ (.v _) (a.tmps.getD d undef)
        rw [hvd, hxv, hv]; exact RV.v_of rfl
      · simp only [List.mem_filter] at hp
        simp only [keepT, List.all_eq_true, Bool.or_eq_true, Bool.not_eq_true'] at h1
        have hl : low st.bx.length k 4 p.2.2 = true := by
          rcases h1 p hp.1 with h | h
          · rw [h] at hp; cases hp.2
          · exact h
        exact (hF.t p hp.1 hg).low_ (d := 3) hl
    · rcases List.mem_cons.1 hp with rfl | hp
      · exact absurd trivial hg
      · simp only [List.mem_filter] at hp; exact hF.u p hp.1 hg
    · rcases List.mem_append.1 hx with hx | hx
      · have h := hX.ok x hx
        exact ⟨h.le, h.nil, fun b hb => ⟨fun hh => (h.own b hb).1 (hhas b hh), (h.own b hb).2⟩⟩
      · simp only [List.mem_singleton] at hx
        subst hx
        refine ⟨⟨by show r.n ≤ c; rw [hw.2]; exact hc, hm⟩, fun hA => ?_, fun b hb => ⟨fun hh => ?_, ?_, ?_, fun o u ho hu => ?_⟩⟩
        · show c = 0
          rcases hrow1.at_ with ⟨q1, _⟩ | ⟨b, q1, _⟩
          · rw [q1] at hv; injection hv with _ _ hv2; exact hv2.symm
          · have : r.v.ownBlock = none := hA
            rw [q1] at this; cases this
        · rcases hh with ⟨y, hy, hyo, he⟩ | ⟨s, hs, he⟩
          · obtain ⟨i, hi⟩ := List.getElem?_of_mem hy
            exact HI.mem.rb i k y r (hbx hi) hrk hyo (by rw [he]; exact hb)
          · obtain ⟨i, hi⟩ := List.getElem?_of_mem hs
            have := HI.mem.rr i k s r b (hrw hi).2 hrk he hb
            have := (hrw hi).1
            omega
        · rcases hB.rw k r b hrk hb with h | ⟨s, h, _⟩
          · omega
          · have := (List.getElem?_eq_some_iff.1 h).1; omega
        · have hb : r.v.ownBlock = some b := hb
          rcases hrow1.at_ with ⟨q1, _⟩ | ⟨b', q1, q2, _⟩
          · rw [q1] at hb; cases hb
          · rw [q1] at hb; injection hb with hb; subst hb; exact q2
        · refine HI.mem.rwo k r b hrk hb o u ?_
          have hu : (r.cx ++ noughts r)[o]? = some u := hu
          rwa [List.getElem?_append_left (by rw [hcx, List.length_map]; exact ho)] at hu
    · unfold XApart
      rw [List.pairwise_append]
      refine ⟨hX.un, List.pairwise_singleton _ _, fun x hx y hy => ?_⟩
      simp only [List.mem_singleton] at hy
      subst hy
      cases hb : x.A with
      | none => exact .inl rfl
      | some b =>
        refine .inr fun e => ?_
        have hn := ((hX.ok x hx).own b hb).1
        exact hn (.inr ⟨r, List.mem_of_getElem? hrk, e.symm⟩)
/-- Lent bytes that are the last box become a slice on its own. -/
theorem v_pubC (H : RelX lo P w0 N nt st X a w) (hlo : lo ≤ w0.heap.size) (ks : List Nat) (d i : Nat) {full : List UInt8} {n m : Nat} {l' : List UInt8} (hi : st.bx.length = i + 1) (hNi : N.bx.length ≤ i) (hd : find d st.t = some (none, .bc full n (some i))) (hbx0 : st.bx[i]? = some (.ba m, .ba l'))
    (h1 : keepT ks i st.rw.length st.t = true) (h2 : (st.bx.take i).all (fun x => low i st.rw.length 4 x.2) = true) :
    ∃ x : XR, (x.n = n ∧ x.c = full.length ∧ x.k = full.length ∧ x.cells = full.map B8) ∧ RelX lo P w0 N nt ⟨(d, none, .v x.v) :: st.t.filter (fun p => ks.contains p.1), st.bx.take i, st.fz.filter (fun j => decide (j < i)), st.rw.take st.rw.length⟩ (X ++ [x]) a w := by
  obtain ⟨g, HI, hB, hF, hX⟩ := H
  have hbl : g.bx.length = i + 1 := by rw [← hi]; exact HI.br.len
  have hrl : g.rw.length = st.rw.length := by rw [← HI.wr, List.length_map]
  have hbs := (hF.t _ (find_mem hd) trivial).bc_inv
  generalize hvd : a.tmps.getD d undef = vd at hbs
  cases hbs with
  | bc hn hm hr ht =>
    rename_i A
    obtain ⟨y, hy, hA, hty⟩ := ht i rfl
    obtain ⟨y', hy', hT, hrc⟩ := HI.br.at_ i _ _ hbx0
    rw [hy] at hy'; injection hy' with hy'; subst hy'
    rw [hty] at hT; injection hT with hT
    obtain ⟨hyo, hym, hrc⟩ := hrc.rc rfl
    have hblk := (HI.mem.bx i y hy hyo).c hym
    have hcells : y.cells = l'.map B8 ∧ l'.length = m := by
      generalize hcs : y.cells = cs at hrc
      cases hrc with
      | ba h => exact ⟨rfl, h⟩
    have hll : l'.length = full.length := by rw [hcells.2, hT]
    have hfl : l' = full := by
      apply List.ext_getElem hll
      intro j hj1 hj2
      rcases hr with h | ⟨b, o, hb, hj⟩
      · subst h; simp at hj2
      · rw [hA] at hb
        injection hb with hb
        injection hb with hb1 hb2
        have h5 := HI.mem.ro _ _ _ (hj j hj2)
        rw [← hb1, ← hb2, Nat.zero_add, hblk.cell, hcells.1] at h5
        simp only [List.getElem?_toArray, List.getElem?_map, List.getElem?_eq_getElem hj1, Option.map_some, Option.some.injEq] at h5
        have h6 : B8 l'[j] = B8 full[j] := h5
        simp only [B8, Value.int.injEq, true_and] at h6
        exact UInt8.toNat_inj.1 (by omega)
    subst hfl
    have hcut := HI.loose.cut (nb := i) (nr := st.rw.length) (Nat.zero_le _) (Nat.zero_le _) h2
    have hbx : ∀ {j : Nat} {x : Bx}, (g.cut i st.rw.length).bx[j]? = some x → j < i ∧ g.bx[j]? = some x := fun {j x} hx => by
      have : (g.bx.take i)[j]? = some x := hx
      rw [List.getElem?_take] at this; split at this; exact ⟨by assumption, this⟩; cases this
    have hrw : ∀ {j : Nat} {x : Rw}, (g.cut i st.rw.length).rw[j]? = some x → g.rw[j]? = some x := fun {j x} hx => by
      have : (g.rw.take st.rw.length)[j]? = some x := hx
      rw [List.getElem?_take] at this; split at this; exact this; cases this
    have hhas : ∀ b, (g.cut i st.rw.length).has b → g.has b := fun b hh => by
      rcases hh with ⟨y, hy, h⟩ | ⟨s, hs, h⟩
      · exact .inl ⟨y, List.mem_of_mem_take hy, h⟩
      · exact .inr ⟨s, List.mem_of_mem_take hs, h⟩
    have hself := hcut.self
    refine ⟨⟨some y.blk, n, l'.length, y.tid, l'.map B8, l'.length⟩, ⟨rfl, rfl, rfl, rfl⟩, g.cut i st.rw.length, ⟨hself.mem, hself.fr, hself.br, fun j x hx hf => ?_, hself.wr, hself.wz⟩, ⟨hB.os, hB.tape, hB.output, hB.size, hB.block, fun j x hx => hB.bx j x (hbx hx).2, fun j s b hs => hB.rw j s b (hrw hs), hB.ro, hB.le.ro, fun j x hx => ?_, fun j s hs => ?_⟩, ⟨hF.sz, hF.df, fun p hp hg => ?_, fun p hp hg => ?_⟩, ⟨fun x hx => ?_, ?_⟩⟩
    · exact List.mem_filter.2 ⟨HI.fz j x (hbx hx).2 hf, decide_eq_true (hbx hx).1⟩
    · obtain ⟨x', q1, q2⟩ := hB.le.bx j x hx
      refine ⟨x', ?_, q2⟩
      show (g.bx.take i)[j]? = _
      rw [List.getElem?_take, if_pos (Nat.lt_of_lt_of_le (List.getElem?_eq_some_iff.1 hx).1 hNi)]; exact q1
    · obtain ⟨x', q1, q2⟩ := hB.le.rw j s hs
      refine ⟨x', ?_, q2⟩
      show (g.rw.take st.rw.length)[j]? = _
      rw [List.getElem?_take, if_pos (by rw [← hrl]; exact (List.getElem?_eq_some_iff.1 q1).1)]; exact q1
    · rcases List.mem_cons.1 hp with rfl | hp
      · show RV _ (.v _) (a.tmps.getD d undef)
        rw [hvd, hA]; exact RV.v_of rfl
      · simp only [List.mem_filter] at hp
        simp only [keepT, List.all_eq_true, Bool.or_eq_true, Bool.not_eq_true'] at h1
        have hl : low i st.rw.length 4 p.2.2 = true := by
          rcases h1 p hp.1 with h | h
          · rw [h] at hp; cases hp.2
          · exact h
        exact (hF.t p hp.1 hg).low_ (d := 3) hl
    · rcases List.mem_cons.1 hp with rfl | hp
      · exact absurd trivial hg
      · simp only [List.mem_filter] at hp; exact hF.u p hp.1 hg
    · rcases List.mem_append.1 hx with hx | hx
      · have h := hX.ok x hx
        exact ⟨h.le, h.nil, fun b hb => ⟨fun hh => (h.own b hb).1 (hhas b hh), (h.own b hb).2⟩⟩
      · simp only [List.mem_singleton] at hx
        subst hx
        refine ⟨⟨hn, hm⟩, fun hA => (by cases hA), fun b hb => ?_⟩
        injection hb with hb
        subst hb
        refine ⟨fun hh => ?_, ?_, by rw [← hcells.1]; exact hblk, fun o u ho hu => ?_⟩
        · rcases hh with ⟨z, hz, hzo, he⟩ | ⟨s, hs, he⟩
          · obtain ⟨j, hj⟩ := List.getElem?_of_mem hz
            have := HI.mem.bb j i z y (hbx hj).2 hy hzo hyo he
            have := (hbx hj).1
            omega
          · obtain ⟨j, hj⟩ := List.getElem?_of_mem hs
            exact HI.mem.rb i j y s hy (hrw hj) hyo he
        · rcases hB.bx i y hy hyo with h | ⟨s, h, _⟩
          · omega
          · have := (List.getElem?_eq_some_iff.1 h).1; omega
        · rcases hr with h | ⟨b, o', hb, hj⟩
          · subst h; simp at hu
          · rw [hA] at hb
            injection hb with hb
            injection hb with hb1 hb2
            have hol : o < l'.length := ho
            have := hj o hol
            rw [← hb1, ← hb2, Nat.zero_add] at this
            have hu : (l'.map B8)[o]? = some u := hu
            rw [List.getElem?_map, List.getElem?_eq_getElem hol] at hu
            show g.ro y.blk o = some u
            rw [this]; exact hu
    · unfold XApart
      rw [List.pairwise_append]
      refine ⟨hX.un, List.pairwise_singleton _ _, fun x hx z hz => ?_⟩
      simp only [List.mem_singleton] at hz
      subst hz
      cases hb : x.A with
      | none => exact .inl rfl
      | some b =>
        refine .inr fun e => ?_
        injection e with e
        exact ((hX.ok x hx).own b hb).1 (.inl ⟨y, List.mem_of_getElem? hy, hyo, e.symm⟩)
/-- Rows on their own are seen as bytes. -/
inductive SeeX (X : List XR) : AV → AV → Prop
  | refl (x : AV) : SeeX X x x
  | pub (x : XR) (l : List UInt8) (h : x ∈ X) (hk : l.length ≤ x.k) (hn : x.n = l.length) (hc : x.cells.take l.length = l.map B8) : SeeX X (.v x.v) (.bs l none)
  | pubc (x : XR) (full : List UInt8) (h : x ∈ X) (hk : full.length ≤ x.k) (hc : x.c = full.length) (hs : x.cells = full.map B8) : SeeX X (.v x.v) (.bc full x.n none)
  | bs (l : List UInt8) (tok : Option Nat) : SeeX X (.bs l tok) (.bs l none)
  | nil : SeeX X (.v (.slice none 0 0)) (.bs [] none)
  | st {fs fs' : List AV} (hl : fs.length = fs'.length) (h : ∀ i (h1 : i < fs.length) (h2 : i < fs'.length), SeeX X fs[i] fs'[i]) : SeeX X (.st fs) (.st fs')
  | sl {T : Ty} {es es' : List AV} {tok : Option Nat} (hl : es.length = es'.length) (h : ∀ i (h1 : i < es.length) (h2 : i < es'.length), SeeX X es[i] es'[i]) : SeeX X (.sl T es tok) (.sl T es' none)
theorem RC.seeX {x y : AV} (hX : Xs lo N w0 X) (hs : SeeX X x y) : ∀ {g : Gh} {T : Ty} {cs : List Value}, (∀ b o u, N.ro b o = some u → g.ro b o = some u) → RC g T x cs → RC g T y cs := by
  induction hs with
  | refl x => intro g T cs _ h; exact h
  | pub x l hx hk hn hc =>
    intro g T cs hro h
    obtain ⟨rfl, rfl⟩ := h.v_inv
    have ho := hX.ok x hx
    unfold XR.v
    rw [hn]
    refine .bs (by have := ho.le.1; omega) ho.le.2 ?_ fun i hi => by cases hi
    cases hA : x.A with
    | none => left; have := ho.nil hA; have := ho.le.1; exact List.length_eq_zero_iff.1 (by omega)
    | some b =>
      right
      refine ⟨b, 0, rfl, fun j hj => ?_⟩
      rw [Nat.zero_add]
      refine hro _ _ _ ((ho.own b hA).2.2.2 j _ (by omega) ?_)
      have : (x.cells.take l.length)[j]? = some (B8 l[j]) := by rw [hc, List.getElem?_map, List.getElem?_eq_getElem hj]; rfl
      rwa [List.getElem?_take, if_pos hj] at this
  | pubc x full hx hk hc hs =>
    intro g T cs hro h
    obtain ⟨rfl, rfl⟩ := h.v_inv
    have ho := hX.ok x hx
    unfold XR.v
    rw [hc]
    refine .bc (by have := ho.le.1; omega) (by have := ho.le.2; omega) ?_ fun i hi => by cases hi
    cases hA : x.A with
    | none => left; have := ho.nil hA; exact List.length_eq_zero_iff.1 (by omega)
    | some b =>
      right
      refine ⟨b, 0, rfl, fun j hj => ?_⟩
      rw [Nat.zero_add]
      refine hro _ _ _ ((ho.own b hA).2.2.2 j _ (by omega) ?_)
      rw [hs, List.getElem?_map, List.getElem?_eq_getElem hj]; rfl
  | bs l tok => intro g T cs _ h; cases h with | bs hc hm hr ht => exact .bs hc hm hr fun i hi => by cases hi
  | nil => intro g T cs _ h; obtain ⟨rfl, rfl⟩ := h.v_inv; exact RC.nil1 rfl
  | @st fs fs' hl hsub ih =>
    intro g T cs hro h
    induction T generalizing cs fs fs' with
    | cn T Ts _ ihs =>
      cases h with
      | cn h hs =>
        cases fs' with
        | nil => cases hl
        | cons b m =>
          refine .cn (ih 0 (by simp) (by simp) hro h) (ihs (by simpa using hl) (fun i h1 h2 => hsub (i + 1) (by simpa using h1) (by simpa using h2)) (fun i h1 h2 => ?_) hs)
          intro g T cs hro h
          exact ih (i + 1) (by simpa using h1) (by simpa using h2) hro (by simpa using h)
    | nl => cases h; cases fs' with | nil => exact .nl | cons _ _ => cases hl
    | _ => cases h
  | @sl T es es' tok hl _ ih =>
    intro g T2 cs hro h
    cases h with
    | @sl _ _ _ _ A c hc hm F hr hv ht =>
      rw [hl] at hc ⊢
      refine .sl hc hm F ?_ (fun k hk => ih k (by rw [hl]; exact hk) hk (fun b o u hu => hro b o u hu) (hv k (by rw [hl]; exact hk))) fun i hi => by cases hi
      rcases hr with h | ⟨b, o, hA, hj⟩
      · left; subst h; exact List.length_eq_zero_iff.1 hl.symm
      · exact .inr ⟨b, o, hA, fun k hk => hj k (by rw [hl]; exact hk)⟩
theorem SeeX.not {x y : AV} (h : SeeX X x y) : (x = .any → y = .any) ∧ (∀ az, x = .tup az → y = .tup az) := by
  cases h <;> exact ⟨fun e => (by first | exact e | cases e), fun az e => (by first | exact e | cases e)⟩
theorem RV.seeX {x y : AV} (hX : Xs lo N w0 X) (hs : SeeX X x y) (hro : ∀ b o u, N.ro b o = some u → g.ro b o = some u) {v : Value} (h : RV g x v) : RV g y v := by
  by_cases h1 : x = .any
  · rw [hs.not.1 h1]; trivial
  by_cases h2 : ∃ az, x = .tup az
  · obtain ⟨az, h2⟩ := h2
    rw [hs.not.2 az h2]; rw [h2] at h; exact h
  have h3 : RV1 g x v := by
    cases x with
    | any => exact absurd rfl h1
    | tup az => exact absurd ⟨az, rfl⟩ h2
    | _ => exact h
  rcases h3 with ⟨T, cs, e1, e2, e3⟩ | h3
  · exact RV1.rv (.inl ⟨T, cs, e1, e2.seeX hX hs hro, e3⟩)
  · exact RV1.rv (.inr (h3.seeX hX hs hro))
theorem v_seeX (hX : Xs lo N w0 X) (H : Rel P w0 N nt st a w) (d : Nat) {x : AV} (y : AV) (hs : SeeX X x y) (hd : find d st.t = some (none, x)) : Rel P w0 N nt ⟨nilT d y st.t, st.bx, st.fz, st.rw⟩ a w := by
  obtain ⟨g, HI, hF⟩ := H
  refine ⟨g, HI, hF.sz, hF.df, fun p hp hg => ?_, fun p hp hg => by rcases nilT_mem hp with h | h; (subst h; exact absurd trivial hg); exact hF.u p h hg⟩
  rcases nilT_mem hp with h | h
  · subst h; exact (hF.t _ (find_mem hd) trivial).seeX hX hs fun b o u hu => HI.fr.le.ro b o u hu
  · exact hF.t p h hg
/-- A contract that hands out rows on their own. -/
def PostX (P : Program) (w0 : World) (N : Gh) (R : List XR → List (Ty × AV) → List (TypeId × Nat) → AV → Prop) (e : Ending) (w' : World) : Prop :=
  ∃ X bx' rw' res g v, R X bx' rw' res ∧ e = .returned v ∧ Inv P w0 N g bx' [] rw' w' ∧ RV g res v ∧ Xs w0.heap.size g w' X
def VE (P : Program) (f : FuncId) (args : List AV) (R : List XR → List (Ty × AV) → List (TypeId × Nat) → AV → Prop) : Prop :=
  Fok P f ∧ ∀ (w : World) (N : Gh) (vs : List Value), Inv P w N N [] [] [] w → vs.length = args.length → (∀ (i : Nat) x v, args[i]? = some x → vs[i]? = some v → RV N x v) → Calls P f vs.toArray w (PostX P w N R)
theorem v_enterE {f : FuncId} {fn : Func} {c : Code} {args : List AV} {R : List XR → List (Ty × AV) → List (TypeId × Nat) → AV → Prop} (hf : P.funcs[f]? = some fn) (hb : fn.body = some c) (hnm : (fn.name == "runtime.NumGoroutine") = false) (hn : args.length ≤ fn.ntmps)
    (h : ∀ (N : Gh) (w0 : World) (a : Act) (w : World), N.bx.length ≤ 0 → N.rw.length ≤ 0 → Rel P w0 N fn.ntmps ⟨slots 0 args, [], [], []⟩ a w → c.wp P (bodyPost P fn (PostX P w0 N R)) a w) : VE P f args R := by
  refine ⟨⟨fn, hf, hnm, by rw [hb]; rfl⟩, ?_⟩
  intro w N vs hI hl hv
  refine calls_of_wp hf hb (h N w _ w (by rw [hI.br.len]; exact Nat.le_refl _) (by have := hI.wr; rw [List.map_eq_nil_iff] at this; rw [this]; exact Nat.le_refl _) ⟨N, hI, ?_, rfl, fun p hp _ => ?_, fun p hp hg => absurd (by obtain ⟨_, _, h2, _⟩ := slots_mem hp; rw [h2]; trivial) hg⟩)
  · simp only [Array.size_append, List.size_toArray, Array.size_replicate, hl]; omega
  · obtain ⟨i, h1, h2, h3⟩ := slots_mem hp
    have hi : i < vs.length := by rw [hl]; exact (List.getElem?_eq_some_iff.1 h3).1
    have := hv i p.2.2 vs[i] h3 (List.getElem?_eq_getElem hi)
    rw [h1, Nat.zero_add]
    have e : (vs.toArray ++ Array.replicate (fn.ntmps - vs.toArray.size) undef).getD i undef = vs[i] := by
      rw [Array.getD_eq_getD_getElem?, Array.getElem?_append_left (by simpa using hi)]; simp [hi]
    exact e ▸ this
theorem v_endG {fn : Func} {rs : List ResultVar} {nb nr : Nat} (js ks : List Nat) (hτ : τ.ok P) (hM : N.bx.length ≤ nb ∧ N.rw.length ≤ nr) (hr : fn.results = rs.toArray) (HI : Inv P w0 N g st.bx st.fz st.rw w) (hF : FR g nt st a)
    (hchk : (okSel js st.bx.length && okSel ks st.rw.length && usesB js st.bx && preOk js nb && preOk ks nr && rs.all (fun x => argOk js (resv τ st x))) = true)
    {bx' : List (Ty × AV)} {fz' : List Nat} {rw' : List (TypeId × Nat)} {ress : List AV} {res : AV} (hf : fzOk js st.fz fz' 0 = true) (hb : bxs (pickB js ks st.bx) bx') (hw : ks.filterMap (st.rw[·]?) = rw')
    (he : allP (sub 4) (rs.map fun x => ren (idx? js) (idx? ks) 4 (resv τ st x)) ress) (ht : tupOf ress = res) :
    a.defers = [] ∧ ∃ v, (results fn a.tmps).run P w = .ok v w ∧ Inv P w0 N (g.pick js ks) bx' fz' rw' w ∧ RV (g.pick js ks) res v := by
  subst ht
  simp only [Bool.and_eq_true] at hchk
  obtain ⟨⟨⟨⟨⟨c1, c2⟩, c3⟩, c4⟩, c5⟩, c6⟩ := hchk
  obtain ⟨hj, nj⟩ := okSel_ok c1
  obtain ⟨hk, nk⟩ := okSel_ok c2
  have hlr : g.rw.length = st.rw.length := by rw [← HI.wr, List.length_map]
  have hj' : ∀ j ∈ js, j < g.bx.length := fun j hm => by rw [HI.br.len]; exact hj j hm
  have hk' : ∀ k ∈ ks, k < g.rw.length := fun k hm => by rw [hlr]; exact hk k hm
  have p1 := fun j hj => preOk_ok c4 j (Nat.lt_of_lt_of_le hj hM.1)
  have p2 := fun j hj => preOk_ok c5 j (Nat.lt_of_lt_of_le hj hM.2)
  have hfr : Fr w0 N (g.pick js ks) w := by
    refine ⟨HI.fr.kept, fun i x hx hxo => ?_, fun i r k hr hrk => ?_, HI.fr.ro, ⟨HI.fr.le.ro, fun i x hx => ?_, fun i r hr => ?_⟩⟩
    · have hx' : (js.filterMap (g.bx[·]?))[i]? = some x := hx
      rw [pick_get hj'] at hx'
      obtain ⟨j, h1, h2⟩ := Option.bind_eq_some_iff.1 hx'
      rcases HI.fr.bx j x h2 hxo with h3 | ⟨y, h3, h4⟩
      · exact .inl h3
      · have := nodup_get nj h1 (p1 j (List.getElem?_eq_some_iff.1 h3).1); subst this
        exact .inr ⟨y, h3, h4⟩
    · have hx' : (ks.filterMap (g.rw[·]?))[i]? = some r := hr
      rw [pick_get hk'] at hx'
      obtain ⟨j, h1, h2⟩ := Option.bind_eq_some_iff.1 hx'
      rcases HI.fr.rw j r k h2 hrk with h3 | ⟨y, h3, h4⟩
      · exact .inl h3
      · have := nodup_get nk h1 (p2 j (List.getElem?_eq_some_iff.1 h3).1); subst this
        exact .inr ⟨y, h3, h4⟩
    · obtain ⟨x', h1, h2⟩ := HI.fr.le.bx i x hx
      refine ⟨x', ?_, h2⟩
      show (js.filterMap (g.bx[·]?))[i]? = _
      rw [pick_get hj', p1 i (List.getElem?_eq_some_iff.1 hx).1]; exact h1
    · obtain ⟨x', h1, h2⟩ := HI.fr.le.rw i r hr
      refine ⟨x', ?_, h2⟩
      show (ks.filterMap (g.rw[·]?))[i]? = _
      rw [pick_get hk', p2 i (List.getElem?_eq_some_iff.1 hr).1]; exact h1
  have HP : Inv P w0 N (g.pick js ks) bx' fz' rw' w := HI.pick js ks hj hk nj nk (usesB_ok c3) hb (fun i j hi hm => by simpa using fzOk_ok hf i j hi hm) hw hfr
  have key : ∀ (l : List ResultVar) (ress : List AV), l.all (fun x => argOk js (resv τ st x)) = true → allP (sub 4) (l.map fun x => ren (idx? js) (idx? ks) 4 (resv τ st x)) ress → ∃ vs : List Value, (l.mapM fun x : ResultVar => (match x with
      | .tmp t => pure (a.tmps.getD t undef)
      | .cell p t => (do loadVar t (← asAddr (a.tmps.getD p undef))) : Sem Value)).run P w = .ok vs w ∧ vs.length = l.length ∧ vs.length = ress.length ∧ ∀ (i : Nat) x v, ress[i]? = some x → vs[i]? = some v → RV1 (g.pick js ks) x v := by
    intro l
    induction l with
    | nil => intro ress _ he; cases ress with
      | nil => exact ⟨[], rfl, rfl, rfl, fun i x v h => by simp at h⟩
      | cons _ _ => exact he.elim
    | cons x l ih =>
      intro ress hp he
      cases ress with
      | nil => exact he.elim
      | cons y ress =>
      simp only [List.all_cons, Bool.and_eq_true] at hp
      obtain ⟨vs, h1, h2, h2', h3⟩ := ih ress hp.2 he.2
      have hc := hp.1
      simp only [argOk, Bool.and_eq_true, Bool.not_eq_true'] at hc
      obtain ⟨v, h4, h5⟩ := resv_sound (P := P) hτ HI hF x hc.1.2
      have ht : ∀ az, resv τ st x ≠ .tup az := fun az e => by rw [e] at hc; simp at hc
      have h6 := ((h5.pick_ (d := 3) hj' hk' hc.1.1).rv1 (ren_any hc.1.2) (ren_tup ht)).sub_ he.1
      refine ⟨v :: vs, ?_, by simp [h2], by simp [h2'], fun i z u hz hu => ?_⟩
      · rw [List.mapM_cons]
        cases x <;> (dsimp only at h4 ⊢; simp only [Sem.run_bind, h4, Result.andThen_ok, h1, Sem.run_pure])
      · cases i with
        | zero =>
          simp only [List.getElem?_cons_zero, Option.some.injEq] at hz hu
          subst hz hu; exact h6
        | succ i => exact h3 i z u (by simpa using hz) (by simpa using hu)
  obtain ⟨vs, h1, h2, h2', h3⟩ := key rs ress c6 he
  have hres : (results fn a.tmps).run P w = .ok (if h : vs.length = 1 then vs[0] else .tuple vs.toArray) w := by
    have e : results fn a.tmps = (do
        let vs ← rs.toArray.mapM fun x : ResultVar => (match x with
          | .tmp t => pure (a.tmps.getD t undef)
          | .cell p t => (do loadVar t (← asAddr (a.tmps.getD p undef))) : Sem Value)
        pure (if h : vs.size = 1 then vs[0] else .tuple vs)) := by unfold results; rw [hr]; rfl
    rw [e]
    simp only [Sem.run_bind, Array.mapM_eq_mapM_toList, Sem.run_map]
    rw [h1]
    simp
  refine ⟨hF.df, _, hres, HP, ?_⟩
  by_cases hl : vs.length = 1
  · rw [dif_pos hl]
    obtain ⟨x, rfl⟩ : ∃ x, ress = [x] := by
      match ress, h2' with
      | [x], _ => exact ⟨x, rfl⟩
      | [], h => simp at h; rw [h] at hl; cases hl
      | x :: y :: l, h => simp at h; omega
    exact (h3 0 _ _ rfl (List.getElem?_eq_getElem (by omega))).rv
  · rw [dif_neg hl]
    have htu : tupOf ress = .tup ress := by
      match ress, h2' with
      | [x], h => simp at h; exact absurd h hl
      | [], h => rfl
      | x :: y :: l, h => rfl
    rw [htu]
    exact ⟨vs, rfl, h2', fun i x u hx hu => h3 i x u hx hu⟩

theorem pick_has {js ks : List Nat} {b : Nat} (h : (g.pick js ks).has b) : g.has b := by
  rcases h with ⟨y, hy, h⟩ | ⟨s, hs, h⟩
  · obtain ⟨j, _, hj⟩ := List.mem_filterMap.1 hy; exact .inl ⟨y, List.mem_of_getElem? hj, h⟩
  · obtain ⟨j, _, hj⟩ := List.mem_filterMap.1 hs; exact .inr ⟨s, List.mem_of_getElem? hj, h⟩
theorem v_endE {fn : Func} {rs : List ResultVar} {nb nr : Nat} {R : List XR → List (Ty × AV) → List (TypeId × Nat) → AV → Prop} (js ks : List Nat) (hτ : τ.ok P) (hM : N.bx.length ≤ nb ∧ N.rw.length ≤ nr) (hr : fn.results = rs.toArray) (H : RelX w0.heap.size P w0 N nt st X a w)
    (hchk : (okSel js st.bx.length && okSel ks st.rw.length && usesB js st.bx && preOk js nb && preOk ks nr && rs.all (fun x => argOk js (resv τ st x))) = true)
    {bx' : List (Ty × AV)} {rw' : List (TypeId × Nat)} {ress : List AV} {res : AV} (hf : fzOk js st.fz [] 0 = true) (hb : bxs (pickB js ks st.bx) bx') (hw : ks.filterMap (st.rw[·]?) = rw')
    (he : allP (sub 4) (rs.map fun x => ren (idx? js) (idx? ks) 4 (resv τ st x)) ress) (ht : tupOf ress = res) (hR : R X bx' rw' res) :
    a.defers = [] ∧ ∃ v, (results fn a.tmps).run P w = .ok v w ∧ PostX P w0 N R (.returned v) w := by
  obtain ⟨g, HI, hB, hF, hX⟩ := H
  have HI0 : Inv P w0 N g st.bx st.fz st.rw w := ⟨HI.mem, hB.fr (Nat.le_refl _), HI.br, HI.fz, HI.wr, HI.wz⟩
  obtain ⟨h1, v, h2, h3, h4⟩ := v_endG js ks hτ hM hr HI0 hF hchk hf hb hw he ht
  exact ⟨h1, v, h2, X, bx', rw', res, _, v, hR, rfl, h3, h4, ⟨fun x hx => ⟨(hX.ok x hx).le, (hX.ok x hx).nil, fun b hb => ⟨fun hh => ((hX.ok x hx).own b hb).1 (pick_has hh), ((hX.ok x hx).own b hb).2⟩⟩, hX.un⟩⟩
/-- A call of such a contract: a new base. -/
theorem v_callE {ops : Array Oper} {Q : Exit → Act → World → Prop} {rest : List Oper} {o : Oper} {f : FuncId} {xs : List Operand} {ats : Array TypeId} {args : List AV} {R : List XR → List (Ty × AV) → List (TypeId × Nat) → AV → Prop}
    (hc : VE P f args R) (hB : FrX lo w0 N N1 w1) (hlo : lo ≤ w0.heap.size) (hX : Xs lo N1 w1 X) (H : Rel P w1 N1 nt st a w)
    (hRu : ∀ Y bx' rw' res, R Y bx' rw' res → uses some 4 res = true ∧ bx'.all (fun x => uses some 4 x.2) = true)
    (k : ∀ Y bx' rw' res a w, R Y bx' rw' res → RelX lo P w0 N nt ((⟨st.t, mergeL st.bx [] (renB [] [] st.bx.length st.rw.length bx'), st.fz, mergeL st.rw [] rw'⟩ : St).put o.dst none (ren (fun k => some (nth [] st.bx.length k)) (fun k => some (nth [] st.rw.length k)) 4 res)) (X ++ Y) a w → wpList P ops Q rest a w)
    (hgd : o.guard = none := by rfl) (ho : o.op = .call ⟨.value (.func f), xs.toArray, ats⟩ := by rfl) (hchk : (xs.all (fun x => argOk [] (st.ev none x)) && okDst nt none o.dst) = true := by rfl) (ha : allP (sub 4) (cargs st [] [] xs) args := by exact caX) : wpList P ops Q (o :: rest) a w := by
  obtain ⟨hfok, hcall⟩ := hc
  obtain ⟨g, HI, hF⟩ := H
  simp only [Bool.and_eq_true] at hchk
  obtain ⟨c5, c8⟩ := hchk
  obtain ⟨h1, h2⟩ := cargs_ok HI hF (js := []) (ks := []) (fun j hj => by cases hj) (fun j hj => by cases hj) c5 ha
  refine wpList_plain hgd fun K hK => ?_
  unfold Oper.wp
  rw [run_callF hfok xs ats ho w, Oper.upon_enter]
  have HP : Inv P w (g.pick [] []) (g.pick [] []) [] [] [] w := HI.pick (bx2 := []) (fz2 := []) (rw2 := []) [] [] (fun j hj => by cases hj) (fun j hj => by cases hj) List.nodup_nil List.nodup_nil (fun j hj => by cases hj) trivial (fun i j hi => by simp at hi) rfl
    ⟨Kept.refl _ _, fun i x hx hxo => .inr ⟨x, hx, hxo, rfl⟩, fun i r k hr hrk => .inr ⟨r, hr, hrk⟩, fun _ _ _ _ => rfl, Gh.le.refl _⟩
  refine (hcall w (g.pick [] []) (xs.map a.eval) HP (by simp [h1]) h2).mono fun e w' hp => ?_
  obtain ⟨Y, bx', rw', res, g1, v, hRR, rfl, HI1, hv, hY⟩ := hp
  obtain ⟨c6, c7⟩ := hRu _ _ _ _ hRR
  obtain ⟨k1, k2, k3, k4⟩ := HI.call HI1 (fun j hj => by cases hj) (fun j hj => by cases hj) List.nodup_nil List.nodup_nil (fun x hx => List.all_eq_true.1 c7 x hx)
  have hv' := hv.ren_ (g1 := g1) (g2 := ⟨g1.ro, mergeL g.bx [] g1.bx, mergeL g.rw [] g1.rw⟩) (fb := fun k => some (nth [] st.bx.length k)) (fr := fun k => some (nth [] st.rw.length k)) (d := 3) rfl (fun i j x hij hx => by injection hij with hij; subst hij; exact k3 i x hx) (fun i j x hij hx => by injection hij with hij; subst hij; exact k4 i x hx) (uses_some c6)
  have hX' : Xs lo (⟨g1.ro, mergeL g.bx [] g1.bx, mergeL g.rw [] g1.rw⟩ : Gh) w' X := hX.step k2
  have hsz : w.heap.size ≤ w'.heap.size := HI1.fr.kept.size
  have hws : w1.heap.size ≤ w.heap.size := HI.fr.kept.size
  have hY' : ∀ y ∈ Y, XOk lo (⟨g1.ro, mergeL g.bx [] g1.bx, mergeL g.rw [] g1.rw⟩ : Gh) w' y := fun y hy => by
    have h := hY.ok y hy
    refine ⟨h.le, h.nil, fun b hb => ?_⟩
    obtain ⟨q1, q2, q3⟩ := h.own b hb
    refine ⟨fun hh => ?_, by have := hB.size; omega, q3⟩
    have hm : ∀ {α : Type} {l m : List α} {x : α}, x ∈ mergeL l [] m → x ∈ l ∨ x ∈ m := fun {α l m x} h => by
      unfold mergeL at h
      rw [show setAll l [] m = l by cases m <;> rfl] at h
      simpa using h
    rcases hh with ⟨z, hz, hzo, he⟩ | ⟨s, hs, he⟩
    · rcases hm hz with hz | hz
      · obtain ⟨i, hi⟩ := List.getElem?_of_mem hz
        have := (HI.mem.bx i z hi hzo).lt; omega
      · exact q1 (.inl ⟨z, hz, hzo, he⟩)
    · rcases hm hs with hs | hs
      · obtain ⟨i, hi⟩ := List.getElem?_of_mem hs
        have := (HI.mem.rw i s hi).lt he; omega
      · exact q1 (.inr ⟨s, hs, he⟩)
  have hun : XApart (X ++ Y) := by
    unfold XApart
    rw [List.pairwise_append]
    refine ⟨hX.un, hY.un, fun x hx y hy => ?_⟩
    cases hb : x.A with
    | none => exact .inl rfl
    | some b =>
      refine .inr fun e => ?_
      have h1 := (hX.ok x hx).lt hb
      have h2 := ((hY.ok y hy).own b e.symm).2.1
      omega
  refine hK _ _ (k Y bx' rw' res _ _ hRR ⟨_, ?_, ?_, (hF.mono k1).put c8 (fun _ => hv') rfl (fun h => absurd trivial h), ⟨fun x hx => (List.mem_append.1 hx).elim (hX'.ok x) (hY' x), hun⟩⟩)
  · have := k2.self
    cases o.dst <;> simpa [St.put] using this
  · exact hB.trans (.of k2.fr lo)
/-- A loop, by a family of what holds. -/
theorem v_loopI {ι : Type} {c : Code} {Q : Exit → Act → World → Prop} (F : ι → Act → World → Prop) (C : ι → Prop) (μ : ι → Nat) (i0 : ι) (h0 : C i0) (H : F i0 a w)
    (round : ∀ i a w, C i → F i a w → c.wp P (Exit.then (fun a' w' => ∃ i', C i' ∧ μ i' < μ i ∧ F i' a' w') Q) a w) : (Code.loop c).wp P Q a w := by
  have hp : ∀ a w, (∃ i, C i ∧ F i a w) → ∃ m, (∃ i, (C i ∧ F i a w) ∧ μ i = m) ∧ ∀ k, (∃ i, (C i ∧ F i a w) ∧ μ i = k) → m ≤ k := fun a w ⟨i, hi⟩ => min_ex ⟨_, i, hi, rfl⟩
  obtain ⟨m, hm⟩ : ∃ m : Act → World → Nat, ∀ a w, (∃ i, C i ∧ F i a w) → (∃ i, (C i ∧ F i a w) ∧ μ i = m a w) ∧ ∀ k, (∃ i, (C i ∧ F i a w) ∧ μ i = k) → m a w ≤ k := by
    classical
    refine ⟨fun a w => if h : ∃ i, C i ∧ F i a w then Classical.choose (hp a w h) else 0, fun a w h => ?_⟩
    have := Classical.choose_spec (hp a w h)
    simp only [dif_pos h]
    exact this
  refine wp_loop (fun a w => ∃ i, C i ∧ F i a w) m ⟨i0, h0, H⟩ fun a w hi => ?_
  obtain ⟨⟨i, hi', hmi⟩, _⟩ := hm a w hi
  refine Code.wp_mono (fun e a' w' q => ?_) (round i a w hi'.1 hi'.2)
  cases e with
  | normal => obtain ⟨i', h1, h2, h3⟩ := q; exact ⟨⟨i', h1, h3⟩, by have := (hm a' w' ⟨i', h1, h3⟩).2 _ ⟨i', ⟨h1, h3⟩, rfl⟩; omega⟩
  | _ => exact q
end
end Go.Proofs.Ytigmpdhnhkdeiaa
/- slices.Reverse of slices, in memory that may be written. -/
namespace Go.Proofs.Ytigmpdhnhkdeiaa
open Go Go.RowKit
def vas (us : List Value) : List AV := us.map .v
theorem vas_len (us : List Value) : (vas us).length = us.length := by simp [vas]
theorem vas_get (us : List Value) (k : Nat) (hk : k < us.length) : (vas us).getD k .any = .v (us.getD k undef) := by simp [vas, List.getD_eq_getElem?_getD, hk]
theorem vas_snoc (us : List Value) (u : Value) : vas (us ++ [u]) = vas us ++ [.v u] := by simp [vas]
def rvG (n k : Nat) (g : Nat → Value) (t : Nat) : Value := if t < k ∨ n ≤ t + k then g (n - 1 - t) else g t
def rvF (n k : Nat) (g : Nat → Value) : List AV := (List.range n).map fun t => .v (rvG n k g t)
theorem rvF_len (n k : Nat) (g : Nat → Value) : (rvF n k g).length = n := by simp [rvF]
theorem rvF_get (n k : Nat) (g : Nat → Value) (t : Nat) (h : t < n) : (rvF n k g).getD t .any = .v (rvG n k g t) := by simp [rvF, List.getD_eq_getElem?_getD, h]
theorem rvF_zero (ls : List Value) : rvF ls.length 0 (fun t => ls.getD t undef) = vas ls := by
  apply List.ext_getElem (by simp [rvF, vas])
  intro i h1 h2
  simp [rvF] at h1
  simp [rvF, vas, rvG, h1]
  omega
theorem rvF_end (ls : List Value) (k : Nat) (hk : ls.length ≤ 2 * k + 1) : rvF ls.length k (fun t => ls.getD t undef) = vas ls.reverse := by
  apply List.ext_getElem (by simp [rvF, vas])
  intro i h1 h2
  simp [rvF] at h1
  simp only [rvF, vas, rvG, List.getElem_map, List.getElem_range, List.getElem_reverse, AV.v.injEq]
  split
  · rw [List.getD_eq_getElem?_getD, List.getElem?_eq_getElem (by omega)]; rfl
  · rw [List.getD_eq_getElem?_getD, List.getElem?_eq_getElem (by omega)]
    have : i = ls.length - 1 - i := by omega
    simp only [Option.getD_some]; congr 1
theorem rvF_step (n k : Nat) (g : Nat → Value) (h : 2 * k + 1 < n) : ((rvF n k g).set k (.v (g (n - 1 - k)))).set (n - 1 - k) (.v (g k)) = rvF n (k + 1) g := by
  apply List.ext_getElem (by simp [rvF])
  intro i h1 h2
  simp [rvF] at h2
  rw [List.getElem_set]
  split
  · rename_i e; subst e
    simp only [rvF, rvG, List.getElem_map, List.getElem_range, AV.v.injEq]
    rw [if_pos (by omega), show n - 1 - (n - 1 - k) = k by omega]
  · rw [List.getElem_set]
    split
    · rename_i e; subst e
      simp only [rvF, rvG, List.getElem_map, List.getElem_range, AV.v.injEq]
      rw [if_pos (by omega)]
    · simp only [rvF, rvG, List.getElem_map, List.getElem_range, AV.v.injEq]
      by_cases hh : i < k ∨ n ≤ i + k
      · rw [if_pos hh, if_pos (by omega)]
      · rw [if_neg hh, if_neg (by omega)]
set_option maxRecDepth 20000 in
theorem revR_v (ls : List Value) (γ : Nat) (hl : ls.length ≤ 1000000) :
    VX Try.prog 124 [(.vc 26 .sc, .vc γ (vas ls))] [] [] [.vw 0 γ ls.length] [(.vc 26 .sc, .vc γ (vas ls.reverse))] [] [] (.tup []) := by
  rw [← rvF_zero ls]
  have hend := rvF_end ls
  obtain ⟨g, hg⟩ : ∃ g : Nat → Value, g = fun t => ls.getD t undef := ⟨_, rfl⟩
  rw [← hg] at hend ⊢
  generalize ls.reverse = lr at *
  generalize ls.length = n at *
  clear hg
  have hl0 := rvF_len n 0 g
  have e00 : (n : Int) - 1 - ((0 : Nat) : Int) = (n : Int) - 1 := by omega
  refine mE Try.func124 ?_; intro N w0 a w hN hR H
  refine mW ?_; clear H; intro a w H
  refine v_loop (fun k : Nat => ⟨[(3, none, .v (.int .i64 ((n : Int) - 1 - (k : Int)))), (2, none, .v (.int .i64 (k : Int))), (0, none, .vw 0 γ n)], [(.vc 26 .sc, .vc γ (rvF n k g))], [], []⟩) (fun k => 2 * k ≤ n) (fun k => n - k) 0 (by omega)
    (H.to 1 0 ⟨Nat.le_trans hN (Nat.le_of_ble_eq_true rfl), hR⟩ ⟨by rw [e00]; rfl, rfl, rfl, trivial⟩ rfl rfl rfl rfl rfl) ?_
  clear H
  intro k a w hk H
  have hlk := rvF_len n k g
  have hX := @hlk
  refine mW ?_; clear H; intro a w H
  refine mC H (fun hb => ?_) (fun hb => ?_)
  · have hlt : 2 * k + 1 < n := by rw [decide_eq_true_eq] at hb; omega
    clear hb
    have e1 : ((n : Int) - 1 - (k : Int)).toNat = n - 1 - k := by omega
    have g1 := rvF_get n k g k (by omega)
    have g2 := rvF_get n k g (n - 1 - k) (by omega)
    have r1 : rvG n k g k = g k := by unfold rvG; rw [if_neg (by omega)]
    have r2 : rvG n k g (n - 1 - k) = g (n - 1 - k) := by unfold rvG; rw [if_neg (by omega)]
    rw [r1] at g1
    rw [r2] at g2
    have hst := rvF_step n k g hlt
    clear hX; have hX := And.intro @hlk (And.intro @e1 (And.intro @g1 (@g2)))
    refine mS ?_; refine mD 0 [13, 15] [2, 3] H ?_; clear H; intro gS H
    refine mT ?_; clear H; intro a w H
    refine v_drawNil H ?_; clear H; intro H
    refine mW ?_; clear H; intro a w H
    rw [hst, show (n : Int) - 1 - (k : Int) - 1 = (n : Int) - 1 - ((k + 1 : Nat) : Int) by omega, show (k : Int) + 1 = ((k + 1 : Nat) : Int) by omega] at H
    exact ⟨k + 1, by omega, by omega, H.to 1 0 ⟨Nat.le_trans hN (Nat.le_of_ble_eq_true rfl), hR⟩ ⟨rfl, rfl, rfl, trivial⟩ rfl rfl rfl rfl rfl⟩
  · have hge : n ≤ 2 * k + 1 := by rw [decide_eq_false_iff_not] at hb; omega
    rw [hend k hge] at H
    refine mW ?_; clear H; intro a w H
    exact mEnd [0] [] [] [] hN hR H
end Go.Proofs.Ytigmpdhnhkdeiaa
/- A list of slices written out into what grows; do lists share memory that are on their own? -/
namespace Go.Proofs.Ytigmpdhnhkdeiaa
open Go Go.RowKit
section
variable {P : Program} {τ : Tab} {w0 w w1 w2 : World} {N N1 N2 : Gh} {g g1 gS : Gh} {st st' sq sq' : St} {nt : Nat} {a : Act} {lo : Nat} {X Y : List XR}
theorem ev_v {x : Operand} {u : Value} (hF : FR g nt st a) (h : st.ev none x = .v u) : a.eval x = u := by
  have := ev_sound hF (c := none) trivial x
  rw [h] at this; exact this.v_inv
theorem v_bslV {ops : Array Oper} {Q : Exit → Act → World → Prop} {rest : List Oper} {o : Oper} {d : Nat} {xs : List Operand} (us : List Value) (H : Rel Try.prog w0 N nt st a w) (hev : xs.map (st.ev none) = vas us) (h0 : 0 < xs.length) (hn : xs.length ≤ 1000) (h1 : ∀ u ∈ us, u.cells = #[u] ∧ u.oneCell' = true)
    (k : ∀ a w, Rel Try.prog w0 N nt ((⟨st.t, st.bx ++ [(.vc 26 .sc, .vc 1 (vas us))], st.fz, st.rw⟩ : St).put (some d) none (.vw st.bx.length 1 us.length)) a w → wpList Try.prog ops Q rest a w)
    (hgd : o.guard = none := by rfl) (hd : o.dst = some d := by rfl) (hok : okDst nt none (some d) = true := by rfl) (ho : o.op = .buildSlice 23 xs.length ((xs.zipIdx.map fun p => (p.2, p.1)).toArray) := by rfl) : wpList Try.prog ops Q (o :: rest) a w := by
  obtain ⟨g, HI, hF⟩ := H
  have hxu : xs.map a.eval = us := by
    apply List.ext_getElem
    · have := congrArg List.length hev; simpa [vas] using this
    · intro i q1 q2
      have hi : i < xs.length := by simpa using q1
      have := congrArg (fun l => l[i]?) hev
      simp only [vas, List.getElem?_map, List.getElem?_eq_getElem hi, List.getElem?_eq_getElem q2, Option.map_some, Option.some.injEq] at this
      rw [List.getElem_map]; exact ev_v hF this
  have hul : us.length = xs.length := by rw [← hxu, List.length_map]
  have hrun := run_bsl us (fun v hv => (h1 v hv).1) (by omega) (by omega) w
  refine wpList_plain hgd fun K hK => ?_
  have hex : (execOp a.eval o).run Try.prog w = .ok (.value (.slice (some ⟨w.heap.size, 0, none⟩) us.length us.length)) (w.alloc (.cells us.toArray 26)) := by
    obtain ⟨dst, op, ty, pos, after, gd⟩ := o
    dsimp only at ho
    subst ho
    have e : ((xs.zipIdx.map fun p => (p.2, p.1)).toArray.map fun (p : Nat × Operand) => (p.1, a.eval p.2)) = ((us.zipIdx.map fun p => (p.2, p.1)).toArray) := by
      rw [← hxu]; simp [List.zipIdx_map, Function.comp_def]
    have e2 : execOp a.eval ⟨dst, .buildSlice 23 xs.length ((xs.zipIdx.map fun p => (p.2, p.1)).toArray), ty, pos, after, gd⟩ = (do pure (.value (← Instr.buildSlice 23 xs.length ((xs.zipIdx.map fun p => (p.2, p.1)).toArray.map fun (p : Nat × Operand) => (p.1, a.eval p.2))))) := rfl
    rw [e2, e, ← hul]
    simp only [Sem.run_bind, hrun, Result.andThen_ok, Sem.run_pure]
  unfold Oper.wp
  rw [hex, Oper.upon_value, hd]
  obtain ⟨g', l1, I1, h2⟩ := HI.boxG (x := ⟨w.heap.size, 26, .vc 26 .sc, us, false, 1, us.length, false, none⟩) (a := .vc 1 (vas us)) (w' := w.alloc (.cells us.toArray 26)) rfl (grown_alloc w _) (fun _ => ⟨rfl, .of rfl (Blk.new w _ _)⟩) (fun e => by cases e) (fun e => by cases e)
    (.inr (.inl ⟨.sc, 1, vas us, fun k => [us.getD k undef], [], ⟨_, rfl, rfl⟩, rfl, rfl, rfl, (by decide), ⟨by show us.length ≤ maxLen; simp only [maxLen]; omega, fun e => (by cases e)⟩, by
      rw [List.append_nil, vas_len]
      apply List.ext_getElem?
      intro i
      have hfl : ∀ m, ((List.range m).flatMap fun k => [us.getD k undef]) = (List.range m).map fun k => us.getD k undef := fun m => by
        induction m with
        | zero => rfl
        | succ m ih => rw [List.range_succ, List.flatMap_append, List.map_append, ih]; rfl
      rw [hfl, List.getElem?_map]
      by_cases hi : i < us.length
      · rw [List.getElem?_range hi]; simp [List.getD_eq_getElem?_getD, hi]
      · rw [List.getElem?_eq_none (by show us.length ≤ i; omega), List.getElem?_eq_none (by simpa using hi)]; rfl, by show us.length = us.length * 1; omega, fun u hu => (by cases hu), fun k hk => by
      rw [vas_len] at hk
      have : (vas us)[k]'(by rw [vas_len]; exact hk) = .v (us.getD k undef) := by simp [vas, List.getD_eq_getElem?_getD, hk]
      rw [this]
      refine RC.v ?_
      rw [List.getD_eq_getElem?_getD, List.getElem?_eq_getElem hk]; exact (h1 _ (List.getElem_mem hk)).2⟩))
  refine hK _ _ (k _ _ ⟨g', ?_, ?_⟩)
  · rw [(put_bx _ _ _ _).1, (put_bx _ _ _ _).2.1, (put_bx _ _ _ _).2.2]; exact I1
  · have hFm := hF.mono l1.1
    have hF' : FR g' nt (⟨st.t, st.bx ++ [(.vc 26 .sc, .vc 1 (vas us))], st.fz, st.rw⟩ : St) a := ⟨hFm.sz, hFm.df, hFm.t, hFm.u⟩
    refine hF'.put hok (fun _ => ?_) rfl (fun h => absurd trivial h)
    exact (RC.vw (c := us.length) h2 rfl (Nat.le_refl _) (Nat.le_refl _) (by simp only [maxLen]; omega) fun _ => ⟨rfl, .inr ⟨rfl, rfl⟩⟩).rv1
/-- Bytes, with their room. -/
def XW (x : XR) : Prop := ∃ l sp : List UInt8, x.cells = (l ++ sp).map B8 ∧ x.n = l.length ∧ x.c = l.length + sp.length
theorem XOk.own_ {lo : Nat} {g : Gh} {w : World} {x : XR} (h : XOk lo g w x) (hw : XW x) : ∃ (sv : SV) (l sp : List UInt8) (t : TypeId), x.v = sv.v ∧ Own (byteT t) w 0 x.v l sp := by
  obtain ⟨l, sp, h1, h2, h3⟩ := hw
  refine ⟨(x.A.map fun b => ⟨b, 0, none⟩, x.n, x.c), l, sp, x.tid, rfl, ?_⟩
  cases hA : x.A with
  | none =>
    have h0 := h.nil hA
    have e1 : l = [] := List.length_eq_zero_iff.1 (by omega)
    have e2 : sp = [] := List.length_eq_zero_iff.1 (by omega)
    subst e1 e2
    exact .inl ⟨by unfold XR.v; rw [hA, h2, h3]; rfl, rfl, rfl⟩
  | some b =>
    obtain ⟨_, _, q3, _⟩ := h.own b hA
    refine .inr ⟨b, Nat.zero_le _, by unfold XR.v; rw [hA, h2, h3]; rfl, ?_, by have := h.le.2; omega⟩
    show Blk w b x.tid _
    rw [byteT_all, ← h1]; exact q3
/-- No slices that are on their own share memory: ApartBytes of a list of them (or of none). -/
theorem v_apartX {ops : Array Oper} {Q : Exit → Act → World → Prop} {rest : List Oper} {o : Oper} {x : Operand} {us : List Value} {ats : Array TypeId} (hZ : Xs lo N w0 X) (H : Rel Try.prog w0 N nt st a w) (i γ e : Nat) (hx : st.ev none x = .vw i γ us.length) (hb : st.bx[i]? = some (.vc e .sc, .vc γ (vas us)))
    (ix : List (Option Nat)) (hix : ix.length = us.length) (hval : ∀ k (h1 : k < ix.length) (h2 : k < us.length), (ix[k] = none ∧ us[k] = .slice none 0 0) ∨ ∃ j x, ix[k] = some j ∧ X[j]? = some x ∧ us[k] = x.v ∧ XW x) (hun : ix.Pairwise fun p q => p = none ∨ p ≠ q) (h0 : 0 < us.length) (hl : us.length ≤ 1000000)
    (k : ∀ a w, Rel Try.prog w0 N nt (st.put o.dst none (.v (.bool true))) a w → wpList Try.prog ops Q rest a w)
    (hgd : o.guard = none := by rfl) (ho : o.op = .call ⟨.value (.func 23), #[x], ats⟩ := by rfl) (hd2 : okDst nt none o.dst = true := by rfl) : wpList Try.prog ops Q (o :: rest) a w := by
  obtain ⟨g, HI, hF⟩ := H
  have hZ' := hZ.step HI
  obtain ⟨y, hy, hyT, hbc⟩ := HI.br.at_ i _ _ hb
  obtain ⟨T2, F, sp, ⟨e2, he2, htid⟩, hmp, hgen, hp0, hcm, hcs, hcl, hsp, hFk⟩ := hbc.vc_inv
  injection he2 with he20 he2; subst he20 he2
  have hxv := ev_sound hF (c := none) trivial x
  rw [hx] at hxv
  obtain ⟨_, y', e3, T3, A, c, hval2, hy', hty', hle, hnc, hm, hxx⟩ := hxv.vw_inv.vw_inv
  rw [hy] at hy'; injection hy' with hy'; subst hy'
  injection hval2 with hval2
  obtain ⟨hcc, hA⟩ := hxx hgen
  have hA2 : y.off = false ∧ A = some ⟨y.blk, 0, none⟩ := by
    rcases hA with ⟨ho, _⟩ | h
    · have := hcm.2 ho; omega
    · exact h
  obtain ⟨hoff, rfl⟩ := hA2
  have hblk := (HI.mem.bx i y hy hoff).c hmp
  have hcell : ∀ k (hk : k < us.length), w.cell? ⟨y.blk, k, none⟩ = some us[k] := fun k hk => by
    rw [hblk.cell, hcs]
    have hk' : k < (vas us).length := by rw [vas_len]; exact hk
    have hr := hFk k hk'
    have hvk : (vas us)[k] = .v us[k] := by simp [vas]
    rw [hvk] at hr
    obtain ⟨_, hc1⟩ := hr.v_inv
    have := flat_at (sp := sp) hFk hk' (j := 0) (u := us[k]) (by rw [hc1]; rfl)
    simp only [Ty.size, Nat.mul_one, Nat.add_zero] at this
    rw [List.getElem?_toArray]; exact this
  have hrow : ∀ k (hk : k < us.length), ∃ r : ARow, r.1.v = us[k] ∧ Own (byteT r.2.2.2) w 0 r.1.v r.2.1 r.2.2.1 := fun k hk => by
    rcases hval k (by omega) hk with ⟨_, h⟩ | ⟨j, x, _, h1, h2, hW⟩
    · refine ⟨((none, 0, 0), [], [], 5), h.symm, .inl ⟨rfl, rfl, rfl⟩⟩
    · have hm := List.mem_of_getElem? h1
      obtain ⟨sv, l, sp, t, q1, q2⟩ := (hZ'.ok x hm).own_ hW
      exact ⟨(sv, l, sp, t), by rw [h2]; exact q1.symm, by rw [← q1]; exact q2⟩
  obtain ⟨L, hL, hLr⟩ : ∃ L : List ARow, L.length = us.length ∧ ∀ k (h1 : k < L.length) (h2 : k < us.length), L[k].1.v = us[k] ∧ Own (byteT L[k].2.2.2) w 0 L[k].1.v L[k].2.1 L[k].2.2.1 := by
    classical
    refine ⟨(List.range us.length).map fun k => if h : k < us.length then Classical.choose (hrow k h) else ((none, 0, 0), [], [], 0), by simp, fun k h1 h2 => ?_⟩
    have := Classical.choose_spec (hrow k h2)
    simp only [List.getElem_map, List.getElem_range, dif_pos h2]
    exact this
  refine wpList_plain hgd fun K hK => ?_
  have hfok : Fok Try.prog 23 := ⟨_, Try.func23, by kernel_rfl, by kernel_rfl⟩
  unfold Oper.wp
  rw [run_callF hfok [x] ats ho, Oper.upon_enter]
  have hev : ([x].map a.eval).toArray = #[Value.slice (some ⟨y.blk, 0, none⟩) L.length c] := by rw [hL, ← hval2]; rfl
  rw [hev]
  have hown : ∀ k (h1 : k < L.length) (h2 : k < us.length), L[k].1.v.ownBlock = us[k].ownBlock := fun k h1 h2 => by rw [(hLr k h1 h2).1]
  have hP : Apart w 0 L := ⟨fun k hk => (hLr k hk (by omega)).2, fun p q hp hq hpq => by
    rw [hown p hp (by omega), hown q hq (by omega)]
    have key : ∀ p q (hp : p < us.length) (hq : q < us.length), p < q → us[p].ownBlock = none ∨ us[q].ownBlock = none ∨ us[p].ownBlock ≠ us[q].ownBlock := fun p q hp hq hlt => by
      rcases hval p (by omega) hp with ⟨_, h⟩ | ⟨j1, x1, a1, a2, a3, _⟩
      · left; rw [h]; rfl
      · rcases hval q (by omega) hq with ⟨_, h⟩ | ⟨j2, x2, b1, b2, b3, _⟩
        · right; left; rw [h]; rfl
        · have hne : j1 ≠ j2 := fun e => by
            rw [List.pairwise_iff_getElem] at hun
            rcases hun p q (by omega) (by omega) hlt with h | h
            · rw [a1] at h; cases h
            · rw [a1, b1, e] at h; exact h rfl
          rw [a3, b3, XR.own, XR.own]
          have hu := hZ'.un
          unfold XApart at hu
          rw [List.pairwise_iff_getElem] at hu
          obtain ⟨l1, g1⟩ := List.getElem?_eq_some_iff.1 a2
          obtain ⟨l2, g2⟩ := List.getElem?_eq_some_iff.1 b2
          rcases Nat.lt_or_gt_of_ne hne with h | h
          · have := hu j1 j2 l1 l2 h
            rw [g1, g2] at this
            rcases this with h | h
            · exact .inl h
            · exact .inr (.inr h)
          · have := hu j2 j1 l2 l1 h
            rw [g1, g2] at this
            rcases this with h | h
            · exact .inr (.inl h)
            · exact .inr (.inr fun e => h e.symm)
    rcases Nat.lt_or_gt_of_ne hpq with h | h
    · rcases key p q (by omega) (by omega) h with h | h | h
      · exact .inl h
      · cases hh : us[p].ownBlock with
        | none => exact .inl rfl
        | some b => exact .inr (by rw [h]; simp)
      · exact .inr h
    · rcases key q p (by omega) (by omega) h with h | h | h
      · cases hh : us[p].ownBlock with
        | none => exact .inl rfl
        | some b => exact .inr (by rw [h]; simp)
      · exact .inl h
      · exact .inr fun e => h e.symm⟩
  refine (apart_any L y.blk 0 c 0 w (fun k hk => by rw [Nat.zero_add, hcell k (by omega), (hLr k hk (by omega)).1]) hblk.lt hP (by omega) (by omega)).mono fun e w2 hp => ?_
  obtain ⟨rfl, hb2⟩ := hp
  have hI2 := HI.keep (fun k hk => hb2.block k hk) hb2.size hb2.os hb2.tape hb2.output
  refine hK _ _ (k _ _ ⟨g, ?_, ?_⟩)
  · rw [(put_bx _ _ _ _).1, (put_bx _ _ _ _).2.1, (put_bx _ _ _ _).2.2]; exact hI2
  · exact hF.put (st := st) (st' := st) hd2 (fun _ => RV.v_of rfl) rfl (fun h => absurd trivial h)
end
end Go.Proofs.Ytigmpdhnhkdeiaa
/- The texts of a proof, each with memory of its own: extract.Texts. -/
namespace Go.Proofs.Ytigmpdhnhkdeiaa
open Go Go.RowKit
/-- A slice on its own that holds bytes. -/
def XB (x : XR) (l : List UInt8) : Prop := x.n = l.length ∧ x.tid = 5 ∧ x.k = l.length ∧ ∃ m, x.c = l.length + m ∧ x.cells = l.map B8 ++ (List.replicate m (zeroOf Try.prog 5)).flatten
def XL (X : List XR) (ls : List (List UInt8)) : Prop := X.length = ls.length ∧ ∀ i (h1 : i < X.length) (h2 : i < ls.length), XB X[i] ls[i]
theorem XL.snoc {X : List XR} {ls : List (List UInt8)} {x : XR} {l : List UInt8} (h : XL X ls) (hx : XB x l) : XL (X ++ [x]) (ls ++ [l]) := by
  refine ⟨by simp [h.1], fun i h1 h2 => ?_⟩
  rw [List.length_append, List.length_singleton] at h1 h2
  by_cases hi : i < X.length
  · rw [List.getElem_append_left hi, List.getElem_append_left (by rw [← h.1]; exact hi)]; exact h.2 i hi (by rw [← h.1]; exact hi)
  · have e1 : i = X.length := by omega
    have e2 : i = ls.length := by rw [← h.1]; exact e1
    rw [List.getElem_append_right (by omega), List.getElem_append_right (by omega)]
    simp only [List.getElem_singleton]
    exact hx
theorem XL.last {X : List XR} {ls : List (List UInt8)} {x : XR} {l : List UInt8} (h : XL (X ++ [x]) (ls ++ [l])) : XL X ls ∧ XB x l := by
  have hl : X.length = ls.length := by have := h.1; simpa using this
  refine ⟨⟨hl, fun i h1 h2 => ?_⟩, ?_⟩
  · have := h.2 i (by simp; omega) (by simp; omega)
    rwa [List.getElem_append_left h1, List.getElem_append_left h2] at this
  · have := h.2 X.length (by simp) (by simp [hl])
    rw [List.getElem_append_right (Nat.le_refl _), List.getElem_append_right (by omega)] at this
    simpa using this
theorem XL.nil : XL [] [] := ⟨rfl, fun i h => (by cases h)⟩
theorem XB.see {X : List XR} {x : XR} {l : List UInt8} (h : XB x l) (hx : x ∈ X) : SeeX X (.v x.v) (.bs l none) := by
  obtain ⟨h1, _, h3, m, _, h4⟩ := h
  refine .pub x l hx (by omega) h1 ?_
  rw [h4, List.take_append_of_le_length (by simp), List.take_of_length_le (by simp)]
theorem XB.w {x : XR} {l : List UInt8} (h : XB x l) : XW x := by
  obtain ⟨h1, _, _, m, h3, h4⟩ := h
  refine ⟨l, List.replicate m 0, ?_, h1, by rw [List.length_replicate]; exact h3⟩
  rw [h4, zero_u8, flat_z, List.map_append]
theorem XR.v_cells (x : XR) : x.v.cells = #[x.v] ∧ x.v.oneCell' = true := ⟨rfl, rfl⟩
theorem tx_cons (key e : List UInt8) (d : Nat) (s : List (List UInt8)) : ∃ t r, tx key d s e = t :: r := by cases s <;> exact ⟨_, _, rfl⟩
attribute [local irreducible] wpT
set_option maxRecDepth 20000 in
set_option maxHeartbeats 16000000 in
theorem texts_E (key l : List UInt8) (hk32 : key.length = 32) (hl : l.length ≤ 34359730000) (h : pOk l) : VE Try.prog 45 [.ba key, .bs l none] (fun X bx' rw' res => rw' = [] ∧ bx' = [(.vc 26 .sc, .vc X.length (vas (X.map XR.v).reverse))] ∧ res = .tup [.vw 0 X.length X.length, errv 0] ∧ XL X (txs key l).reverse) := by
  have hd := decodeP_v l hl
  rw [if_pos h] at hd
  rw [txs, if_pos h]
  have hw := pDec_wf l
  obtain ⟨hle, hok, hk2⟩ := chk_all (pDec_chk h)
  generalize pDec l = p at *
  obtain ⟨s, n⟩ := p
  dsimp only at hle hok hk2 ⊢
  have hs := hw.s
  have hsl := bas_len s
  have hen := encode_ok n hw.e hok
  obtain ⟨h1, h2, h3, h4⟩ := id hw.e
  dsimp only at h1 h2 h3 h4 hs
  have htl := text_len hw.e
  dsimp only at htl
  have hz2 := z32_len
  refine v_enterE Try.func45 rfl (by kernel_rfl) (by show 2 ≤ 60; decide) ?_
  intro N w0 a w hN hR H
  simp only [Pf.av, Nd.av] at H hd hen
  refine mW ?_; clear H; intro a w H
  refine mCall [] [] (hd) H ?_; clear H; intro a w H; try refine wpList_nil ?_
  refine mW ?_; clear H; intro a w H
  refine mC H (fun hb => ?_) (fun hb => ?_)
  · simp at hb
  · clear hb
    refine mW ?_; clear H; intro a w H
    refine mCall [] [] (hen) H ?_; clear H; intro a w H; try refine wpList_nil ?_
    obtain ⟨e, he⟩ : ∃ e, e = n.text := ⟨_, rfl⟩
    rw [← he] at H htl ⊢
    clear he hen
    have hel : e.length ≤ 65 := by omega
    have hX := @hsl
    (try refine wp_region_lit ?_); refine mN 5 hN H ?_; clear H; intro a w H
    refine wpList_nil ?_
    have H := v_ref H 6 1 (Nat.le_trans hN (Nat.zero_le _)) rfl rfl rfl
    simp only [nilT, strip, List.map_cons, List.map_nil, reduceIte, Nat.reduceEqDiff] at H
    have H := v_ref H 2 0 (Nat.le_trans hN (Nat.zero_le _)) rfl rfl rfl
    simp only [nilT, strip, List.map_cons, List.map_nil, reduceIte, Nat.reduceEqDiff] at H
    replace H := mK [2, 5, 6, 8] 0 1 hN hR H
    replace H := v_fz H
    simp only [List.filter_cons, List.filter_nil, List.length_cons, List.length_nil, Nat.reduceAdd, Nat.reduceLT, Nat.not_lt_zero, Nat.zero_add, Nat.lt_irrefl, decide_false, Bool.false_eq_true, reduceIte] at H
    obtain ⟨x0, ⟨a1, a2, a3, a4⟩, H⟩ := v_pub (H.toX w0.heap.size) (Nat.le_refl _) [2, 5, 6] 8 0 5 rfl hR rfl rfl rfl rfl
    have hx0 : XB x0 e := ⟨a1, a2, a3, a4⟩
    replace H := H.cast (st' := ⟨[(8, none, .v x0.v), (6, none, .ref ti68.ty (.st [.sl (.ba 32) (bas s) none, .st [.v (B8 n.k), .ba n.key, .ba n.v, .ba n.l, .ba n.r]])), (5, none, .v (.int .i64 0)), (2, none, .ref (.ba 32) (.ba key))], [], [], []⟩) rfl
    obtain ⟨N1, hB, hZ, H, hN1, hR1⟩ := H.open_
    have hN2 : N1.bx.length ≤ 0 := Nat.le_of_eq hN1
    have hR2 : N1.rw.length ≤ 0 := Nat.le_of_eq hR1
    clear hN1 hR1
    have hM : N.bx.length ≤ 0 ∧ N.rw.length ≤ 0 := ⟨hN, hR⟩
    clear hN hR
    have hN := hN2
    have hR := hR2
    refine mS ?_
    (try refine wp_region_lit ?_); refine mN 1 hN H ?_; clear H; intro a w H
    refine v_bslV (xs := [.tmp 27]) [x0.v] H rfl (by decide) (by decide) (fun u hu => by simp at hu; subst hu; exact x0.v_cells) ?_
    clear H
    intro a w H
    replace H := nf H
    (try refine wp_region_lit ?_); refine mN 1 hN H ?_; clear H; intro a w H
    refine wpList_nil ?_
    refine mS ?_
    refine mW ?_; clear H; intro a w H
    have hzz : (tx key s.length (s.drop s.length) e).reverse = [e] := by rw [List.drop_length]; rfl
    refine v_loopI (fun k a w => ∃ (X : List XR) (x : XR), XL (X ++ [x]) (tx key k (s.drop k) e).reverse ∧ RelX w0.heap.size Try.prog w0 N Try.f45.ntmps ⟨[(11, none, .v (.int .i64 ((k : Int) - 1))), (10, none, .vw 0 (X.length + 1) (X.length + 1)), (8, none, .v x.v), (6, none, .ref ti68.ty (.st [.sl (.ba 32) (bas s) none, .st [.v (B8 n.k), .ba n.key, .ba n.v, .ba n.l, .ba n.r]])), (5, none, .v (.int .i64 0)), (2, none, .ref (.ba 32) (.ba key))],
      [(.vc 26 .sc, .vc (X.length + 1) (vas ((X ++ [x]).map XR.v)))], [], []⟩ (X ++ [x]) a w)
      (fun k => k ≤ s.length) (fun k => k) s.length (Nat.le_refl _) ⟨[], x0, by rw [hzz]; exact XL.nil.snoc hx0, RelX.close hB hZ (H.to 1 0 ⟨Nat.le_trans hN (Nat.zero_le _), hR⟩ ⟨rfl, rfl, rfl, rfl, rfl, rfl, trivial⟩ rfl rfl rfl rfl rfl)⟩ ?_
    clear H hB hZ hN hR hN2 hR2
    rintro k a w1 hk ⟨X, x, hL, H⟩
    obtain ⟨N1, hB, hZ, H, hN1, hR1⟩ := H.open_
    have hN : N1.bx.length ≤ 1 := Nat.le_of_eq hN1
    have hR : N1.rw.length ≤ 0 := Nat.le_of_eq hR1
    clear hN1 hR1
    refine mW ?_; clear H; intro a w H
    refine mC H (fun hb => ?_) (fun hb => ?_)
    · obtain ⟨j, rfl⟩ : ∃ j, k = j + 1 := ⟨k - 1, by rw [decide_eq_true_eq] at hb; omega⟩
      clear hb
      have hj : j < s.length := hk
      have e1 : (((j + 1 : Nat) : Int) - 1) = (j : Int) := by omega
      rw [e1] at H
      have hbit := bit_v key hk32 (j : Int)
      have hj256 : j < 256 := by omega
      have hpb : decide (pbit key (j : Int) = 1) = bitN key j := by
        rw [pbit, if_pos (by omega), Int.toNat_natCast]; cases bitN key j <;> rfl
      have htx := tx_drop key e s j hj
      have hth := tx_head key e hel (j + 1) (s.drop (j + 1)) (fun h hh => hs h (List.mem_of_mem_drop hh))
      have hg := bas_get s j hj
      rw [List.getElem_eq_getD []] at hg
      have hx : (s.getD j []).length = 32 := by rw [← List.getElem_eq_getD (h := hj) []]; exact hs _ (List.getElem_mem _)
      obtain ⟨t, r, htr⟩ := tx_cons key e (j + 1) (s.drop (j + 1))
      rw [htr] at htx hth hL
      rw [List.headD_cons] at htx hth
      rw [List.reverse_cons] at hL
      obtain ⟨hL1, hL2⟩ := hL.last
      generalize s.getD j [] = x' at *
      have hsu := sum_v t (by omega)
      have hsul := sum_length t
      have hit1 := innerText_v (sum t) x' hsul hx
      have hit2 := innerText_v x' (sum t) hx hsul
      have htl1 : (2 :: (sum t ++ x')).length = 65 := by simp; omega
      have htl2 : (2 :: (x' ++ sum t)).length = 65 := by simp; omega
      have hvl : (vas ((X ++ [x]).map XR.v)).length = X.length + 1 := by rw [vas_len]; simp
      have hXl : X.length ≤ 256 := by
        have q := tx_len key e (j + 1) (s.drop (j + 1))
        rw [htr, List.length_cons, List.length_drop] at q
        have := hL1.1
        rw [List.length_reverse] at this
        omega
      replace H := v_seeX hZ H 8 (.bs t none) (hL2.see (by simp)) rfl
      simp only [nilT, reduceIte, Nat.reduceEqDiff] at H
      clear hX; have hX := And.intro @hsl (And.intro @hg (@hvl))
      have hY := And.intro @hsl (And.intro @hx (@hsul))
      replace H := nf H
      refine mS ?_
      revert a w
      apply cutG (R := fun a w => ∃ x2, XL (X ++ [x] ++ [x2]) (tx key j (s.drop j) e).reverse ∧ RelX w0.heap.size Try.prog w0 N Try.f45.ntmps ⟨[(8, none, .v x2.v), (2, none, .ref (.ba 32) (.ba key)), (5, none, .v (.int .i64 0)), (6, none, .ref ti68.ty (.st [.sl (.ba 32) (bas s) none, .st [.v (B8 n.k), .ba n.key, .ba n.v, .ba n.l, .ba n.r]])), (10, none, .vw 0 (X.length + 1) (X.length + 1)), (11, none, .v (.int .i64 (j : Int)))], [(.vc 26 .sc, .vc (X.length + 1) (vas ((X ++ [x]).map XR.v)))], [], []⟩ (X ++ [x] ++ [x2]) a w)
      intro fin
      apply cutG (R := fun a w => Rel Try.prog w1 N1 Try.f45.ntmps ⟨[(2, none, .ref (.ba 32) (.ba key)), (5, none, .v (.int .i64 0)), (6, none, .ref ti68.ty (.st [.sl (.ba 32) (bas s) none, .st [.v (B8 n.k), .ba n.key, .ba n.v, .ba n.l, .ba n.r]])), (10, none, .vw 0 (X.length + 1) (X.length + 1)), (11, none, .v (.int .i64 (j : Int))), (12, none, .ptr 1 []), (13, none, .ptr 2 [])], [(.vc 26 .sc, .vc (X.length + 1) (vas ((X ++ [x]).map XR.v))), (.ba 32, .ba (sum t)), (.ba 32, .ba x')], [], []⟩ a w)
      intro key1
      apply cutG (R := fun a w => Rel Try.prog w1 N1 Try.f45.ntmps ⟨[(2, none, .ref (.ba 32) (.ba key)), (5, none, .v (.int .i64 0)), (6, none, .ref ti68.ty (.st [.sl (.ba 32) (bas s) none, .st [.v (B8 n.k), .ba n.key, .ba n.v, .ba n.l, .ba n.r]])), (10, none, .vw 0 (X.length + 1) (X.length + 1)), (11, none, .v (.int .i64 (j : Int))), (12, none, .ptr 2 []), (13, none, .ptr 1 [])], [(.vc 26 .sc, .vc (X.length + 1) (vas ((X ++ [x]).map XR.v))), (.ba 32, .ba x'), (.ba 32, .ba (sum t))], [], []⟩ a w)
      intro key2 a w H
      · repeat (first | refine wp_seq ?_ | refine wp_block ?_)
        refine v_drawZ 0 [0, 1, 2, 3, 4, 5, 6, 7, 8, 9, 10] [1, 7, 8, 9, 10] [0, 2, 3, 4, 5, 6] [(1, 7), (1, 8), (7, 8)] (by kernel_rfl) (by kernel_rfl) (by kernel_rfl) (by kernel_rfl) (by kernel_rfl) H (by rfl) ?_; clear H; intro gS H; try replace H := ntf H
        refine wpZ_run 1 (i := 0) (n' := 10) (pend' := [1, 2, 3, 4, 5, 6, 7, 8, 9, 10]) (by rfl) (by rfl) (by rfl) (by rfl) (by rfl) ?_
        repeat ((first | refine v_someT 3 tab_ok hN H (by rfl) ctX ?_ | refine v_someT 2 tab_ok hN H (by rfl) ctX ?_ | refine v_someT 1 tab_ok hN H (by rfl) ctX ?_); clear H; intro a w H; replace H := ntf H; simp only [List.drop_succ_cons, List.drop_zero, List.drop_nil])
        refine wpT_nil ?_
        try dsimp only
        refine wpZ_two (cs := [7, 8]) (by rfl) (by rfl) ?_
        refine all3 ?_
        refine ⟨?_, ?_, ?_⟩
        focus
          refine wpZ_pick (pend' := [2, 3, 4, 5, 6, 7, 8, 9, 10]) (by rfl) (by rfl) ?_
          refine mCallT [] [] (hsu) H ?_; clear H; intro a w H
          refine wpT_nil ?_
          try dsimp only
          refine wpZ_run 5 (i := 2) (n' := 4) (pend' := [7, 8, 9, 10]) (by rfl) (by rfl) (by rfl) (by rfl) (by rfl) ?_
          repeat ((first | refine v_someT 3 tab_ok hN H (by rfl) ctX ?_ | refine v_someT 2 tab_ok hN H (by rfl) ctX ?_ | refine v_someT 1 tab_ok hN H (by rfl) ctX ?_); clear H; intro a w H; replace H := ntf H; simp only [List.drop_succ_cons, List.drop_zero, List.drop_nil])
          refine wpT_nil ?_
          try dsimp only
          refine wpZ_two (cs := [8]) (by rfl) (by rfl) ?_
          refine all2 ?_
          refine ⟨?_, ?_⟩
          focus
            refine wpZ_pick (pend' := [8, 9, 10]) (by rfl) (by rfl) ?_
            repeat ((first | refine v_someT 3 tab_ok hN H (by rfl) ctX ?_ | refine v_someT 2 tab_ok hN H (by rfl) ctX ?_ | refine v_someT 1 tab_ok hN H (by rfl) ctX ?_); clear H; intro a w H; replace H := ntf H; simp only [List.drop_succ_cons, List.drop_zero, List.drop_nil])
            refine wpT_nil ?_
            try dsimp only
            refine wpZ_two (cs := []) (by rfl) (by rfl) ?_
            refine all1 ?_
            refine wpZ_pick (pend' := [9, 10]) (by rfl) (by rfl) ?_
            repeat ((first | refine v_someT 3 tab_ok hN H (by rfl) ctX ?_ | refine v_someT 2 tab_ok hN H (by rfl) ctX ?_ | refine v_someT 1 tab_ok hN H (by rfl) ctX ?_); clear H; intro a w H; replace H := ntf H; simp only [List.drop_succ_cons, List.drop_zero, List.drop_nil])
            refine wpT_nil ?_
            try dsimp only
            refine wpZ_two (cs := []) (by rfl) (by rfl) ?_
            refine all1 ?_
            refine wpZ_pick (pend' := [10]) (by rfl) (by rfl) ?_
            repeat ((first | refine v_someT 3 tab_ok hN H (by rfl) ctX ?_ | refine v_someT 2 tab_ok hN H (by rfl) ctX ?_ | refine v_someT 1 tab_ok hN H (by rfl) ctX ?_); clear H; intro a w H; replace H := ntf H; simp only [List.drop_succ_cons, List.drop_zero, List.drop_nil])
            refine wpT_nil ?_
            try dsimp only
            refine wpZ_two (cs := []) (by rfl) (by rfl) ?_
            refine all1 ?_
            refine wpZ_pick (pend' := []) (by rfl) (by rfl) ?_
            repeat ((first | refine v_someT 3 tab_ok hN H (by rfl) ctX ?_ | refine v_someT 2 tab_ok hN H (by rfl) ctX ?_ | refine v_someT 1 tab_ok hN H (by rfl) ctX ?_); clear H; intro a w H; replace H := ntf H; simp only [List.drop_succ_cons, List.drop_zero, List.drop_nil])
            refine wpT_nil ?_
            try dsimp only
            refine wpZ_nil ?_
            replace H := RelT.toRel H
          rotate_left 1
          focus
            refine wpZ_pick (pend' := [7, 9, 10]) (by rfl) (by rfl) ?_
            repeat ((first | refine v_someT 3 tab_ok hN H (by rfl) ctX ?_ | refine v_someT 2 tab_ok hN H (by rfl) ctX ?_ | refine v_someT 1 tab_ok hN H (by rfl) ctX ?_); clear H; intro a w H; replace H := ntf H; simp only [List.drop_succ_cons, List.drop_zero, List.drop_nil])
            refine wpT_nil ?_
            try dsimp only
            refine wpZ_two (cs := []) (by rfl) (by rfl) ?_
            refine all1 ?_
            refine wpZ_pick (pend' := [9, 10]) (by rfl) (by rfl) ?_
            repeat ((first | refine v_someT 3 tab_ok hN H (by rfl) ctX ?_ | refine v_someT 2 tab_ok hN H (by rfl) ctX ?_ | refine v_someT 1 tab_ok hN H (by rfl) ctX ?_); clear H; intro a w H; replace H := ntf H; simp only [List.drop_succ_cons, List.drop_zero, List.drop_nil])
            refine wpT_nil ?_
            try dsimp only
            refine wpZ_two (cs := []) (by rfl) (by rfl) ?_
            refine all1 ?_
            refine wpZ_pick (pend' := [10]) (by rfl) (by rfl) ?_
            repeat ((first | refine v_someT 3 tab_ok hN H (by rfl) ctX ?_ | refine v_someT 2 tab_ok hN H (by rfl) ctX ?_ | refine v_someT 1 tab_ok hN H (by rfl) ctX ?_); clear H; intro a w H; replace H := ntf H; simp only [List.drop_succ_cons, List.drop_zero, List.drop_nil])
            refine wpT_nil ?_
            try dsimp only
            refine wpZ_two (cs := []) (by rfl) (by rfl) ?_
            refine all1 ?_
            refine wpZ_pick (pend' := []) (by rfl) (by rfl) ?_
            repeat ((first | refine v_someT 3 tab_ok hN H (by rfl) ctX ?_ | refine v_someT 2 tab_ok hN H (by rfl) ctX ?_ | refine v_someT 1 tab_ok hN H (by rfl) ctX ?_); clear H; intro a w H; replace H := ntf H; simp only [List.drop_succ_cons, List.drop_zero, List.drop_nil])
            refine wpT_nil ?_
            try dsimp only
            refine wpZ_nil ?_
            replace H := RelT.toRel H
        rotate_left 2
        focus
          refine wpZ_pick (pend' := [1, 2, 3, 4, 5, 6, 8, 9, 10]) (by rfl) (by rfl) ?_
          repeat ((first | refine v_someT 3 tab_ok hN H (by rfl) ctX ?_ | refine v_someT 2 tab_ok hN H (by rfl) ctX ?_ | refine v_someT 1 tab_ok hN H (by rfl) ctX ?_); clear H; intro a w H; replace H := ntf H; simp only [List.drop_succ_cons, List.drop_zero, List.drop_nil])
          refine wpT_nil ?_
          try dsimp only
          refine wpZ_two (cs := [8]) (by rfl) (by rfl) ?_
          refine all2 ?_
          refine ⟨?_, ?_⟩
          focus
            refine wpZ_pick (pend' := [2, 3, 4, 5, 6, 8, 9, 10]) (by rfl) (by rfl) ?_
            refine mCallT [] [] (hsu) H ?_; clear H; intro a w H
            refine wpT_nil ?_
            try dsimp only
            refine wpZ_run 5 (i := 2) (n' := 3) (pend' := [8, 9, 10]) (by rfl) (by rfl) (by rfl) (by rfl) (by rfl) ?_
            repeat ((first | refine v_someT 3 tab_ok hN H (by rfl) ctX ?_ | refine v_someT 2 tab_ok hN H (by rfl) ctX ?_ | refine v_someT 1 tab_ok hN H (by rfl) ctX ?_); clear H; intro a w H; replace H := ntf H; simp only [List.drop_succ_cons, List.drop_zero, List.drop_nil])
            refine wpT_nil ?_
            try dsimp only
            refine wpZ_two (cs := []) (by rfl) (by rfl) ?_
            refine all1 ?_
            refine wpZ_pick (pend' := [9, 10]) (by rfl) (by rfl) ?_
            repeat ((first | refine v_someT 3 tab_ok hN H (by rfl) ctX ?_ | refine v_someT 2 tab_ok hN H (by rfl) ctX ?_ | refine v_someT 1 tab_ok hN H (by rfl) ctX ?_); clear H; intro a w H; replace H := ntf H; simp only [List.drop_succ_cons, List.drop_zero, List.drop_nil])
            refine wpT_nil ?_
            try dsimp only
            refine wpZ_two (cs := []) (by rfl) (by rfl) ?_
            refine all1 ?_
            refine wpZ_pick (pend' := [10]) (by rfl) (by rfl) ?_
            repeat ((first | refine v_someT 3 tab_ok hN H (by rfl) ctX ?_ | refine v_someT 2 tab_ok hN H (by rfl) ctX ?_ | refine v_someT 1 tab_ok hN H (by rfl) ctX ?_); clear H; intro a w H; replace H := ntf H; simp only [List.drop_succ_cons, List.drop_zero, List.drop_nil])
            refine wpT_nil ?_
            try dsimp only
            refine wpZ_two (cs := []) (by rfl) (by rfl) ?_
            refine all1 ?_
            refine wpZ_pick (pend' := []) (by rfl) (by rfl) ?_
            repeat ((first | refine v_someT 3 tab_ok hN H (by rfl) ctX ?_ | refine v_someT 2 tab_ok hN H (by rfl) ctX ?_ | refine v_someT 1 tab_ok hN H (by rfl) ctX ?_); clear H; intro a w H; replace H := ntf H; simp only [List.drop_succ_cons, List.drop_zero, List.drop_nil])
            refine wpT_nil ?_
            try dsimp only
            refine wpZ_nil ?_
            replace H := RelT.toRel H
          rotate_left 1
          focus
            refine wpZ_pick (pend' := [1, 2, 3, 4, 5, 6, 9, 10]) (by rfl) (by rfl) ?_
            repeat ((first | refine v_someT 3 tab_ok hN H (by rfl) ctX ?_ | refine v_someT 2 tab_ok hN H (by rfl) ctX ?_ | refine v_someT 1 tab_ok hN H (by rfl) ctX ?_); clear H; intro a w H; replace H := ntf H; simp only [List.drop_succ_cons, List.drop_zero, List.drop_nil])
            refine wpT_nil ?_
            try dsimp only
            refine wpZ_two (cs := []) (by rfl) (by rfl) ?_
            refine all1 ?_
            refine wpZ_pick (pend' := [2, 3, 4, 5, 6, 9, 10]) (by rfl) (by rfl) ?_
            refine mCallT [] [] (hsu) H ?_; clear H; intro a w H
            refine wpT_nil ?_
            try dsimp only
            refine wpZ_run 5 (i := 2) (n' := 2) (pend' := [9, 10]) (by rfl) (by rfl) (by rfl) (by rfl) (by rfl) ?_
            repeat ((first | refine v_someT 3 tab_ok hN H (by rfl) ctX ?_ | refine v_someT 2 tab_ok hN H (by rfl) ctX ?_ | refine v_someT 1 tab_ok hN H (by rfl) ctX ?_); clear H; intro a w H; replace H := ntf H; simp only [List.drop_succ_cons, List.drop_zero, List.drop_nil])
            refine wpT_nil ?_
            try dsimp only
            refine wpZ_two (cs := []) (by rfl) (by rfl) ?_
            refine all1 ?_
            refine wpZ_pick (pend' := [10]) (by rfl) (by rfl) ?_
            repeat ((first | refine v_someT 3 tab_ok hN H (by rfl) ctX ?_ | refine v_someT 2 tab_ok hN H (by rfl) ctX ?_ | refine v_someT 1 tab_ok hN H (by rfl) ctX ?_); clear H; intro a w H; replace H := ntf H; simp only [List.drop_succ_cons, List.drop_zero, List.drop_nil])
            refine wpT_nil ?_
            try dsimp only
            refine wpZ_two (cs := []) (by rfl) (by rfl) ?_
            refine all1 ?_
            refine wpZ_pick (pend' := []) (by rfl) (by rfl) ?_
            repeat ((first | refine v_someT 3 tab_ok hN H (by rfl) ctX ?_ | refine v_someT 2 tab_ok hN H (by rfl) ctX ?_ | refine v_someT 1 tab_ok hN H (by rfl) ctX ?_); clear H; intro a w H; replace H := ntf H; simp only [List.drop_succ_cons, List.drop_zero, List.drop_nil])
            refine wpT_nil ?_
            try dsimp only
            refine wpZ_nil ?_
            replace H := RelT.toRel H
        rotate_left 2
        focus
          refine wpZ_pick (pend' := [1, 2, 3, 4, 5, 6, 7, 9, 10]) (by rfl) (by rfl) ?_
          repeat ((first | refine v_someT 3 tab_ok hN H (by rfl) ctX ?_ | refine v_someT 2 tab_ok hN H (by rfl) ctX ?_ | refine v_someT 1 tab_ok hN H (by rfl) ctX ?_); clear H; intro a w H; replace H := ntf H; simp only [List.drop_succ_cons, List.drop_zero, List.drop_nil])
          refine wpT_nil ?_
          try dsimp only
          refine wpZ_two (cs := [7]) (by rfl) (by rfl) ?_
          refine all2 ?_
          refine ⟨?_, ?_⟩
          focus
            refine wpZ_pick (pend' := [2, 3, 4, 5, 6, 7, 9, 10]) (by rfl) (by rfl) ?_
            refine mCallT [] [] (hsu) H ?_; clear H; intro a w H
            refine wpT_nil ?_
            try dsimp only
            refine wpZ_run 5 (i := 2) (n' := 3) (pend' := [7, 9, 10]) (by rfl) (by rfl) (by rfl) (by rfl) (by rfl) ?_
            repeat ((first | refine v_someT 3 tab_ok hN H (by rfl) ctX ?_ | refine v_someT 2 tab_ok hN H (by rfl) ctX ?_ | refine v_someT 1 tab_ok hN H (by rfl) ctX ?_); clear H; intro a w H; replace H := ntf H; simp only [List.drop_succ_cons, List.drop_zero, List.drop_nil])
            refine wpT_nil ?_
            try dsimp only
            refine wpZ_two (cs := []) (by rfl) (by rfl) ?_
            refine all1 ?_
            refine wpZ_pick (pend' := [9, 10]) (by rfl) (by rfl) ?_
            repeat ((first | refine v_someT 3 tab_ok hN H (by rfl) ctX ?_ | refine v_someT 2 tab_ok hN H (by rfl) ctX ?_ | refine v_someT 1 tab_ok hN H (by rfl) ctX ?_); clear H; intro a w H; replace H := ntf H; simp only [List.drop_succ_cons, List.drop_zero, List.drop_nil])
            refine wpT_nil ?_
            try dsimp only
            refine wpZ_two (cs := []) (by rfl) (by rfl) ?_
            refine all1 ?_
            refine wpZ_pick (pend' := [10]) (by rfl) (by rfl) ?_
            repeat ((first | refine v_someT 3 tab_ok hN H (by rfl) ctX ?_ | refine v_someT 2 tab_ok hN H (by rfl) ctX ?_ | refine v_someT 1 tab_ok hN H (by rfl) ctX ?_); clear H; intro a w H; replace H := ntf H; simp only [List.drop_succ_cons, List.drop_zero, List.drop_nil])
            refine wpT_nil ?_
            try dsimp only
            refine wpZ_two (cs := []) (by rfl) (by rfl) ?_
            refine all1 ?_
            refine wpZ_pick (pend' := []) (by rfl) (by rfl) ?_
            repeat ((first | refine v_someT 3 tab_ok hN H (by rfl) ctX ?_ | refine v_someT 2 tab_ok hN H (by rfl) ctX ?_ | refine v_someT 1 tab_ok hN H (by rfl) ctX ?_); clear H; intro a w H; replace H := ntf H; simp only [List.drop_succ_cons, List.drop_zero, List.drop_nil])
            refine wpT_nil ?_
            try dsimp only
            refine wpZ_nil ?_
            replace H := RelT.toRel H
          rotate_left 1
          focus
            refine wpZ_pick (pend' := [1, 2, 3, 4, 5, 6, 9, 10]) (by rfl) (by rfl) ?_
            repeat ((first | refine v_someT 3 tab_ok hN H (by rfl) ctX ?_ | refine v_someT 2 tab_ok hN H (by rfl) ctX ?_ | refine v_someT 1 tab_ok hN H (by rfl) ctX ?_); clear H; intro a w H; replace H := ntf H; simp only [List.drop_succ_cons, List.drop_zero, List.drop_nil])
            refine wpT_nil ?_
            try dsimp only
            refine wpZ_two (cs := []) (by rfl) (by rfl) ?_
            refine all1 ?_
            refine wpZ_pick (pend' := [2, 3, 4, 5, 6, 9, 10]) (by rfl) (by rfl) ?_
            refine mCallT [] [] (hsu) H ?_; clear H; intro a w H
            refine wpT_nil ?_
            try dsimp only
            refine wpZ_run 5 (i := 2) (n' := 2) (pend' := [9, 10]) (by rfl) (by rfl) (by rfl) (by rfl) (by rfl) ?_
            repeat ((first | refine v_someT 3 tab_ok hN H (by rfl) ctX ?_ | refine v_someT 2 tab_ok hN H (by rfl) ctX ?_ | refine v_someT 1 tab_ok hN H (by rfl) ctX ?_); clear H; intro a w H; replace H := ntf H; simp only [List.drop_succ_cons, List.drop_zero, List.drop_nil])
            refine wpT_nil ?_
            try dsimp only
            refine wpZ_two (cs := []) (by rfl) (by rfl) ?_
            refine all1 ?_
            refine wpZ_pick (pend' := [10]) (by rfl) (by rfl) ?_
            repeat ((first | refine v_someT 3 tab_ok hN H (by rfl) ctX ?_ | refine v_someT 2 tab_ok hN H (by rfl) ctX ?_ | refine v_someT 1 tab_ok hN H (by rfl) ctX ?_); clear H; intro a w H; replace H := ntf H; simp only [List.drop_succ_cons, List.drop_zero, List.drop_nil])
            refine wpT_nil ?_
            try dsimp only
            refine wpZ_two (cs := []) (by rfl) (by rfl) ?_
            refine all1 ?_
            refine wpZ_pick (pend' := []) (by rfl) (by rfl) ?_
            repeat ((first | refine v_someT 3 tab_ok hN H (by rfl) ctX ?_ | refine v_someT 2 tab_ok hN H (by rfl) ctX ?_ | refine v_someT 1 tab_ok hN H (by rfl) ctX ?_); clear H; intro a w H; replace H := ntf H; simp only [List.drop_succ_cons, List.drop_zero, List.drop_nil])
            refine wpT_nil ?_
            try dsimp only
            refine wpZ_nil ?_
            replace H := RelT.toRel H
        all_goals
          first
          | exact key1 _ _ (H.to 3 0 ⟨Nat.le_trans hN (Nat.le_of_ble_eq_true rfl), hR⟩ ⟨rfl, rfl, rfl, rfl, rfl, rfl, rfl, trivial⟩ rfl rfl rfl rfl rfl)
          | exact key2 _ _ (H.to 3 0 ⟨Nat.le_trans hN (Nat.le_of_ble_eq_true rfl), hR⟩ ⟨rfl, rfl, rfl, rfl, rfl, rfl, rfl, trivial⟩ rfl rfl rfl rfl rfl)
      · intro a w H
        refine mW ?_; clear H; intro a w H
        refine mCall [] [] (hbit) H ?_; clear H; intro a w H; try refine wpList_nil ?_
        refine mW ?_; clear H; intro a w H
        simp only [hpb] at H
        refine mC H (fun hb => ?_) (fun hb => ?_)
        · have hd : textD key j x' t = 2 :: (x' ++ sum t) := by unfold textD; rw [hb]; rfl
          rw [hd] at htx
          clear hb
          refine mW ?_; clear H; intro a w H
          refine mCall [] [] (hit2) H ?_; clear H; intro a w H; try refine wpList_nil ?_
          (try refine wp_region_lit ?_); refine mN 1 hN H ?_; clear H; intro a w H
          refine wpList_nil ?_
          have H : Rel Try.prog w1 N1 Try.f45.ntmps ⟨[(8, none, .bs (2 :: (x' ++ sum t)) (some 0)), (2, none, .ref (.ba 32) (.ba key)), (5, none, .v (.int .i64 0)), (6, none, .ref ti68.ty (.st [.sl (.ba 32) (bas s) none, .st [.v (B8 n.k), .ba n.key, .ba n.v, .ba n.l, .ba n.r]])), (10, none, .vw 0 (X.length + 1) (X.length + 1)), (11, none, .v (.int .i64 (j : Int)))], [(.vc 26 .sc, .vc (X.length + 1) (vas ((X ++ [x]).map XR.v)))], [], [(5, 65)]⟩ a w := H.to 1 1 ⟨hN, Nat.le_trans hR (Nat.zero_le _)⟩ ⟨rfl, rfl, rfl, rfl, rfl, rfl, trivial⟩ rfl rfl rfl rfl rfl
          obtain ⟨x2, ⟨a1, a2, a3, a4⟩, H⟩ := v_pub (RelX.close hB hZ H) (Nat.le_refl _) [2, 5, 6, 10, 11] 8 0 5 rfl hM.2 rfl (by rw [htl2]; rfl) rfl rfl
          have hx2 : XB x2 (2 :: (x' ++ sum t)) := ⟨a1, a2, a3, a4⟩
          exact fin _ _ ⟨x2, by rw [htx, List.reverse_cons, List.reverse_cons]; exact (hL1.snoc hL2).snoc hx2, H.cast rfl⟩
        · have hd : textD key j x' t = 2 :: (sum t ++ x') := by unfold textD; rw [hb]; rfl
          rw [hd] at htx
          clear hb
          refine mW ?_; clear H; intro a w H
          refine mCall [] [] (hit1) H ?_; clear H; intro a w H; try refine wpList_nil ?_
          (try refine wp_region_lit ?_); refine mN 1 hN H ?_; clear H; intro a w H
          refine wpList_nil ?_
          have H : Rel Try.prog w1 N1 Try.f45.ntmps ⟨[(8, none, .bs (2 :: (sum t ++ x')) (some 0)), (2, none, .ref (.ba 32) (.ba key)), (5, none, .v (.int .i64 0)), (6, none, .ref ti68.ty (.st [.sl (.ba 32) (bas s) none, .st [.v (B8 n.k), .ba n.key, .ba n.v, .ba n.l, .ba n.r]])), (10, none, .vw 0 (X.length + 1) (X.length + 1)), (11, none, .v (.int .i64 (j : Int)))], [(.vc 26 .sc, .vc (X.length + 1) (vas ((X ++ [x]).map XR.v)))], [], [(5, 65)]⟩ a w := H.to 1 1 ⟨hN, Nat.le_trans hR (Nat.zero_le _)⟩ ⟨rfl, rfl, rfl, rfl, rfl, rfl, trivial⟩ rfl rfl rfl rfl rfl
          obtain ⟨x2, ⟨a1, a2, a3, a4⟩, H⟩ := v_pub (RelX.close hB hZ H) (Nat.le_refl _) [2, 5, 6, 10, 11] 8 0 5 rfl hM.2 rfl (by rw [htl1]; rfl) rfl rfl
          have hx2 : XB x2 (2 :: (sum t ++ x')) := ⟨a1, a2, a3, a4⟩
          exact fin _ _ ⟨x2, by rw [htx, List.reverse_cons, List.reverse_cons]; exact (hL1.snoc hL2).snoc hx2, H.cast rfl⟩
      · intro a w H
        refine mW ?_; clear H; intro a w H
        refine mCall [] [] (hbit) H ?_; clear H; intro a w H; try refine wpList_nil ?_
        refine mW ?_; clear H; intro a w H
        simp only [hpb] at H
        refine mC H (fun hb => ?_) (fun hb => ?_)
        · have hd : textD key j x' t = 2 :: (x' ++ sum t) := by unfold textD; rw [hb]; rfl
          rw [hd] at htx
          clear hb
          refine mW ?_; clear H; intro a w H
          refine mCall [] [] (hit2) H ?_; clear H; intro a w H; try refine wpList_nil ?_
          (try refine wp_region_lit ?_); refine mN 1 hN H ?_; clear H; intro a w H
          refine wpList_nil ?_
          have H : Rel Try.prog w1 N1 Try.f45.ntmps ⟨[(8, none, .bs (2 :: (x' ++ sum t)) (some 0)), (2, none, .ref (.ba 32) (.ba key)), (5, none, .v (.int .i64 0)), (6, none, .ref ti68.ty (.st [.sl (.ba 32) (bas s) none, .st [.v (B8 n.k), .ba n.key, .ba n.v, .ba n.l, .ba n.r]])), (10, none, .vw 0 (X.length + 1) (X.length + 1)), (11, none, .v (.int .i64 (j : Int)))], [(.vc 26 .sc, .vc (X.length + 1) (vas ((X ++ [x]).map XR.v)))], [], [(5, 65)]⟩ a w := H.to 1 1 ⟨hN, Nat.le_trans hR (Nat.zero_le _)⟩ ⟨rfl, rfl, rfl, rfl, rfl, rfl, trivial⟩ rfl rfl rfl rfl rfl
          obtain ⟨x2, ⟨a1, a2, a3, a4⟩, H⟩ := v_pub (RelX.close hB hZ H) (Nat.le_refl _) [2, 5, 6, 10, 11] 8 0 5 rfl hM.2 rfl (by rw [htl2]; rfl) rfl rfl
          have hx2 : XB x2 (2 :: (x' ++ sum t)) := ⟨a1, a2, a3, a4⟩
          exact fin _ _ ⟨x2, by rw [htx, List.reverse_cons, List.reverse_cons]; exact (hL1.snoc hL2).snoc hx2, H.cast rfl⟩
        · have hd : textD key j x' t = 2 :: (sum t ++ x') := by unfold textD; rw [hb]; rfl
          rw [hd] at htx
          clear hb
          refine mW ?_; clear H; intro a w H
          refine mCall [] [] (hit1) H ?_; clear H; intro a w H; try refine wpList_nil ?_
          (try refine wp_region_lit ?_); refine mN 1 hN H ?_; clear H; intro a w H
          refine wpList_nil ?_
          have H : Rel Try.prog w1 N1 Try.f45.ntmps ⟨[(8, none, .bs (2 :: (sum t ++ x')) (some 0)), (2, none, .ref (.ba 32) (.ba key)), (5, none, .v (.int .i64 0)), (6, none, .ref ti68.ty (.st [.sl (.ba 32) (bas s) none, .st [.v (B8 n.k), .ba n.key, .ba n.v, .ba n.l, .ba n.r]])), (10, none, .vw 0 (X.length + 1) (X.length + 1)), (11, none, .v (.int .i64 (j : Int)))], [(.vc 26 .sc, .vc (X.length + 1) (vas ((X ++ [x]).map XR.v)))], [], [(5, 65)]⟩ a w := H.to 1 1 ⟨hN, Nat.le_trans hR (Nat.zero_le _)⟩ ⟨rfl, rfl, rfl, rfl, rfl, rfl, trivial⟩ rfl rfl rfl rfl rfl
          obtain ⟨x2, ⟨a1, a2, a3, a4⟩, H⟩ := v_pub (RelX.close hB hZ H) (Nat.le_refl _) [2, 5, 6, 10, 11] 8 0 5 rfl hM.2 rfl (by rw [htl1]; rfl) rfl rfl
          have hx2 : XB x2 (2 :: (sum t ++ x')) := ⟨a1, a2, a3, a4⟩
          exact fin _ _ ⟨x2, by rw [htx, List.reverse_cons, List.reverse_cons]; exact (hL1.snoc hL2).snoc hx2, H.cast rfl⟩
      · rintro a w2 ⟨x2, hL3, H⟩
        clear hB hZ hN hR
        obtain ⟨N2, hB, hZ, H, hN1, hR1⟩ := H.open_
        have hN : N2.bx.length ≤ 1 := Nat.le_of_eq hN1
        have hR : N2.rw.length ≤ 0 := Nat.le_of_eq hR1
        clear hN1 hR1
        refine mS ?_
        clear hX; have hX := And.intro @hsl (@hvl)
        refine mW ?_; clear H; intro a w H
        have ev : List.take (X.length + 1) (vas ((X ++ [x]).map XR.v)) ++ [.v x2.v] = vas ((X ++ [x] ++ [x2]).map XR.v) := by
          rw [List.take_of_length_le (by omega), ← vas_snoc, List.map_append (l₁ := X ++ [x])]; rfl
        have el : X.length + 1 = (X ++ [x]).length := by simp
        rw [ev, el] at H
        exact ⟨j, by omega, by omega, X ++ [x], x2, hL3, RelX.close hB hZ (H.to 1 0 ⟨hN, hR⟩ ⟨rfl, rfl, rfl, rfl, rfl, rfl, trivial⟩ rfl rfl rfl rfl rfl)⟩
    · have hge : k = 0 := by rw [decide_eq_false_iff_not] at hb; omega
      subst hge
      clear hb
      rw [List.drop_zero] at hL
      have hXl : X.length + 1 = (tx key 0 s e).length := by have := hL.1; rw [List.length_reverse] at this; rw [← this]; simp
      have htl9 := tx_len key e 0 s
      have hrv := revR_v ((X ++ [x]).map XR.v) (X.length + 1) (by rw [List.length_map, List.length_append]; simp only [List.length_cons, List.length_nil]; omega)
      rw [List.length_map, List.length_append] at hrv
      simp only [List.length_cons, List.length_nil, Nat.zero_add] at hrv
      refine mW ?_; clear H; intro a w H
      refine mCall [0] [] (hrv) H ?_; clear H; intro a w H; try refine wpList_nil ?_
      refine mW ?_; clear H; intro a w H
      have el : X.length + 1 = (X ++ [x]).length := by simp
      rw [el] at H
      refine wp_ret ?_
      exact v_endE (rs := [.tmp 4, .tmp 5]) (ress := [_, _]) (nb := 0) (nr := 0) [0] [] tab_ok hM rfl (RelX.close hB hZ H) (by rfl) rfl cbX (by rfl) ⟨sub_refl _ _, sub_refl _ _, trivial⟩ rfl ⟨rfl, rfl, rfl, hL⟩
end Go.Proofs.Ytigmpdhnhkdeiaa
/- Where two lists of texts part (plain). -/
namespace Go.Proofs.Ytigmpdhnhkdeiaa
open Go Go.RowKit
/-- Where two lists of texts part. -/
def prt : List (List UInt8) → List (List UInt8) → Nat → List UInt8 × List UInt8 × Int
  | x :: a, y :: b, d => if x = y then prt a b (d + 1) else (x, y, (d : Int))
  | _, _, _ => ([], [], -1)
theorem prt_step (a b : List (List UInt8)) (k : Nat) (ha : k < a.length) (hb : k < b.length) : prt (a.drop k) (b.drop k) k = if a.getD k [] = b.getD k [] then prt (a.drop (k + 1)) (b.drop (k + 1)) (k + 1) else (a.getD k [], b.getD k [], (k : Int)) := by
  rw [List.drop_eq_getElem_cons ha, List.drop_eq_getElem_cons hb, List.getElem_eq_getD [], List.getElem_eq_getD []]; rfl
theorem prt_end (a b : List (List UInt8)) (k : Nat) (h : a.length ≤ k ∨ b.length ≤ k) : prt (a.drop k) (b.drop k) k = ([], [], -1) := by
  rcases h with h | h
  · rw [List.drop_of_length_le h]; rfl
  · rw [List.drop_of_length_le h]; cases a.drop k <;> rfl
end Go.Proofs.Ytigmpdhnhkdeiaa
/- Where two proofs part, the texts on their own: extract.Part. -/
namespace Go.Proofs.Ytigmpdhnhkdeiaa
open Go Go.RowKit
theorem nfX {P : Program} {w0 w : World} {N : Gh} {nt lo : Nat} {st s2 : St} {X : List XR} {a : Act} (H : RelX lo P w0 N nt st X a w) (h : st = s2 := by exact nfs) : RelX lo P w0 N nt s2 X a w := h ▸ H
theorem v_seeXT {P : Program} {w0 w : World} {N gS : Gh} {nt lo : Nat} {sq st : St} {X : List XR} {a : Act} (hZ : Xs lo N w0 X) (H : RelT P w0 N nt gS sq st a w) (d : Nat) {x : AV} (y : AV) (hs : SeeX X x y) (hd : find d st.t = some (none, x)) : RelT P w0 N nt gS sq ⟨nilT d y st.t, st.bx, st.fz, st.rw⟩ a w := by
  obtain ⟨hM, hrw, hFq, hBq, g, HI, hF, hle, hbs⟩ := H
  refine ⟨hM, hrw, hFq, hBq, g, HI, ⟨hF.sz, hF.df, fun p hp hg => ?_, fun p hp hg => by rcases nilT_mem hp with h | h; (subst h; exact absurd trivial hg); exact hF.u p h hg⟩, hle, hbs⟩
  rcases nilT_mem hp with h | h
  · subst h; exact (hF.t _ (find_mem hd) trivial).seeX hZ hs fun b o u hu => HI.fr.le.ro b o u hu
  · exact hF.t p h hg
theorem XL.getR {X : List XR} {ls : List (List UInt8)} (h : XL X ls.reverse) (k : Nat) (hk : k < ls.length) : ∃ x, X[X.length - 1 - k]? = some x ∧ ((X.map XR.v).reverse).getD k undef = x.v ∧ XB x (ls.getD k []) := by
  have hl : X.length = ls.length := by have := h.1; rwa [List.length_reverse] at this
  refine ⟨X[X.length - 1 - k]'(by omega), List.getElem?_eq_getElem _, ?_, ?_⟩
  · rw [List.getD_eq_getElem?_getD, List.getElem?_eq_getElem (by rw [List.length_reverse, List.length_map]; omega), List.getElem_reverse]
    simp
  · have := h.2 (X.length - 1 - k) (by omega) (by rw [List.length_reverse]; omega)
    rw [List.getElem_reverse] at this
    rw [List.getD_eq_getElem?_getD, List.getElem?_eq_getElem hk]
    have e : ls.length - 1 - (X.length - 1 - k) = k := by omega
    simp only [e] at this
    exact this
theorem textsX_bad (key l : List UInt8) (hk32 : key.length = 32) (hl : l.length ≤ 34359730000) (h : ¬ pOk l) : VC Try.prog 45 [.ba key, .bs l none] [] (.tup [.v (.slice none 0 0), errv 10]) := by
  have hd := decodeP_v l hl
  rw [if_neg h] at hd
  have hw := pDec_wf l
  obtain ⟨g1, g2, g3, g4⟩ := id hw.e
  generalize pDec l = p at *
  refine mE Try.func45 ?_; intro N w0 a w hN hR H
  simp only [Pf.av, Nd.av] at hd
  refine mW ?_; clear H; intro a w H
  refine mCall [] [] (hd) H ?_; clear H; intro a w H; try refine wpList_nil ?_
  refine mW ?_; clear H; intro a w H
  refine mC H (fun hb => ?_) (fun hb => ?_)
  · refine mW ?_; clear H; intro a w H
    refine wp_ret ?_; exact mEnd [] [] [.tmp 4, .tmp 5] [_, _] hN hR H
  · simp at hb
/-- Two slices on their own, or none. -/
def ClR (X : List XR) (r1 r2 : Value) (l1 l2 : List UInt8) : Prop :=
  (r1 = .slice none 0 0 ∧ r2 = .slice none 0 0 ∧ l1 = [] ∧ l2 = []) ∨ ∃ (i j : Nat) (x y : XR), X[i]? = some x ∧ X[j]? = some y ∧ i ≠ j ∧ r1 = x.v ∧ r2 = y.v ∧ XB x l1 ∧ XB y l2
def prtE (key p q : List UInt8) : List UInt8 × List UInt8 × Int × Int := if pOk p ∧ pOk q then ((prt (txs key p) (txs key q) 0).1, (prt (txs key p) (txs key q) 0).2.1, (prt (txs key p) (txs key q) 0).2.2, 0) else ([], [], 0, 10)
theorem FrX.refl (lo : Nat) (w : World) (N : Gh) : FrX lo w N N w := .of ⟨Kept.refl _ _, fun i x hx hxo => .inr ⟨x, hx, hxo, rfl⟩, fun i r k hr hrk => .inr ⟨r, hr, hrk⟩, fun _ _ _ _ => rfl, Gh.le.refl _⟩ lo
theorem Xs.nil (lo : Nat) (N : Gh) (w : World) : Xs lo N w [] := ⟨fun x hx => (by cases hx), List.Pairwise.nil⟩
attribute [local irreducible] wpT
set_option maxRecDepth 20000 in
set_option maxHeartbeats 4000000 in
theorem part_E (key p q : List UInt8) (hk : key.length = 32) (hp : p.length ≤ 34359730000) (hq : q.length ≤ 34359730000) (hl1 : (txs key p).length ≤ 300) (hl2 : (txs key q).length ≤ 300) :
    VE Try.prog 47 [.ba key, .bs p none, .bs q none] (fun X bx' rw' res => bx' = [] ∧ rw' = [] ∧ ∃ r1 r2, res = .tup [.st [.v r1, .v r2], .v (.int .i64 (prtE key p q).2.2.1), errv (prtE key p q).2.2.2] ∧ ClR X r1 r2 (prtE key p q).1 (prtE key p q).2.1) := by
  refine v_enterE Try.func47 rfl (by kernel_rfl) (by show 3 ≤ 63; decide) ?_
  intro N w0 a w hN hR H
  by_cases h1 : pOk p
  · have t1 := texts_E key p hk hp h1
    have hM : N.bx.length ≤ 0 ∧ N.rw.length ≤ 0 := ⟨hN, hR⟩
    refine mW ?_; clear H; intro a w H
    refine v_callE t1 (FrX.refl _ _ _) (Nat.le_refl _) (Xs.nil _ _ _) H (by rintro Y bx' rw' res ⟨rfl, rfl, rfl, _⟩; exact ⟨rfl, rfl⟩) ?_
    clear H
    rintro XA bx' rw' res a w1 ⟨rfl, rfl, rfl, hA⟩ H
    replace H := nfX H
    clear hN hR
    obtain ⟨N1, hB, hZ, H, hN1, hR1⟩ := H.open_
    have hN : N1.bx.length ≤ 3 := Nat.le_of_eq hN1
    have hR : N1.rw.length ≤ 0 := Nat.le_of_eq hR1
    clear hN1 hR1
    refine mW ?_; clear H; intro a w H
    refine mC H (fun hb => ?_) (fun hb => ?_)
    · exact absurd hb (by decide)
    · clear hb
      by_cases h2 : pOk q
      · have t2 := texts_E key q hk hq h2
        refine mW ?_; clear H; intro a w H
        refine v_callE t2 hB (Nat.le_refl _) hZ H (by rintro Y bx' rw' res ⟨rfl, rfl, rfl, _⟩; exact ⟨rfl, rfl⟩) ?_
        clear H
        rintro XB' bx' rw' res a w2 ⟨rfl, rfl, rfl, hBB⟩ H
        replace H := nfX H
        clear hN hR hB hZ
        obtain ⟨N1, hB, hZ, H, hN1, hR1⟩ := H.open_
        have hN : N1.bx.length ≤ 4 := Nat.le_of_eq hN1
        have hR : N1.rw.length ≤ 0 := Nat.le_of_eq hR1
        clear hN1 hR1
        refine mW ?_; clear H; intro a w H
        have hAl : XA.length = (txs key p).length := by have := hA.1; rwa [List.length_reverse] at this
        have hBl : XB'.length = (txs key q).length := by have := hBB.1; rwa [List.length_reverse] at this
        have hpe : prtE key p q = ((prt (txs key p) (txs key q) 0).1, (prt (txs key p) (txs key q) 0).2.1, (prt (txs key p) (txs key q) 0).2.2, 0) := by unfold prtE; rw [if_pos ⟨h1, h2⟩]
        rw [hpe]
        generalize txs key p = la at *
        generalize txs key q = lb at *
        rw [hAl, hBl] at H
        refine mC H ?_ ?_
        · intro hb; exact absurd hb (by decide)
        intro hb
        clear hb
        refine mW ?_; clear H; intro a w H
        have em : (if ((lb.length : Nat) : Int) < ((la.length : Nat) : Int) then ((lb.length : Nat) : Int) else ((la.length : Nat) : Int)) = ((min la.length lb.length : Nat) : Int) := by
          split <;> omega
        rw [em] at H
        obtain ⟨m, hm⟩ : ∃ m, m = min la.length lb.length := ⟨_, rfl⟩
        rw [← hm] at H
        clear em hpe
        have hva : (vas (XA.map XR.v).reverse).length = la.length := by rw [vas_len, List.length_reverse, List.length_map]; exact hAl
        have hvb : (vas (XB'.map XR.v).reverse).length = lb.length := by rw [vas_len, List.length_reverse, List.length_map]; exact hBl
        refine v_loop (fun k : Nat => ⟨[(38, none, .v (.int .i64 (k : Int))), (37, none, .v (.int .i64 (m : Int))), (11, none, .vw 3 lb.length lb.length), (9, none, .vw 2 la.length la.length), (8, none, .v (.int .i64 0)), (7, none, .v (.int .i64 0)), (6, none, .ptr 1 [])],
          [(.ba 32, .ba key), (ti101.ty, .st [.v (.slice none 0 0), .v (.slice none 0 0)]), (.vc 26 .sc, .vc la.length (vas (XA.map XR.v).reverse)), (.vc 26 .sc, .vc lb.length (vas (XB'.map XR.v).reverse))], [], []⟩)
          (fun k => k ≤ m ∧ prt la lb 0 = prt (la.drop k) (lb.drop k) k) (fun k => m - k) 0 ⟨Nat.zero_le _, rfl⟩ (H.to 4 0 ⟨hN, hR⟩ ⟨rfl, rfl, rfl, rfl, rfl, rfl, rfl, trivial⟩ rfl rfl rfl rfl rfl) ?_
        clear H
        rintro k a w ⟨hk2, hpr⟩ H
        refine mW ?_; clear H; intro a w H
        refine mC H (fun hb => ?_) (fun hb => ?_)
        · have hlt : k < m := by rw [decide_eq_true_eq] at hb; omega
          clear hb
          obtain ⟨x, hx1, hx2, hx3⟩ := hA.getR k (by omega)
          obtain ⟨y, hy1, hy2, hy3⟩ := hBB.getR k (by omega)
          have ga := vas_get (XA.map XR.v).reverse k (by rw [List.length_reverse, List.length_map]; omega)
          have gb := vas_get (XB'.map XR.v).reverse k (by rw [List.length_reverse, List.length_map]; omega)
          rw [hx2] at ga
          rw [hy2] at gb
          have hst := prt_step la lb k (by omega) (by omega)
          have hcmp := compare_v (la.getD k []) (lb.getD k [])
          have hcz := cmp_zero (la.getD k []) (lb.getD k [])
          generalize la.getD k [] = lx at *
          generalize lb.getD k [] = ly at *
          have mx : XA[XA.length - 1 - k]? = some x := hx1
          have hmx : x ∈ [] ++ XA ++ XB' := by simp [List.mem_of_getElem? hx1]
          have hmy : y ∈ [] ++ XA ++ XB' := by simp [List.mem_of_getElem? hy1]
          have hX := And.intro @hva (And.intro @hvb (And.intro @ga (@gb)))
          refine mW ?_; clear H; intro a w H
          refine mS ?_; refine mD 4 [8] [3, 7] H ?_; clear H; intro gS H
          refine mTN 4 hN H ?_; clear H; intro a w H; simp only [List.drop_succ_cons, List.drop_zero, List.drop_nil]
          refine mTN 4 hN H ?_; clear H; intro a w H; simp only [List.drop_succ_cons, List.drop_zero, List.drop_nil]
          replace H := v_seeXT hZ H 44 (.bs lx none) (hx3.see hmx) rfl
          replace H := v_seeXT hZ H 48 (.bs ly none) (hy3.see hmy) rfl
          simp only [nilT, reduceIte, Nat.reduceEqDiff] at H
          refine mCallT [] [] (hcmp) H ?_; clear H; intro a w H
          refine mT ?_; clear H; intro a w H
          refine v_drawNil H ?_; clear H; intro H
          by_cases hxy : lx = ly
          · rw [if_pos hxy] at hst
            refine mC H (fun hb => ?_) (fun hb => ?_)
            · exfalso; rw [hcz.2 hxy] at hb; simp at hb
            · clear hb
              clear hX; have hX := And.intro @hva (@hvb)
              refine mW ?_; clear H; intro a w H
              exact ⟨k + 1, ⟨hlt, by rw [hpr, hst]⟩, by omega, H.to 4 0 ⟨hN, hR⟩ ⟨rfl, rfl, rfl, rfl, rfl, rfl, rfl, trivial⟩ rfl rfl rfl rfl rfl⟩
          · rw [if_neg hxy] at hst
            rw [hpr, hst]
            dsimp only
            refine mC H (fun hb => ?_) (fun hb => ?_)
            · clear hb
              refine mS ?_
              repeat (first | refine wp_seq ?_ | refine wp_block ?_)
              refine v_drawZ 0 [0, 1, 2, 4, 5, 6, 9, 3, 7, 8, 10, 11, 12] [3, 7, 10] [0, 1, 2, 4, 5, 6, 9] [(3, 7)] (by kernel_rfl) (by kernel_rfl) (by kernel_rfl) (by kernel_rfl) (by kernel_rfl) H (by rfl) ?_; clear H; intro gS H; try replace H := ntf H
              refine wpZ_run 3 (i := 0) (n' := 10) (pend' := [4, 5, 6, 9, 3, 7, 8, 10, 11, 12]) (by rfl) (by rfl) (by rfl) (by rfl) (by rfl) ?_
              repeat ((first | refine v_someT 3 tab_ok hN H (by rfl) ctX ?_ | refine v_someT 2 tab_ok hN H (by rfl) ctX ?_ | refine v_someT 1 tab_ok hN H (by rfl) ctX ?_); clear H; intro a w H; replace H := ntf H; simp only [List.drop_succ_cons, List.drop_zero, List.drop_nil])
              refine wpT_nil ?_
              try dsimp only
              refine wpZ_run 3 (i := 4) (n' := 7) (pend' := [9, 3, 7, 8, 10, 11, 12]) (by rfl) (by rfl) (by rfl) (by rfl) (by rfl) ?_
              repeat ((first | refine v_someT 3 tab_ok hN H (by rfl) ctX ?_ | refine v_someT 2 tab_ok hN H (by rfl) ctX ?_ | refine v_someT 1 tab_ok hN H (by rfl) ctX ?_); clear H; intro a w H; replace H := ntf H; simp only [List.drop_succ_cons, List.drop_zero, List.drop_nil])
              refine wpT_nil ?_
              try dsimp only
              refine wpZ_run 1 (i := 9) (n' := 6) (pend' := [3, 7, 8, 10, 11, 12]) (by rfl) (by rfl) (by rfl) (by rfl) (by rfl) ?_
              repeat ((first | refine v_someT 3 tab_ok hN H (by rfl) ctX ?_ | refine v_someT 2 tab_ok hN H (by rfl) ctX ?_ | refine v_someT 1 tab_ok hN H (by rfl) ctX ?_); clear H; intro a w H; replace H := ntf H; simp only [List.drop_succ_cons, List.drop_zero, List.drop_nil])
              refine wpT_nil ?_
              try dsimp only
              refine wpZ_two (cs := [7]) (by rfl) (by rfl) ?_
              refine all2 ?_
              refine ⟨?_, ?_⟩
              focus
                refine wpZ_pick (pend' := [7, 8, 10, 11, 12]) (by rfl) (by rfl) ?_
                repeat ((first | refine v_someT 3 tab_ok hN H (by rfl) ctX ?_ | refine v_someT 2 tab_ok hN H (by rfl) ctX ?_ | refine v_someT 1 tab_ok hN H (by rfl) ctX ?_); clear H; intro a w H; replace H := ntf H; simp only [List.drop_succ_cons, List.drop_zero, List.drop_nil])
                refine wpT_nil ?_
                try dsimp only
                refine wpZ_two (cs := []) (by rfl) (by rfl) ?_
                refine all1 ?_
                refine wpZ_pick (pend' := [8, 10, 11, 12]) (by rfl) (by rfl) ?_
                repeat ((first | refine v_someT 3 tab_ok hN H (by rfl) ctX ?_ | refine v_someT 2 tab_ok hN H (by rfl) ctX ?_ | refine v_someT 1 tab_ok hN H (by rfl) ctX ?_); clear H; intro a w H; replace H := ntf H; simp only [List.drop_succ_cons, List.drop_zero, List.drop_nil])
                refine wpT_nil ?_
                try dsimp only
                refine wpZ_run 1 (i := 8) (n' := 3) (pend' := [10, 11, 12]) (by rfl) (by rfl) (by rfl) (by rfl) (by rfl) ?_
                repeat ((first | refine v_someT 3 tab_ok hN H (by rfl) ctX ?_ | refine v_someT 2 tab_ok hN H (by rfl) ctX ?_ | refine v_someT 1 tab_ok hN H (by rfl) ctX ?_); clear H; intro a w H; replace H := ntf H; simp only [List.drop_succ_cons, List.drop_zero, List.drop_nil])
                refine wpT_nil ?_
                try dsimp only
                refine wpZ_two (cs := []) (by rfl) (by rfl) ?_
                refine all1 ?_
                refine wpZ_pick (pend' := [11, 12]) (by rfl) (by rfl) ?_
                repeat ((first | refine v_someT 3 tab_ok hN H (by rfl) ctX ?_ | refine v_someT 2 tab_ok hN H (by rfl) ctX ?_ | refine v_someT 1 tab_ok hN H (by rfl) ctX ?_); clear H; intro a w H; replace H := ntf H; simp only [List.drop_succ_cons, List.drop_zero, List.drop_nil])
                refine wpT_nil ?_
                try dsimp only
                refine wpZ_run 2 (i := 11) (n' := 0) (pend' := []) (by rfl) (by rfl) (by rfl) (by rfl) (by rfl) ?_
                repeat ((first | refine v_someT 3 tab_ok hN H (by rfl) ctX ?_ | refine v_someT 2 tab_ok hN H (by rfl) ctX ?_ | refine v_someT 1 tab_ok hN H (by rfl) ctX ?_); clear H; intro a w H; replace H := ntf H; simp only [List.drop_succ_cons, List.drop_zero, List.drop_nil])
                refine wpT_nil ?_
                try dsimp only
                refine wpZ_nil ?_
                replace H := RelT.toRel H
              rotate_left 1
              focus
                refine wpZ_pick (pend' := [3, 8, 10, 11, 12]) (by rfl) (by rfl) ?_
                repeat ((first | refine v_someT 3 tab_ok hN H (by rfl) ctX ?_ | refine v_someT 2 tab_ok hN H (by rfl) ctX ?_ | refine v_someT 1 tab_ok hN H (by rfl) ctX ?_); clear H; intro a w H; replace H := ntf H; simp only [List.drop_succ_cons, List.drop_zero, List.drop_nil])
                refine wpT_nil ?_
                try dsimp only
                refine wpZ_two (cs := []) (by rfl) (by rfl) ?_
                refine all1 ?_
                refine wpZ_pick (pend' := [8, 10, 11, 12]) (by rfl) (by rfl) ?_
                repeat ((first | refine v_someT 3 tab_ok hN H (by rfl) ctX ?_ | refine v_someT 2 tab_ok hN H (by rfl) ctX ?_ | refine v_someT 1 tab_ok hN H (by rfl) ctX ?_); clear H; intro a w H; replace H := ntf H; simp only [List.drop_succ_cons, List.drop_zero, List.drop_nil])
                refine wpT_nil ?_
                try dsimp only
                refine wpZ_run 1 (i := 8) (n' := 3) (pend' := [10, 11, 12]) (by rfl) (by rfl) (by rfl) (by rfl) (by rfl) ?_
                repeat ((first | refine v_someT 3 tab_ok hN H (by rfl) ctX ?_ | refine v_someT 2 tab_ok hN H (by rfl) ctX ?_ | refine v_someT 1 tab_ok hN H (by rfl) ctX ?_); clear H; intro a w H; replace H := ntf H; simp only [List.drop_succ_cons, List.drop_zero, List.drop_nil])
                refine wpT_nil ?_
                try dsimp only
                refine wpZ_two (cs := []) (by rfl) (by rfl) ?_
                refine all1 ?_
                refine wpZ_pick (pend' := [11, 12]) (by rfl) (by rfl) ?_
                repeat ((first | refine v_someT 3 tab_ok hN H (by rfl) ctX ?_ | refine v_someT 2 tab_ok hN H (by rfl) ctX ?_ | refine v_someT 1 tab_ok hN H (by rfl) ctX ?_); clear H; intro a w H; replace H := ntf H; simp only [List.drop_succ_cons, List.drop_zero, List.drop_nil])
                refine wpT_nil ?_
                try dsimp only
                refine wpZ_run 2 (i := 11) (n' := 0) (pend' := []) (by rfl) (by rfl) (by rfl) (by rfl) (by rfl) ?_
                repeat ((first | refine v_someT 3 tab_ok hN H (by rfl) ctX ?_ | refine v_someT 2 tab_ok hN H (by rfl) ctX ?_ | refine v_someT 1 tab_ok hN H (by rfl) ctX ?_); clear H; intro a w H; replace H := ntf H; simp only [List.drop_succ_cons, List.drop_zero, List.drop_nil])
                refine wpT_nil ?_
                try dsimp only
                refine wpZ_nil ?_
                replace H := RelT.toRel H
              all_goals
                refine mS ?_
                refine wp_ret ?_
                exact v_endE (rs := [.cell 6 101, .tmp 7, .tmp 8]) (ress := [_, _, _]) (nb := 0) (nr := 0) [] [] tab_ok hM rfl (RelX.close hB hZ H) (by rfl) (by rfl) cbX (by rfl) ⟨sub_refl _ _, sub_refl _ _, sub_refl _ _, trivial⟩ rfl ⟨rfl, rfl, _, _, rfl, .inr ⟨XA.length - 1 - k, XA.length + (XB'.length - 1 - k), x, y, by rw [List.nil_append, List.getElem?_append_left (by omega)]; exact hx1, by rw [List.nil_append, List.getElem?_append_right (by omega), Nat.add_sub_cancel_left]; exact hy1, by omega, rfl, rfl, hx3, hy3⟩⟩
            · exfalso; apply hxy; apply hcz.1; simpa using hb
        · have hge : k = m := by rw [decide_eq_false_iff_not] at hb; omega
          have he := prt_end la lb k (by omega)
          rw [hpr, he]
          clear hb
          dsimp only
          have hX := And.intro @hva (@hvb)
          refine mW ?_; clear H; intro a w H
          refine wp_ret ?_
          exact v_endE (rs := [.cell 6 101, .tmp 7, .tmp 8]) (ress := [_, _, _]) (nb := 0) (nr := 0) [] [] tab_ok hM rfl (RelX.close hB hZ H) (by rfl) (by rfl) cbX (by rfl) ⟨sub_refl _ _, sub_refl _ _, sub_refl _ _, trivial⟩ rfl ⟨rfl, rfl, _, _, rfl, .inl ⟨rfl, rfl, rfl, rfl⟩⟩
      · have t2 := textsX_bad key q hk hq h2
        unfold prtE
        rw [if_neg (fun h => h2 h.2)]
        refine mW ?_; clear H; intro a w H
        refine mCall [] [] (t2) H ?_; clear H; intro a w H; try refine wpList_nil ?_
        refine mW ?_; clear H; intro a w H
        refine mC H (fun hb => ?_) (fun hb => ?_)
        · refine mW ?_; clear H; intro a w H
          refine wp_ret ?_
          exact v_endE (rs := [.cell 6 101, .tmp 7, .tmp 8]) (ress := [_, _, _]) (nb := 0) (nr := 0) [] [] tab_ok hM rfl (RelX.close hB hZ H) (by rfl) (by rfl) cbX (by rfl) ⟨sub_refl _ _, sub_refl _ _, sub_refl _ _, trivial⟩ rfl ⟨rfl, rfl, _, _, rfl, .inl ⟨rfl, rfl, rfl, rfl⟩⟩
        · exact absurd hb (by decide)
  · have t1 := textsX_bad key p hk hp h1
    have hM : N.bx.length ≤ 0 ∧ N.rw.length ≤ 0 := ⟨hN, hR⟩
    unfold prtE
    rw [if_neg (fun h => h1 h.1)]
    refine mW ?_; clear H; intro a w H
    refine mCall [] [] (t1) H ?_; clear H; intro a w H; try refine wpList_nil ?_
    refine mW ?_; clear H; intro a w H
    refine mC H (fun hb => ?_) (fun hb => ?_)
    · refine mW ?_; clear H; intro a w H
      refine wp_ret ?_
      exact v_endE (rs := [.cell 6 101, .tmp 7, .tmp 8]) (ress := [_, _, _]) (nb := 0) (nr := 0) [] [] tab_ok hM rfl (H.toX _) (by rfl) (by rfl) cbX (by rfl) ⟨sub_refl _ _, sub_refl _ _, sub_refl _ _, trivial⟩ rfl ⟨rfl, rfl, _, _, rfl, .inl ⟨rfl, rfl, rfl, rfl⟩⟩
    · exact absurd hb (by decide)
end Go.Proofs.Ytigmpdhnhkdeiaa
/- The texts of a proof, from the top on: extract.Texts. -/
namespace Go.Proofs.Ytigmpdhnhkdeiaa
open Go Go.RowKit
end Go.Proofs.Ytigmpdhnhkdeiaa
/- The statement ExtractChain, in values. -/
namespace Go.Proofs.Ytigmpdhnhkdeiaa
open Go Go.RowKit
theorem up_tx (key e : List UInt8) : ∀ d s, upL key d s (sum e) = sum ((tx key d s e).headD [])
  | _, [] => rfl
  | d, x :: r => by
    simp only [upL, tx, List.headD_cons]
    rw [up_tx key e (d + 1) r]
    unfold stepH textD innerH
    cases bitN key d <;> rfl
theorem tx_get (key e : List UInt8) : ∀ (k d : Nat) (s : List (List UInt8)), k ≤ s.length → (tx key d s e).getD k [] = (tx key (d + k) (s.drop k) e).headD []
  | 0, d, s, _ => by simp only [List.drop_zero, Nat.add_zero]; cases tx key d s e <;> rfl
  | k + 1, d, x :: r, h => by
    have := tx_get key e k (d + 1) r (by simpa using h)
    simp only [tx, List.getD_cons_succ, List.drop_succ_cons]
    rw [this, show d + 1 + k = d + (k + 1) by omega]
theorem few_v (l : List UInt8) : VC Try.prog 44 [.bs l none] [] (.v (.bool (decide (l.length ≤ 700)))) := by
  have e : decide (l.length ≤ 700) = decide ((l.length : Int) ≤ 700) := decide_eq_decide.2 ⟨fun h => by omega, fun h => by omega⟩
  rw [e]
  refine mE Try.func44 ?_; intro N w0 a w hN hR H
  refine mW ?_; clear H; intro a w H
  refine wp_ret ?_; exact mEnd [] [] [.tmp 2] [_] hN hR H
end Go.Proofs.Ytigmpdhnhkdeiaa
/- Claims that are accepted, and where two proofs part: extract. -/
namespace Go.Proofs.Ytigmpdhnhkdeiaa
open Go Go.RowKit
/-- A claim. -/
structure Cl where
  t : Bool
  v : List UInt8
  b : List UInt8
def Cl.av (c : Cl) : AV := .st [.v (.bool c.t), .bs c.v none, .bs c.b none]
end Go.Proofs.Ytigmpdhnhkdeiaa
