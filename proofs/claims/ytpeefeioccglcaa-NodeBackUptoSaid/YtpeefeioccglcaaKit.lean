/- The statements' kit: bytes compared, written over. -/
import Derived.Test.YtpeefeioccglcaaBase
import Derived.Test.YtpeefeioccglcaaWords
import Derived.Test.YtpeefeioccglcaaSeg
import Derived.Lib.Hide
set_option linter.unusedSimpArgs false
set_option linter.unusedVariables false
namespace Go.Proofs.Ytpeefeioccglcaa
open Go Go.RowKit
/-- A list of bytes as a string. -/
def strOf (l : List UInt8) : ByteArray := ⟨l.toArray⟩
theorem strOf_inj {a b : List UInt8} : (strOf a = strOf b) ↔ a = b := by unfold strOf; constructor <;> intro h <;> simp_all
theorem strOf_list (l : List UInt8) : (strOf l).toList = l := ByteArray.toList_mk l
theorem run_str {w : World} {B : Nat} {A : Option Addr} {l : List UInt8} (h : Rd byteE w B A l) (m c : Nat) (hm : l.length = m) :
    (convert 22 9 (.slice A m c)).run Try.prog w = .ok (.string (strOf l)) w := by
  subst hm
  cases A with
  | none =>
    rcases h with h | ⟨g, o, hA, _⟩
    · subst h; exact run_convert_bytes_nil w _ _ Try.underlying22 Try.underlying5 _ _ _ Try.underlying9
    · cases hA
  | some a =>
    refine run_convert_bytes_back w _ _ _ a c l Try.underlying22 Try.underlying5 Try.underlying9 fun j hj => ?_
    rcases h with h | ⟨g, o, hA, hg, hc⟩
    · subst h; simp at hj
    · injection hA with hA; subst hA
      rw [addr_add]
      refine hc j _ ?_
      rw [byteE_all]; simp [hj]
theorem same_any (la lb : List UInt8) (A B : Option Addr) (ca cb na nb : Nat) (w : World) (ha : Rd byteE w na A la) (hb : Rd byteE w nb B lb) :
    Calls Try.prog 36 #[.slice A la.length ca, .slice B lb.length cb] w fun e w' => e = .returned (.bool (decide (la = lb))) ∧ w' = w := by
  have k1 := run_str ha la.length ca rfl
  have k2 := run_str hb lb.length cb rfl
  go_enter Try.func36, Try.ntmps36
  go_wp2
  rw [strOf_list, strOf_list]
  go_ret
  by_cases h : la = lb <;> simp [h]
theorem grown_put {w w' : World} {g : Nat} (h : w.grownBy w' (some g)) (i : Nat) (u : Value) : w.grownBy (w'.setCell ⟨g, i, none⟩ u) (some g) :=
  ⟨h.os, h.tape, h.output, by rw [World.size_setCell]; exact h.size, fun k hk hne => (heap_setCell_other w' ⟨g, i, none⟩ k u (fun e => hne (by rw [e]))).trans (h.block k hk hne)⟩
/-- A byte that is written over. -/
def over (b : UInt8) : UInt8 := b ^^^ 0x5A
theorem over_over (b : UInt8) : over (over b) = b := by unfold over; rw [UInt8.xor_assoc]; simp
theorem map_over_over (l : List UInt8) : (l.map over).map over = l := by rw [List.map_map]; conv => rhs; rw [← List.map_id l]
                                                                         exact List.map_congr_left fun b _ => over_over b
theorem over_num (b : UInt8) : bits .xor .u8 (b.toNat : Int) (90 : Int) = ((over b).toNat : Int) := by
  have := u8_xor_nat b.toNat 90 b.toNat_lt (by decide)
  unfold over; rw [UInt8.toNat_xor]; exact this
attribute [local go_sem] over_num
set_option maxRecDepth 100000 in
/-- bytes in a block of any type -/
abbrev byteT (t : TypeId) : El UInt8 := { byteE with ty := t }
theorem byteT_all (t : TypeId) (l : List UInt8) : (byteT t).all l = l.map B8 := byteE_all l
theorem own_byteT {t : TypeId} {w : World} {base g n c : Nat} {l sp : List UInt8} (h : Own (byteT t) w base (.slice (some ⟨g, 0, none⟩) n c) l sp) : Blk w g t ((l ++ sp).map B8).toArray := by
  rcases h with ⟨h, _⟩ | ⟨g', _, hv, hb, _⟩
  · cases h
  · injection hv with ha; injection ha with ha; injection ha with ha; subst ha
    rw [byteT_all] at hb; exact hb
theorem over_any {t : TypeId} (l sp : List UInt8) (v : Value) (base : Nat) (w : World) (ho : Own (byteT t) w base v l sp) :
    Calls Try.prog 95 #[v] w fun e w' => e = .returned (.tuple #[]) ∧ Own (byteT t) w' base v (l.map over) (sp.map over) ∧ w.grownBy w' v.ownBlock := by
  rcases ho with ⟨rfl, rfl, rfl⟩ | ⟨g, hg, rfl, hb, hm⟩
  · go_enter Try.func95, Try.ntmps95
    go_wp2
    go_loopw [3] (fun i wr => i = .int .i64 0 ∧ wr = w) (fun _ _ => 0)
    case atStart => exact ⟨rfl, rfl⟩
    case round =>
      obtain ⟨rfl, rfl⟩ := hrel
      go_wp2
      exact bodyPost_end (results_none rfl _ _ _) rfl ⟨rfl, Own.nil _ _, ⟨rfl, rfl, rfl, Nat.le_refl _, fun _ _ _ => rfl⟩⟩
  · have hlen : ((byteT t).all (l ++ sp)).length = l.length + sp.length := by rw [(byteT t).all_length, List.length_append]; simp [byteE]
    rw [byteT_all] at hb
    have HB := Lib.hid hb; have HL := Lib.hid hlen; clear hb hlen
    obtain ⟨n, hn⟩ : ∃ n, l.length + sp.length = n := ⟨_, rfl⟩
    rw [hn] at hm ⊢
    have hn1 : l.length ≤ n := by omega
    simp only [maxLen] at hm
    go_enter Try.func95, Try.ntmps95
    go_wp2
    go_loopw [3] (fun i wr => ∃ k : Nat, k ≤ n ∧ i = .int .i64 (k : Int) ∧ Blk wr g (byteT t).ty ((((l ++ sp).take k).map over ++ (l ++ sp).drop k).map B8).toArray ∧ w.grownBy wr (some g)) (fun i _ => n - (intOf i).toNat)
    case atStart => exact ⟨0, by omega, rfl, by simpa using HB.out, ⟨rfl, rfl, rfl, Nat.le_refl _, fun _ _ _ => rfl⟩⟩
    case round =>
      clear HB
      obtain ⟨k, hk, rfl, hb, hgr⟩ := hrel
      have HB := Lib.hid hb; have HG := Lib.hid hgr; clear hb hgr
      by_cases hlt : k < n
      · have hx : k < (l ++ sp).length := by rw [List.length_append]; omega
        have hc : wr.cell? ⟨g, k, none⟩ = some (.int .u8 (((l ++ sp)[k]'hx).toNat : Int)) := by
          rw [HB.out.cell]
          have ht : (((l ++ sp).take k).map over).length = k := by rw [List.length_map, List.length_take]; omega
          simp only [List.getElem?_toArray, List.getElem?_map]
          rw [List.getElem?_append_right (by omega), ht, Nat.sub_self, List.getElem?_drop, Nat.add_zero, List.getElem?_eq_getElem hx]
          rfl
        have hf := HB.out.free k
        generalize hy : (l ++ sp)[k]'hx = y at hc
        have HY := Lib.hid hy; clear hy
        have hnext : Blk (wr.setCell ⟨g, k, none⟩ (.int .u8 ((over y).toNat : Int))) g (byteT t).ty ((((l ++ sp).take (k + 1)).map over ++ (l ++ sp).drop (k + 1)).map B8).toArray := by
          have := HB.out.put k (.int .u8 ((over y).toNat : Int))
          have ht : (((l ++ sp).take k).map over).length = k := by rw [List.length_map, List.length_take]; omega
          rw [List.drop_eq_getElem_cons hx] at this
          rw [List.take_succ_eq_append_getElem hx, HY.out]
          rw [show (.int .u8 ((over y).toNat : Int) : Value) = B8 (over y) from rfl] at *
          have e : ((List.map over ((l ++ sp).take k) ++ (l ++ sp)[k] :: (l ++ sp).drop (k + 1)).map B8).toArray.setIfInBounds k (B8 (over y)) = ((List.map over ((l ++ sp).take k ++ [y]) ++ (l ++ sp).drop (k + 1)).map B8).toArray := by
            apply Array.toList_inj.1
            simp only [List.map_append, List.map_cons, Array.toList_setIfInBounds, List.map_nil]
            rw [List.set_append_right _ _ (by rw [List.length_map, ht]; exact Nat.le_refl _), List.length_map, ht, Nat.sub_self]
            simp
          rw [e] at this; exact this
        have HN := Lib.hid hnext; clear hnext
        have hg2 : w.grownBy (wr.setCell ⟨g, k, none⟩ (.int .u8 ((over y).toNat : Int))) (some g) := grown_put HG.out k _
        have HG2 := Lib.hid hg2; clear hg2
        go_wp2
        go_roundw
        case rel => exact ⟨k + 1, by omega, by go_num, HN.out, HG2.out⟩
        case measure => simp [intOf]; omega
      · obtain rfl : k = n := by omega
        go_wp2
        refine bodyPost_end (results_none rfl _ _ _) rfl ⟨rfl, .inr ⟨g, hg, ?_, ?_, ?_⟩, HG.out⟩
        · rw [List.length_map, List.length_map, hn]
        · have := HB.out
          rw [List.take_of_length_le (by rw [List.length_append]; omega), List.drop_of_length_le (by rw [List.length_append]; omega), List.append_nil, List.map_append] at this
          rw [byteT_all]; exact this
        · rw [List.length_map, List.length_map, hn]; simp only [maxLen]; omega
end Go.Proofs.Ytpeefeioccglcaa
