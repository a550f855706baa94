/- octet.Compare: byte by byte. -/
import Derived.Test.YtgffimanhmpohaaGreatWayP
import Derived.Lib.Bytealg
import Derived.Laws.Externs
import Derived.BigQuiet
import Derived.BigRegion
import Derived.Test.YtgffimanhmpohaaGreatLess
import Derived.Test.YtgffimanhmpohaaGreatA1
import Derived.Deep.OwnRows
import Derived.Deep.Draws
import Derived.Deep.LoopGhost
import Derived.Shelf.SlSortCmp.WholeK
import Derived.DeepKeys3
import Derived.Shelf.SlSortCmp.QuietGrown
import Derived.Shelf.SlSortCmp.NoneTotal
import Derived.Test.YtgffimanhmpohaaGreatA2
set_option linter.unusedSimpArgs false
set_option linter.unusedVariables false
namespace Go.Proofs.YtgffimanhmpohaaGreat
open Go Go.RowKit
set_option maxHeartbeats 1000000 in
set_option maxRecDepth 100000 in
theorem cmp_any (a b : ByteArray) (w : World) : Calls Tryz.prog 158 #[.string a, .string b] w fun e w' => e = .returned (.int .i64 (Lib.compareBytes a.data.toList b.data.toList)) ∧ w' = w := by
  go_enter Tryz.func158, Tryz.ntmps158
  go_wp2
  rw [run_callFunc_extern Tryz.func168 (by kernel_rfl) (by kernel_rfl) (by kernel_rfl) (e := Extern.BytealgCompare.compare) (by kernel_rfl), Lib.run_compareString]
  simp only [Result.andThen]
  rw [Oper.upon_value]
  go_wp2
  go_ret
  exact ⟨rfl, rfl⟩
end Go.Proofs.YtgffimanhmpohaaGreat
/- The program's reader of bytes. -/
namespace Go.Proofs.YtgffimanhmpohaaGreat
open Go Go.RowKit
end Go.Proofs.YtgffimanhmpohaaGreat
/- octet.Compare, numbers as two bytes. -/
namespace Go.Proofs.YtgffimanhmpohaaGreat
open Go Go.RowKit
/-- A number, the highest byte first. -/
def num : Nat → List UInt8 → Nat
  | x, [] => x
  | x, b :: l => num (256 * x + b.toNat) l
end Go.Proofs.YtgffimanhmpohaaGreat
/- Keys as ways down: the program's and the document's functions. -/
namespace Go.Proofs.YtgffimanhmpohaaGreat
open Go Go.RowKit
theorem e7w (d : Int) (h0 : 0 ≤ d) : (if (d % 8).toNat ≤ 8 then (d % 8).toNat else 8) = d.toNat % 8 := by split <;> omega
theorem e8w (d : Int) (h0 : 0 ≤ d) : (d / 8).toNat = d.toNat / 8 := by omega
theorem mask_v (d : Int) (h0 : 0 ≤ d) (h1 : d < 256) : VC Tryz.prog 70 [.v (.int .i64 d)] [] (.v (.int .u8 (128 / 2 ^ (d.toNat % 8)))) := by
  have e7 := e7w d h0
  refine mE Tryz.func70 ?_; intro N w0 a w hN hR H
  have hX := @e7
  have hY := @e7
  refine mW ?_; clear H; intro a w H
  refine wp_ret ?_; exact mEnd [] [] [.tmp 2] [_] hN hR H
set_option maxRecDepth 20000 in
theorem bit_v (p : List UInt8) (hp : p.length = 32) (d : Int) : VC Tryz.prog 35 [.ba p, .v (.int .i64 d)] [] (.v (.int .i64 (pbit p d))) := by
  refine mE Tryz.func35 ?_; intro N w0 a w hN hR H
  refine mW ?_; clear H; intro a w H
  by_cases h : 0 ≤ d ∧ d < 256
  · have hm := mask_v d h.1 h.2
    have e8 := e8w d h.1
    rw [pbit, if_pos h]
    have h1 := h.1; have h2 := h.2
    refine mC H (fun hb => ?_) (fun hb => ?_)
    · exfalso; simp at hb; omega
    · refine mS ?_; refine mD 1 [5] [0, 1, 2, 3] H ?_; clear H; intro gS H; refine mT ?_; clear H; intro a w H
      refine mCallT [] [] (hm) H ?_; clear H; intro a w H
      have hX := @e8
      have hY := @e8
      refine mT ?_; clear H; intro a w H
      refine v_drawNil H ?_; clear H; intro H
      rw [and_bit] at H
      have eb : bitAt (p.getD (d.toNat / 8) 0) (d.toNat % 8) = bitN p d.toNat := rfl
      rw [eb] at H
      refine mC H (fun hb => ?_) (fun hb => ?_)
      · rw [hb]
        refine mW ?_; clear H; intro a w H
        refine wp_ret ?_; exact mEnd [] [] [.tmp 4] [_] hN hR H
      · rw [hb]
        refine mW ?_; clear H; intro a w H
        refine wp_ret ?_; exact mEnd [] [] [.tmp 4] [_] hN hR H
  · rw [pbit, if_neg h]
    refine mC H (fun hb => ?_) (fun hb => ?_)
    · refine mW ?_; clear H; intro a w H
      refine wp_ret ?_; exact mEnd [] [] [.tmp 4] [_] hN hR H
    · exfalso; simp at hb; omega
theorem lz8_v (c : UInt8) : VC Tryz.prog 115 [.v (B8 c)] [] (.v (.int .i64 ((8 : Int) - (Lib.bitLen c.toNat : Int)))) := by
  have h1 := len8_v c
  have h2 := Lib.bitLen_le8 ⟨c.toNat, c.toNat_lt⟩
  simp only at h2
  refine mE Tryz.func115 ?_; intro N w0 a w hN hR H
  refine mW ?_; clear H; intro a w H
  refine mCall [] [] (h1) H ?_; clear H; intro a w H; try refine wpList_nil ?_
  refine mW ?_; clear H; intro a w H
  refine wp_ret ?_; exact mEnd [] [] [.tmp 2] [_] hN hR H
theorem xor8 (x y : UInt8) : bits .xor .u8 (x.toNat : Int) (y.toNat : Int) = (((x ^^^ y).toNat : Nat) : Int) := by
  rw [u8_xor_nat _ _ x.toNat_lt y.toNat_lt, UInt8.toNat_xor]
theorem bitN_at (p : List UInt8) (k t : Nat) (ht : t < 8) : bitN p (8 * k + t) = bitAt (p.getD k 0) t := by
  unfold bitN
  rw [show (8 * k + t) / 8 = k by omega, show (8 * k + t) % 8 = t by omega]
theorem com_byte (p q : List UInt8) (k : Nat) (h : agree (8 * k) p q) (he : p.getD k 0 = q.getD k 0) : agree (8 * (k + 1)) p q := fun t ht => by
  by_cases h1 : t < 8 * k
  · exact h t h1
  · rw [show t = 8 * k + (t - 8 * k) by omega, bitN_at _ _ _ (by omega), bitN_at _ _ _ (by omega), he]
theorem com_part (p q : List UInt8) (k : Nat) (hk : k < 32) (h : agree (8 * k) p q) (hn : p.getD k 0 ≠ q.getD k 0) : com p q = 8 * k + (8 - Lib.bitLen (p.getD k 0 ^^^ q.getD k 0).toNat) := by
  obtain ⟨l1, l2, l3, l4⟩ := lead_xor _ _ hn
  refine com_of (by omega) (fun t ht => ?_) fun _ => ?_
  · by_cases h1 : t < 8 * k
    · exact h t h1
    · rw [show t = 8 * k + (t - 8 * k) by omega, bitN_at _ _ _ (by omega), bitN_at _ _ _ (by omega)]
      exact l3 _ (by omega)
  · rw [bitN_at _ _ _ l1, bitN_at _ _ _ l1]; exact l4
set_option maxRecDepth 20000 in
theorem common_v (p q : List UInt8) (hp : p.length = 32) (hq : q.length = 32) : VC Tryz.prog 84 [.ba p, .ba q] [] (.v (.int .i64 (com p q))) := by
  refine mE Tryz.func84 ?_; intro N w0 a w hN hR H
  refine mW ?_; clear H; intro a w H
  refine mC H (fun hb => ?_) (fun hb => ?_)
  · have he : p = q := by simpa using hb
    subst he
    rw [com_self]
    refine mW ?_; clear H; intro a w H
    refine wp_ret ?_; exact mEnd [] [] [.tmp 4] [_] hN hR H
  · have hne : p ≠ q := by simpa using hb
    refine mW ?_; clear H; intro a w H
    refine v_loop (fun k : Nat => ⟨[(10, none, .v (.int .i64 (k : Int))), (4, none, .v (.int .i64 0)), (3, none, .ptr 1 []), (2, none, .ptr 0 [])], [(.ba 32, .ba p), (.ba 32, .ba q)], [], []⟩) (fun k => k ≤ 32 ∧ agree (8 * k) p q) (fun k => 32 - k) 0 ⟨Nat.zero_le _, fun t ht => by omega⟩ (H.to 2 0 ⟨Nat.le_trans hN (by decide), hR⟩ ⟨rfl, rfl, rfl, rfl, trivial⟩ rfl rfl rfl rfl rfl) ?_
    clear H
    rintro k a w ⟨hk, hag⟩ H
    refine mW ?_; clear H; intro a w H
    refine mC H (fun hb => ?_) (fun hb => ?_)
    · have hlt : k < 32 := by simp at hb; omega
      refine mW ?_; clear H; intro a w H
      refine mS ?_; refine mD 2 [] [] H ?_; clear H; intro gS H; refine mT ?_; clear H; intro a w H
      refine v_drawNil H ?_; clear H; intro H
      rw [xor8] at H
      have hlz := lz8_v (p.getD k 0 ^^^ q.getD k 0)
      have hc8 := (p.getD k 0 ^^^ q.getD k 0).toNat_lt
      refine mW ?_; clear H; intro a w H
      refine mC H (fun hb => ?_) (fun hb => ?_)
      · have hd : p.getD k 0 ≠ q.getD k 0 := fun e => by rw [e] at hb; simp at hb
        rw [com_part p q k hlt hag hd]
        have hl2 := (lead_xor _ _ hd).2.1
        refine mW ?_; clear H; intro a w H
        refine mCall [] [] (hlz) H ?_; clear H; intro a w H; try refine wpList_nil ?_
        refine mW ?_; clear H; intro a w H
        have e1 : (8 * (k : Int) + (8 - (Lib.bitLen (p.getD k 0 ^^^ q.getD k 0).toNat : Int))) = ((8 * k + (8 - Lib.bitLen (p.getD k 0 ^^^ q.getD k 0).toNat) : Nat) : Int) := by omega
        rw [e1] at H
        refine wp_ret ?_; exact mEnd [] [] [.tmp 4] [_] hN hR H
      · have hd : p.getD k 0 = q.getD k 0 := by
          refine UInt8.xor_eq_zero_iff.1 (UInt8.toNat_inj.1 ?_)
          simpa using hb
        refine mW ?_; clear H; intro a w H
        exact ⟨k + 1, ⟨hlt, com_byte p q k hag hd⟩, by omega, H.to 2 0 ⟨Nat.le_trans hN (by decide), hR⟩ ⟨rfl, rfl, rfl, rfl, trivial⟩ rfl rfl rfl rfl rfl⟩
    · have hge : k = 32 := by simp at hb; omega
      subst hge
      exact absurd (agree_eq hp hq hag) hne
end Go.Proofs.YtgffimanhmpohaaGreat
/- Keys from a depth on: path.First, path.Last, path.Flip. -/
namespace Go.Proofs.YtgffimanhmpohaaGreat
open Go Go.RowKit
/-- The first d bits of p; all others as said. -/
def fillL (p : List UInt8) (d : Nat) (b : Bool) : List UInt8 := bitsB 256 fun t => if t < d then bitN p t else b
theorem fillL_len (p : List UInt8) (d : Nat) (b : Bool) : (fillL p d b).length = 32 := bitsB_len _ _
theorem fillL_bit (p : List UInt8) (d : Nat) (b : Bool) (t : Nat) (ht : t < 256) : bitN (fillL p d b) t = if t < d then bitN p t else b := by
  unfold bitN fillL
  exact bitsB_bit 256 _ t ht
set_option maxRecDepth 100000 in
theorem b8_eta_ : ∀ x : Fin 256, b8 (bitAt (UInt8.ofNat x.val)) = UInt8.ofNat x.val := by decide +kernel
theorem b8_eta (x : UInt8) : b8 (bitAt x) = x := by
  have := b8_eta_ ⟨x.toNat, x.toNat_lt⟩
  simpa using this
theorem b8_const (b : Bool) : b8 (fun _ => b) = if b then 255 else 0 := by cases b <;> decide
set_option maxRecDepth 100000 in
theorem mixF_ : ∀ (k : Fin 8) (b : Bool) (x : Fin 256), UInt8.ofNat (bits .or .u8 (bits .andNot .u8 (x.val : Int) ((255 : Int) / 2 ^ k.val)) (bits .and .u8 (if b then 255 else 0) ((255 : Int) / 2 ^ k.val))).toNat = b8 fun j => if j < k.val then bitAt (UInt8.ofNat x.val) j else b := by decide +kernel
theorem mixF (k : Nat) (hk : k < 8) (b : Bool) (x : UInt8) : UInt8.ofNat (bits .or .u8 (bits .andNot .u8 (x.toNat : Int) ((255 : Int) / 2 ^ k)) (bits .and .u8 (if b then 255 else 0) ((255 : Int) / 2 ^ k))).toNat = b8 fun j => if j < k then bitAt x j else b := by
  have := mixF_ ⟨k, hk⟩ b ⟨x.toNat, x.toNat_lt⟩
  simpa using this
set_option maxRecDepth 100000 in
theorem mixR_ : ∀ (k : Fin 8) (b : Bool) (x : Fin 256), 0 ≤ bits .or .u8 (bits .andNot .u8 (x.val : Int) ((255 : Int) / 2 ^ k.val)) (bits .and .u8 (if b then 255 else 0) ((255 : Int) / 2 ^ k.val)) ∧ bits .or .u8 (bits .andNot .u8 (x.val : Int) ((255 : Int) / 2 ^ k.val)) (bits .and .u8 (if b then 255 else 0) ((255 : Int) / 2 ^ k.val)) ≤ 255 := by decide +kernel
theorem mixR (k : Nat) (hk : k < 8) (b : Bool) (x : UInt8) : 0 ≤ bits .or .u8 (bits .andNot .u8 (x.toNat : Int) ((255 : Int) / 2 ^ k)) (bits .and .u8 (if b then 255 else 0) ((255 : Int) / 2 ^ k)) ∧ bits .or .u8 (bits .andNot .u8 (x.toNat : Int) ((255 : Int) / 2 ^ k)) (bits .and .u8 (if b then 255 else 0) ((255 : Int) / 2 ^ k)) ≤ 255 := mixR_ ⟨k, hk⟩ b ⟨x.toNat, x.toNat_lt⟩
/-- A byte of it. -/
theorem fillL_get (p : List UInt8) (d : Nat) (b : Bool) (i : Nat) (hi : i < 32) : (fillL p d b).getD i 0 = if d ≤ 8 * i then (if b then 255 else 0) else if d < 8 * i + 8 then (b8 fun j => if j < d - 8 * i then bitAt (p.getD i 0) j else b) else p.getD i 0 := by
  unfold fillL
  rw [bitsB_get _ _ _ (by omega)]
  have hb : ∀ k, k < 8 → bitN p (8 * i + k) = bitAt (p.getD i 0) k := fun k hk => by unfold bitN; rw [show (8 * i + k) / 8 = i by omega, show (8 * i + k) % 8 = k by omega]
  by_cases h1 : d ≤ 8 * i
  · rw [if_pos h1, ← b8_const]
    exact b8_congr fun k hk => by rw [if_neg (by omega)]
  · rw [if_neg h1]
    by_cases h2 : d < 8 * i + 8
    · rw [if_pos h2]
      exact b8_congr fun k hk => by
        rw [hb k hk]
        by_cases h3 : 8 * i + k < d
        · rw [if_pos h3, if_pos (by omega)]
        · rw [if_neg h3, if_neg (by omega)]
    · rw [if_neg h2]
      conv => rhs; rw [← b8_eta (p.getD i 0)]
      exact b8_congr fun k hk => by rw [if_pos (by omega), hb k hk]
/-- How far it has come. -/
def fillK (p : List UInt8) (d : Nat) (b : Bool) (i : Nat) : List UInt8 := (fillL p d b).take i ++ p.drop i
theorem fillK_len (p : List UInt8) (hp : p.length = 32) (d : Nat) (b : Bool) (i : Nat) (hi : i ≤ 32) : (fillK p d b i).length = 32 := by
  unfold fillK; rw [List.length_append, List.length_take, List.length_drop, fillL_len]; omega
theorem fillK_get (p : List UInt8) (hp : p.length = 32) (d : Nat) (b : Bool) (i : Nat) (hi : i < 32) : (fillK p d b i).getD i 0 = p.getD i 0 := by
  unfold fillK
  rw [List.getD_eq_getElem?_getD, List.getElem?_append_right (by rw [List.length_take, fillL_len]; omega), List.length_take, fillL_len, show i - min i 32 = 0 by omega, List.getElem?_drop, List.getD_eq_getElem?_getD, Nat.add_zero]
theorem fillK_set (p : List UInt8) (hp : p.length = 32) (d : Nat) (b : Bool) (i : Nat) (hi : i < 32) (x : UInt8) (hx : x = (fillL p d b).getD i 0) : (fillK p d b i).set i x = fillK p d b (i + 1) := by
  unfold fillK
  have h1 : ((fillL p d b).take i).length = i := by rw [List.length_take, fillL_len]; omega
  rw [List.set_append_right _ _ (by omega), h1, Nat.sub_self, List.drop_eq_getElem_cons (show i < p.length by omega), List.set_cons_zero, List.take_succ_eq_append_getElem (by rw [fillL_len]; omega), List.append_assoc]
  rw [hx, List.getD_eq_getElem?_getD, List.getElem?_eq_getElem (by rw [fillL_len]; omega)]
  rfl
theorem fillK_stay (p : List UInt8) (hp : p.length = 32) (d : Nat) (b : Bool) (i : Nat) (hi : i < 32) (h : (fillL p d b).getD i 0 = p.getD i 0) : fillK p d b i = fillK p d b (i + 1) := by
  rw [← fillK_set p hp d b i hi _ rfl, h, ← fillK_get p hp d b i hi]
  have hl := fillK_len p hp d b i (by omega)
  rw [List.getD_eq_getElem?_getD, List.getElem?_eq_getElem (by omega), Option.getD_some, List.set_getElem_self]
theorem fillK_all (p : List UInt8) (hp : p.length = 32) (d : Nat) (b : Bool) : fillK p d b 32 = fillL p d b := by
  unfold fillK; rw [List.take_of_length_le (by rw [fillL_len]; omega), List.drop_eq_nil_of_le (by omega), List.append_nil]
set_option maxRecDepth 20000 in
set_option maxHeartbeats 2000000 in
theorem filled_v (p : List UInt8) (hp : p.length = 32) (d : Nat) (hd : d ≤ 256) (b : Bool) : VC Tryz.prog 104 [.ba p, .v (.int .i64 (d : Int)), .v (.int .u8 (if b then 255 else 0))] [] (.tup [.ba (fillL p d b), .v (.int .i64 0)]) := by
  refine mE Tryz.func104 ?_; intro N w0 a w hN hR H
  refine mW ?_; clear H; intro a w H
  refine mC H (fun hb => ?_) (fun hb => ?_)
  · exfalso
    rw [decide_eq_false (show ¬ (d : Int) < 0 by omega), decide_eq_false (show ¬ (256 : Int) < (d : Int) by omega)] at hb
    cases hb
  · clear hb
    refine mW ?_; clear H; intro a w H
    refine v_loop (fun i : Nat => ⟨[(18, none, .v (.int .i64 (i : Int))), (7, none, .v (.int .i64 0)), (6, none, .ptr 1 []), (3, none, .ptr 0 []), (1, none, .v (.int .i64 (d : Int))), (2, none, .v (.int .u8 (if b then 255 else 0)))], [(.ba 32, .ba (fillK p d b i)), (.ba 32, .ba (List.replicate 32 0))], [], []⟩) (fun i => i ≤ 32) (fun i => 32 - i) 0 (Nat.zero_le _) (H.to 2 0 ⟨Nat.le_trans hN (by decide), hR⟩ ⟨rfl, rfl, rfl, rfl, rfl, rfl, trivial⟩ rfl rfl rfl rfl rfl) ?_
    clear H
    intro i a w hi H
    have hkl := fillK_len p hp d b i hi
    refine mW ?_; clear H; intro a w H
    refine mC H (fun hb => ?_) (fun hb => ?_)
    · have hlt : i < 32 := by rw [decide_eq_true_eq] at hb; omega
      clear hb
      have hg := fillL_get p d b i hlt
      have hkg := fillK_get p hp d b i hlt
      refine mW ?_; clear H; intro a w H
      by_cases h1 : d ≤ 8 * i
      · rw [if_pos h1] at hg
        have hset := fillK_set p hp d b i hlt _ hg.symm
        have hwb : UInt8.ofNat (if b = true then (255 : Int) else 0).toNat = if b then 255 else 0 := by cases b <;> rfl
        refine mC H (fun hb => ?_) (fun hb => ?_)
        · clear hb
          refine mW ?_; clear H; intro a w H
          rw [hwb, hset] at H
          exact ⟨i + 1, by omega, by omega, H.to 2 0 ⟨Nat.le_trans hN (by decide), hR⟩ ⟨rfl, rfl, rfl, rfl, rfl, rfl, trivial⟩ rfl rfl rfl rfl rfl⟩
        · exfalso; rw [decide_eq_false_iff_not] at hb; omega
      · rw [if_neg h1] at hg
        refine mC H (fun hb => ?_) (fun hb => ?_)
        · exfalso; rw [decide_eq_true_eq] at hb; omega
        · clear hb
          refine mW ?_; clear H; intro a w H
          by_cases h2 : d < 8 * i + 8
          · rw [if_pos h2] at hg
            have hset := fillK_set p hp d b i hlt _ hg.symm
            have hk8 : d - 8 * i < 8 := by omega
            have e1 : ((d : Int) - 8 * (i : Int)).toNat = d - 8 * i := by omega
            have e2 : (if d - 8 * i ≤ 8 then d - 8 * i else 8) = d - 8 * i := if_pos (by omega)
            have hm := mixF (d - 8 * i) hk8 b (p.getD i 0)
            have hV := mixR (d - 8 * i) hk8 b (p.getD i 0)
            refine mC H (fun hb => ?_) (fun hb => ?_)
            · clear hb
              have hX := And.intro @e1 (And.intro @e2 (@hkg))
              refine mW ?_; clear H; intro a w H
              rw [hm, hset] at H
              exact ⟨i + 1, by omega, by omega, H.to 2 0 ⟨Nat.le_trans hN (by decide), hR⟩ ⟨rfl, rfl, rfl, rfl, rfl, rfl, trivial⟩ rfl rfl rfl rfl rfl⟩
            · exfalso; rw [decide_eq_false_iff_not] at hb; omega
          · rw [if_neg h2] at hg
            have hst := fillK_stay p hp d b i hlt hg
            refine mC H (fun hb => ?_) (fun hb => ?_)
            · exfalso; rw [decide_eq_true_eq] at hb; omega
            · clear hb
              refine mW ?_; clear H; intro a w H
              rw [hst] at H
              exact ⟨i + 1, by omega, by omega, H.to 2 0 ⟨Nat.le_trans hN (by decide), hR⟩ ⟨rfl, rfl, rfl, rfl, rfl, rfl, trivial⟩ rfl rfl rfl rfl rfl⟩
    · have hge : i = 32 := by simp at hb; omega
      subst hge
      rw [fillK_all p hp d b] at H
      have hfl := fillL_len p d b
      refine mW ?_; clear H; intro a w H
      refine wp_ret ?_; exact mEnd [] [] [.cell 6 24, .tmp 7] [_, _] hN hR H
theorem first_v (p : List UInt8) (hp : p.length = 32) (d : Nat) (hd : d ≤ 256) : VC Tryz.prog 72 [.ba p, .v (.int .i64 (d : Int))] [] (.tup [.ba (fillL p d false), .v (.int .i64 0)]) := by
  have h := filled_v p hp d hd false
  have hfl := fillL_len p d false
  refine mE Tryz.func72 ?_; intro N w0 a w hN hR H
  have hX := @hfl
  refine mW ?_; clear H; intro a w H
  refine mCall [] [] (h) H ?_; clear H; intro a w H; try refine wpList_nil ?_
  refine mW ?_; clear H; intro a w H
  refine wp_ret ?_; exact mEnd [] [] [.cell 4 24, .tmp 5] [_, _] hN hR H
theorem fill_agree {top : List UInt8} {d : Nat} (b : Bool) (hd : d ≤ 256) : agree d (fillL top d b) top := fun t ht => by rw [fillL_bit _ _ _ _ (by omega), if_pos ht]
end Go.Proofs.YtgffimanhmpohaaGreat
/- path.Flip; span.right. -/
namespace Go.Proofs.YtgffimanhmpohaaGreat
open Go Go.RowKit
end Go.Proofs.YtgffimanhmpohaaGreat
/- A store: New, none, get, and what is told of a node. -/
namespace Go.Proofs.YtgffimanhmpohaaGreat
open Go Go.RowKit
abbrev stoT : Ty := ti83.ty
abbrev stoB (γ δ n m room used : Nat) (es fs : List AV) : List (Ty × AV) := [(stoT, .st [.ptr 1 []]), (slbT, .st [.vw 2 γ n, .vw 3 δ m, .v (.int .i64 (room : Int)), .v (.int .i64 (used : Int))]), (.vc 148 sltT, .vc γ es), (.vc 3 .sc, .vc δ fs)]
abbrev Slb.sx (s : Slb) : List (Ty × AV) := stoB s.γ s.δ s.sl.length s.m s.room s.used (s.sl.map slA) (s.fs.map inA)
set_option maxRecDepth 20000 in
theorem stoNew_v (room : Nat) (h1 : 0 < room) (h2 : room ≤ 65536) : VX Tryz.prog 6 [] [] [] [.v (.int .i64 (room : Int))] (Slb.new room).sx [] [] (.tup [.ptr 0 [], errv 0]) := by
  have hn := slbNew_v room h1 h2
  generalize Slb.new room = s at *
  simp only [Slb.bx] at hn
  simp only [Slb.sx]
  refine mE Tryz.func6 ?_; intro N w0 a w hN hR H
  refine mW ?_; clear H; intro a w H
  refine mCall [] [] (hn) H ?_; clear H; intro a w H; try refine wpList_nil ?_
  refine mW ?_; clear H; intro a w H
  refine mC H (fun hb => ?_) (fun hb => ?_)
  · exact absurd hb (by decide)
  · clear hb
    refine mW ?_; clear H; intro a w H
    refine wp_ret ?_; exact mEnd [3, 0, 1, 2] [] [.tmp 2, .tmp 3] [_, _] hN hR H
theorem stoNone_v (γ δ n m room used : Nat) (es fs : List AV) :
    VX Tryz.prog 37 (stoB γ δ n m room used es fs) [] [] [.ptr 0 []] (stoB γ δ n m room used es fs) [] [] (.v (.bool false)) := by
  refine mE Tryz.func37 ?_; intro N w0 a w hN hR H
  refine mW ?_; clear H; intro a w H
  refine wp_ret ?_; exact mEnd [0, 1, 2, 3] [] [.tmp 2] [_] hN hR H
set_option maxRecDepth 20000 in
theorem stoGet_v (s : Slb) (hs : s.wf) (h : Int) : VX Tryz.prog 40 s.sx [] [] [.ptr 0 [], .v (.int .i64 h)] s.sx [] [] (.tup [(s.get_ h).av, .v (.bool (s.ok_ h))]) := by
  have hn := stoNone_v s.γ s.δ s.sl.length s.m s.room s.used (s.sl.map slA) (s.fs.map inA)
  have hg := slbGet_v s hs h
  have hx : (s.get_ h).wf := by
    unfold Slb.get_
    cases hat : s.at_ h with
    | some p => exact (Slb.at_pos hs hat).2.2
    | none => exact SN.zero_wf
  have he : decide ((if s.ok_ h then (0 : Int) else 7) = 0) = s.ok_ h := by cases s.ok_ h <;> rfl
  generalize s.get_ h = n at *
  generalize s.ok_ h = ok at *
  obtain ⟨x1, x2, x3⟩ := hx
  simp only [Slb.bx, SN.av] at hg
  simp only [Slb.sx, SN.av]
  generalize s.sl.map slA = es at *
  generalize s.fs.map inA = fs at *
  refine mE Tryz.func40 ?_; intro N w0 a w hN hR H
  have hX := And.intro @x1 (And.intro @x2 (And.intro @x3 (@he)))
  refine mW ?_; clear H; intro a w H
  refine mCall [0, 1, 2, 3] [] (hn) H ?_; clear H; intro a w H; try refine wpList_nil ?_
  refine mW ?_; clear H; intro a w H
  refine mC H (fun hb => ?_) (fun hb => ?_)
  · exact absurd hb (by decide)
  · clear hb
    refine mW ?_; clear H; intro a w H
    refine mCall [1, 2, 3] [] (hg) H ?_; clear H; intro a w H; try refine wpList_nil ?_
    refine mW ?_; clear H; intro a w H
    refine wp_ret ?_; exact mEnd [0, 1, 2, 3] [] [.cell 4 81, .tmp 5] [_, _] hN hR H
end Go.Proofs.YtgffimanhmpohaaGreat
/- What a store tells of a node. -/
namespace Go.Proofs.YtgffimanhmpohaaGreat
open Go Go.RowKit
theorem Slb.get_wf {s : Slb} (hs : s.wf) (h : Int) : (s.get_ h).wf := by
  unfold Slb.get_
  cases hat : s.at_ h with
  | some p => exact (Slb.at_pos hs hat).2.2
  | none => exact SN.zero_wf
/-- The digest of a handle. -/
def Slb.dig (s : Slb) (h : Int) : List UInt8 := if h = 0 then sum [0] else (s.get_ h).dg
theorem Slb.dig_len {s : Slb} (hs : s.wf) (h : Int) : (s.dig h).length = 32 := by
  unfold Slb.dig; split; exact sum_length _; exact (Slb.get_wf hs h).dg
set_option maxRecDepth 20000 in
theorem stoKind_v (s : Slb) (hs : s.wf) (h : Int) : VX Tryz.prog 52 s.sx [] [] [.ptr 0 [], .v (.int .i64 h)] s.sx [] [] (.v (B8 (s.get_ h).k)) := by
  have hg := stoGet_v s hs h
  obtain ⟨x1, x2, x3⟩ := Slb.get_wf hs h
  generalize s.get_ h = n at *
  simp only [Slb.sx, SN.av] at hg
  simp only [Slb.sx]
  refine mE Tryz.func52 ?_; intro N w0 a w hN hR H
  have hX := And.intro @x1 (And.intro @x2 (@x3))
  refine mW ?_; clear H; intro a w H
  refine mCall [0, 1, 2, 3] [] (hg) H ?_; clear H; intro a w H; try refine wpList_nil ?_
  refine mW ?_; clear H; intro a w H
  refine wp_ret ?_; exact mEnd [0, 1, 2, 3] [] [.tmp 4] [_] hN hR H
set_option maxRecDepth 20000 in
theorem stoDepth_v (s : Slb) (hs : s.wf) (h : Int) : VX Tryz.prog 77 s.sx [] [] [.ptr 0 [], .v (.int .i64 h)] s.sx [] [] (.v (.int .i64 (if s.ok_ h then (s.get_ h).d else -1))) := by
  have hg := stoGet_v s hs h
  obtain ⟨x1, x2, x3⟩ := Slb.get_wf hs h
  generalize s.get_ h = n at *
  simp only [Slb.sx, SN.av] at hg
  simp only [Slb.sx]
  generalize s.ok_ h = ok at *
  refine mE Tryz.func77 ?_; intro N w0 a w hN hR H
  have hX := And.intro @x1 (And.intro @x2 (@x3))
  refine mW ?_; clear H; intro a w H
  refine mCall [0, 1, 2, 3] [] (hg) H ?_; clear H; intro a w H; try refine wpList_nil ?_
  refine mW ?_; clear H; intro a w H
  refine mC H (fun hb => ?_) (fun hb => ?_)
  · have ho : ok = false := by simpa using hb
    subst ho
    rw [if_neg (by decide)]
    refine mW ?_; clear H; intro a w H
    refine wp_ret ?_; exact mEnd [0, 1, 2, 3] [] [.tmp 4] [_] hN hR H
  · have ho : ok = true := by simpa using hb
    subst ho
    rw [if_pos rfl]
    refine mW ?_; clear H; intro a w H
    refine wp_ret ?_; exact mEnd [0, 1, 2, 3] [] [.tmp 4] [_] hN hR H
set_option maxRecDepth 20000 in
theorem stoKey_v (s : Slb) (hs : s.wf) (h : Int) : VX Tryz.prog 53 s.sx [] [] [.ptr 0 [], .v (.int .i64 h)] s.sx [] [] (.ba (s.get_ h).key) := by
  have hg := stoGet_v s hs h
  obtain ⟨x1, x2, x3⟩ := Slb.get_wf hs h
  generalize s.get_ h = n at *
  simp only [Slb.sx, SN.av] at hg
  simp only [Slb.sx]
  refine mE Tryz.func53 ?_; intro N w0 a w hN hR H
  have hX := And.intro @x1 (And.intro @x2 (@x3))
  refine mW ?_; clear H; intro a w H
  refine mCall [0, 1, 2, 3] [] (hg) H ?_; clear H; intro a w H; try refine wpList_nil ?_
  refine mW ?_; clear H; intro a w H
  refine wp_ret ?_; exact mEnd [0, 1, 2, 3] [] [.cell 4 24] [_] hN hR H
set_option maxRecDepth 20000 in
theorem stoValue_v (s : Slb) (hs : s.wf) (h : Int) (hl : (s.get_ h).val.length ≤ 100000) : VX Tryz.prog 54 s.sx [] [] [.ptr 0 [], .v (.int .i64 h)] s.sx [] [(5, (s.get_ h).val.length)] (.bs (s.get_ h).val (some 0)) := by
  have hg := stoGet_v s hs h
  obtain ⟨x1, x2, x3⟩ := Slb.get_wf hs h
  generalize s.get_ h = n at *
  simp only [Slb.sx, SN.av] at hg
  simp only [Slb.sx]
  refine mE Tryz.func54 ?_; intro N w0 a w hN hR H
  have hX := And.intro @x1 (And.intro @x2 (@x3))
  refine mW ?_; clear H; intro a w H
  refine mCall [0, 1, 2, 3] [] (hg) H ?_; clear H; intro a w H; try refine wpList_nil ?_
  refine mW ?_; clear H; intro a w H
  refine wp_ret ?_; exact mEnd [0, 1, 2, 3] [0] [.tmp 4] [_] hN hR H
set_option maxRecDepth 20000 in
theorem stoSides_v (s : Slb) (hs : s.wf) (h : Int) : VX Tryz.prog 76 s.sx [] [] [.ptr 0 [], .v (.int .i64 h)] s.sx [] [] (.tup [.v (.int .i64 (s.get_ h).l), .v (.int .i64 (s.get_ h).r)]) := by
  have hg := stoGet_v s hs h
  obtain ⟨x1, x2, x3⟩ := Slb.get_wf hs h
  generalize s.get_ h = n at *
  simp only [Slb.sx, SN.av] at hg
  simp only [Slb.sx]
  refine mE Tryz.func76 ?_; intro N w0 a w hN hR H
  have hX := And.intro @x1 (And.intro @x2 (@x3))
  refine mW ?_; clear H; intro a w H
  refine mCall [0, 1, 2, 3] [] (hg) H ?_; clear H; intro a w H; try refine wpList_nil ?_
  refine mW ?_; clear H; intro a w H
  refine mS ?_; refine mD 0 [] [] H ?_; clear H; intro gS H
  refine mT ?_; clear H; intro a w H
  refine v_drawNil H ?_; clear H; intro H
  refine mW ?_; clear H; intro a w H
  refine wp_ret ?_; exact mEnd [0, 1, 2, 3] [] [.tmp 4, .tmp 5] [_, _] hN hR H
set_option maxRecDepth 20000 in
theorem stoDigest_v (s : Slb) (hs : s.wf) (h : Int) : VX Tryz.prog 9 s.sx [] [] [.ptr 0 [], .v (.int .i64 h)] s.sx [] [] (.ba (s.dig h)) := by
  have hn := stoNone_v s.γ s.δ s.sl.length s.m s.room s.used (s.sl.map slA) (s.fs.map inA)
  have hg := stoGet_v s hs h
  have hem := empty_v
  have hs0 : (sum [0]).length = 32 := sum_length _
  obtain ⟨x1, x2, x3⟩ := Slb.get_wf hs h
  unfold Slb.dig
  generalize s.get_ h = n at *
  simp only [Slb.sx, SN.av] at hg
  simp only [Slb.sx]
  generalize s.sl.map slA = es at *
  generalize s.fs.map inA = fs at *
  refine mE Tryz.func9 ?_; intro N w0 a w hN hR H
  have hX := And.intro @x1 (And.intro @x2 (And.intro @x3 (@hs0)))
  refine mW ?_; clear H; intro a w H
  refine mCall [0, 1, 2, 3] [] (hn) H ?_; clear H; intro a w H; try refine wpList_nil ?_
  refine mW ?_; clear H; intro a w H
  refine mC H (fun hb => ?_) (fun hb => ?_)
  · exact absurd hb (by decide)
  · clear hb
    refine mW ?_; clear H; intro a w H
    refine mC H (fun hb => ?_) (fun hb => ?_)
    · rw [decide_eq_true_eq] at hb
      rw [if_pos hb]
      refine mW ?_; clear H; intro a w H
      refine mCall [] [] (hem) H ?_; clear H; intro a w H; try refine wpList_nil ?_
      refine mW ?_; clear H; intro a w H
      refine wp_ret ?_; exact mEnd [0, 1, 2, 3] [] [.cell 4 33] [_] hN hR H
    · rw [decide_eq_false_iff_not] at hb
      rw [if_neg hb]
      refine mW ?_; clear H; intro a w H
      refine mCall [0, 1, 2, 3] [] (hg) H ?_; clear H; intro a w H; try refine wpList_nil ?_
      refine mW ?_; clear H; intro a w H
      refine wp_ret ?_; exact mEnd [0, 1, 2, 3] [] [.cell 4 33] [_] hN hR H
theorem kz2 (k c : UInt8) (hc : (c.toNat : Int) = (c.toNat : Int)) : decide ((k.toNat : Int) = (c.toNat : Int)) = decide (k = c) := by
  rw [decide_eq_decide]
  exact ⟨fun h => UInt8.toNat_inj.1 (by omega), fun h => by rw [h]⟩
/-- A node as it is told. -/
def Slb.nd (s : Slb) (h : Int) : Nd :=
  if (s.get_ h).k = 1 then ⟨1, (s.get_ h).key, (s.get_ h).hs, z32, z32⟩ else if (s.get_ h).k = 2 then ⟨2, z32, z32, s.dig (s.get_ h).l, s.dig (s.get_ h).r⟩ else Nd.zero
set_option maxRecDepth 20000 in
theorem stoNode_v (s : Slb) (hs : s.wf) (h : Int) : VX Tryz.prog 43 s.sx [] [] [.ptr 0 [], .v (.int .i64 h)] s.sx [] [] (s.nd h).av := by
  have hg := stoGet_v s hs h
  obtain ⟨x1, x2, x3⟩ := Slb.get_wf hs h
  have d1 := stoDigest_v s hs (s.get_ h).l
  have d2 := stoDigest_v s hs (s.get_ h).r
  have l1 := Slb.dig_len hs (s.get_ h).l
  have l2 := Slb.dig_len hs (s.get_ h).r
  unfold Slb.nd
  generalize s.get_ h = n at *
  generalize s.dig n.l = da at *
  generalize s.dig n.r = db at *
  simp only [Slb.sx, SN.av] at hg
  simp only [Slb.sx] at d1 d2 ⊢
  have k1 : decide ((n.k.toNat : Int) = 1) = decide (n.k = 1) := kz2 n.k 1 rfl
  have k2 : decide ((n.k.toNat : Int) = 2) = decide (n.k = 2) := kz2 n.k 2 rfl
  have hz2 : (List.replicate 32 (0 : UInt8)).length = 32 := List.length_replicate
  generalize s.sl.map slA = es at *
  generalize s.fs.map inA = fs at *
  refine mE Tryz.func43 ?_; intro N w0 a w hN hR H
  have hX := And.intro @x1 (And.intro @x2 (And.intro @x3 (And.intro @l1 (And.intro @l2 (@hz2)))))
  refine mW ?_; clear H; intro a w H
  refine mCall [0, 1, 2, 3] [] (hg) H ?_; clear H; intro a w H; try refine wpList_nil ?_
  refine mW ?_; clear H; intro a w H
  simp only [k1] at H
  refine mC H (fun hb => ?_) (fun hb => ?_)
  · rw [decide_eq_true_eq] at hb
    rw [if_pos hb]
    simp only [Nd.av, z32]
    refine mW ?_; clear H; intro a w H
    refine wp_ret ?_; exact mEnd [0, 1, 2, 3] [] [.cell 4 38] [_] hN hR H
  · rw [decide_eq_false_iff_not] at hb
    rw [if_neg hb]
    clear hb
    refine mW ?_; clear H; intro a w H
    simp only [k2] at H
    refine mC H (fun hb => ?_) (fun hb => ?_)
    · rw [decide_eq_true_eq] at hb
      rw [if_pos hb]
      simp only [Nd.av, z32]
      refine mW ?_; clear H; intro a w H
      replace H := v_ref H 5 5 (Nat.le_trans hN (Nat.le_of_ble_eq_true rfl)) rfl rfl rfl
      simp only [nilT, strip, List.map_cons, List.map_nil, reduceIte, Nat.reduceEqDiff] at H
      refine mS ?_; refine mD 0 [3, 7, 9] [4, 5, 6] H ?_; clear H; intro gS H
      refine mT ?_; clear H; intro a w H
      refine mCallT [0, 1, 2, 3] [] (d1) H ?_; clear H; intro a w H
      refine mT ?_; clear H; intro a w H
      refine mCallT [0, 1, 2, 3] [] (d2) H ?_; clear H; intro a w H
      refine mT ?_; clear H; intro a w H
      refine v_drawNil H ?_; clear H; intro H
      refine mW ?_; clear H; intro a w H
      refine wp_ret ?_; exact mEnd [0, 1, 2, 3] [] [.cell 4 38] [_] hN hR H
    · rw [decide_eq_false_iff_not] at hb
      rw [if_neg hb]
      simp only [Nd.av, Nd.zero, z32]
      refine mW ?_; clear H; intro a w H
      refine wp_ret ?_; exact mEnd [0, 1, 2, 3] [] [.cell 4 38] [_] hN hR H
end Go.Proofs.YtgffimanhmpohaaGreat
/- Keys as ways down: the document's functions. -/
namespace Go.Proofs.YtgffimanhmpohaaGreat
open Go Go.RowKit
end Go.Proofs.YtgffimanhmpohaaGreat
/- Digests of the empty place, of leaves, of inner nodes: the document's. -/
namespace Go.Proofs.YtgffimanhmpohaaGreat
open Go Go.RowKit
end Go.Proofs.YtgffimanhmpohaaGreat
/- Values seen as others: a nil slice inside a box as a row that is none yet; an empty window as no bytes. -/
namespace Go.Proofs.YtgffimanhmpohaaGreat
open Go Go.RowKit
section
variable {P : Program} {τ : Tab} {w0 w w' : World} {N : Gh} {g g1 g2 : Gh} {st st' : St} {nt : Nat} {a : Act}
theorem RC.sc_slice {T : Ty} {A : Option Addr} {n c : Nat} {cs : List Value} (h : RC g T (.v (.slice A n c)) cs) : T = .sc ∧ cs = [.slice A n c] := by
  cases h with
  | v h => exact ⟨rfl, rfl⟩
theorem RC.nilK {y : AV} (hy : RC g .sc y [.slice none 0 0]) : ∀ (k : Nat) {T : Ty} {fs : List AV} {cs : List Value}, RC g T (.st fs) cs → fs[k]? = some (.v (.slice none 0 0)) → RC g T (.st (fs.set k y)) cs
  | _, _, [], _, h, hk => by simp at hk
  | 0, _, x :: fs, _, h, hk => by
    simp only [List.getElem?_cons_zero, Option.some.injEq] at hk
    subst hk
    cases h with
    | cn h hs =>
      obtain ⟨rfl, rfl⟩ := h.sc_slice
      exact .cn hy hs
  | k + 1, _, x :: fs, _, h, hk => by
    cases h with
    | cn h hs => exact .cn h (RC.nilK hy k hs (by simpa using hk))
/-- The same, of other elements. -/
theorem v_nilX (hτ : τ.ok P) (H : Rel P w0 N nt st a w) (i k e : Nat) {j : TI} (T' : Ty) {T : Ty} {fs : List AV} (hj : Tab.get e τ = some j) (hs : 0 < j.ty.size) (hb : st.bx[i]? = some (T, .st fs)) (hd : fs[k]? = some (.v (.slice none 0 0))) :
    Rel P w0 N nt ⟨st.t, st.bx.set i (T, .st (fs.set k (.sl T' [] (some st.rw.length)))), st.fz, st.rw ++ [(e, 0)]⟩ a w := by
  obtain ⟨g, HI, hF⟩ := H
  have hok := Tab.get_ok hτ hj
  obtain ⟨g1, l1, I1, h1⟩ := HI.rowNil (nilRow hok hs w) rfl rfl ⟨hok.cells.symm, rfl⟩
  obtain ⟨x, hx, rfl, hr⟩ := I1.br.at_ i T _ hb
  obtain ⟨hxo, hxm, hr⟩ := hr.rc_of (fun _ _ e => by cases e) (fun _ _ e => by cases e) (fun _ _ e => by cases e)
  have hy := (RC.sl (g := g1) (T := T') (es := []) (tok := some st.rw.length) (A := none) (c := 0) (by simp) (by simp [maxLen]) (fun _ => []) (.inl rfl) (fun k hk => absurd hk (by simp)) fun i hi => by injection hi with hi; subst hi; exact ⟨_, h1, by simp, fun _ => ⟨rfl, rfl⟩⟩)
  exact ⟨g1, I1.re hx (.pl (RC.nilK hy k hr hd) hxo hxm), ⟨(hF.mono l1.1).sz, hF.df, (hF.mono l1.1).t, hF.u⟩⟩
end
end Go.Proofs.YtgffimanhmpohaaGreat
/- Proofs as bytes: what may be, how it is told. -/
namespace Go.Proofs.YtgffimanhmpohaaGreat
open Go Go.RowKit
structure Pf where
  s : List (List UInt8)
  e : Nd
  deriving DecidableEq
def bas (ls : List (List UInt8)) : List AV := ls.map .ba
theorem bas_len (ls : List (List UInt8)) : (bas ls).length = ls.length := by simp [bas]
theorem bas_get (ls : List (List UInt8)) (k : Nat) (hk : k < ls.length) : (bas ls).getD k .any = .ba ls[k] := by simp [bas, List.getD, hk]
structure Pf.wf (p : Pf) : Prop where
  s : ∀ h ∈ p.s, h.length = 32
  e : p.e.wf
def Pf.av (p : Pf) : AV := .st [.sl (.ba 32) (bas p.s) none, p.e.av]
def Pf.chk (p : Pf) : Int := if 256 < p.s.length then 4 else if p.e.ok ∧ p.e.k ≠ 2 then 0 else 2
/-- The digest of nothing. -/
def E0 : List UInt8 := sum [0]
def hidesB (s : List (List UInt8)) (t : Nat) : Bool := match s[t]? with | some h => h != E0 | none => false
def Pf.bits (p : Pf) : List UInt8 := bitsB p.s.length (hidesB p.s)
def hashes (s : List (List UInt8)) : List UInt8 := (s.filter (· != E0)).flatten
def Pf.text (p : Pf) : List UInt8 := [UInt8.ofNat (p.s.length / 256), UInt8.ofNat p.s.length] ++ (p.bits ++ (hashes p.s ++ p.e.text))
theorem hashes_len : ∀ (s : List (List UInt8)), (∀ h ∈ s, h.length = 32) → (hashes s).length ≤ 32 * s.length
  | [], _ => by simp [hashes]
  | h :: s, hs => by
    have ih := hashes_len s fun x hx => hs x (List.mem_cons_of_mem _ hx)
    have h1 := hs h List.mem_cons_self
    unfold hashes at ih ⊢
    rw [List.filter_cons]
    split
    · simp only [List.flatten_cons, List.length_append, List.length_cons]; omega
    · simp only [List.length_cons]; omega
end Go.Proofs.YtgffimanhmpohaaGreat
/- Proofs as bytes: how they are read. -/
namespace Go.Proofs.YtgffimanhmpohaaGreat
open Go Go.RowKit
/-- The sides that marks and bytes say, what is left, and whether bytes were lacking. -/
def runS : List Bool → List UInt8 → List (List UInt8) × List UInt8 × Bool
  | [], r => ([], r, false)
  | m :: ms, r => if m = true ∧ r.length < 32 then ([E0], r, true) else ((if m then r.take 32 else E0) :: (runS ms (if m then r.drop 32 else r)).1, (runS ms (if m then r.drop 32 else r)).2)
def marksOf (bits : List UInt8) (n : Nat) : List Bool := (List.range n).map fun i => bitAt (bits.getD (i / 8) 0) (i % 8)
def rdQ (l : List UInt8) : Pf × Bool :=
  if l.length < 2 then (⟨[], .zero⟩, false) else
  if 256 < num 0 (l.take 2) then (⟨[], .zero⟩, false) else
  if (l.drop 2).length < (num 0 (l.take 2) + 7) / 8 then (⟨[], .zero⟩, false) else
  let x := runS (marksOf ((l.drop 2).take ((num 0 (l.take 2) + 7) / 8)) (num 0 (l.take 2))) ((l.drop 2).drop ((num 0 (l.take 2) + 7) / 8))
  if x.2.2 then (⟨x.1, .zero⟩, false) else (⟨x.1, dec x.2.1⟩, decide (decOk x.2.1))
/-- Where the reading stands. -/
structure At (ms : List Bool) (l : List UInt8) (i : Nat × List (List UInt8) × List UInt8 × Bool) : Prop where
  k : i.1 ≤ ms.length
  len : i.2.1.length = i.1
  lr : i.2.2.1.length ≤ l.length
  ok : i.2.2.2 = false → runS ms l = (i.2.1 ++ (runS (ms.drop i.1) i.2.2.1).1, (runS (ms.drop i.1) i.2.2.1).2)
  no : i.2.2.2 = true → runS ms l = (i.2.1, i.2.2.1, true)
end Go.Proofs.YtgffimanhmpohaaGreat
/- Proofs as bytes: read, and told again. -/
namespace Go.Proofs.YtgffimanhmpohaaGreat
open Go Go.RowKit
def Pf.zero : Pf := ⟨[], .zero⟩
def pOk (l : List UInt8) : Prop := (rdQ l).2 = true ∧ (rdQ l).1.chk = 0 ∧ (rdQ l).1.text = l
instance (l : List UInt8) : Decidable (pOk l) := inferInstanceAs (Decidable (_ ∧ _))
end Go.Proofs.YtgffimanhmpohaaGreat
/- The digest at the top of a way: node.Up, and the document's. -/
namespace Go.Proofs.YtgffimanhmpohaaGreat
open Go Go.RowKit
/-- One step up. -/
def stepH (key : List UInt8) (d : Nat) (x h : List UInt8) : List UInt8 := if bitN key d then innerH x h else innerH h x
/-- From the sides from the depth d on. -/
def upL (key : List UInt8) : Nat → List (List UInt8) → List UInt8 → List UInt8
  | _, [], h => h
  | d, x :: r, h => stepH key d x (upL key (d + 1) r h)
theorem stepH_len (key : List UInt8) (d : Nat) (x h : List UInt8) : (stepH key d x h).length = 32 := by unfold stepH; split <;> exact innerH_len _ _
theorem upL_len (key : List UInt8) (h : List UInt8) (hh : h.length = 32) : ∀ d s, (upL key d s h).length = 32
  | _, [] => hh
  | _, _ :: _ => stepH_len _ _ _ _
theorem upL_drop (key : List UInt8) (s : List (List UInt8)) (h : List UInt8) (k : Nat) (hk : k < s.length) : upL key k (s.drop k) h = stepH key k (s.getD k []) (upL key (k + 1) (s.drop (k + 1)) h) := by
  rw [List.drop_eq_getElem_cons hk, List.getElem_eq_getD []]; rfl
def topH (key : List UInt8) (p : Pf) : List UInt8 := upL key 0 p.s (sum p.e.text)
theorem chk_all {p : Pf} (h : p.chk = 0) : p.s.length ≤ 256 ∧ p.e.ok ∧ p.e.k ≠ 2 := by
  unfold Pf.chk at h
  split at h
  · cases h
  · split at h
    · rename_i h1 h2; exact ⟨by omega, h2⟩
    · cases h
set_option maxRecDepth 20000 in
set_option maxHeartbeats 1000000 in
theorem up_v (key : List UInt8) (hk32 : key.length = 32) (p : Pf) (hw : p.wf) (h : p.chk = 0) : VC Tryz.prog 12 [.ba key, p.av] [] (.tup [.ba (topH key p), errv 0]) := by
  obtain ⟨hle, hok, hk2⟩ := chk_all h
  obtain ⟨s, n⟩ := p
  dsimp only at hle hok hk2
  have hs := hw.s
  have hsl := bas_len s
  have hdg := digest_ok n hw.e hok
  obtain ⟨h1, h2, h3, h4⟩ := id hw.e
  dsimp only at h1 h2 h3 h4 hs
  have hz2 := z32_len
  have hd2 : decide ((n.k.toNat : Int) = 2) = false := decide_eq_false fun e => hk2 (UInt8.toNat_inj.1 (by simp; omega))
  unfold topH
  obtain ⟨h0, hh0⟩ : ∃ h0, h0 = sum n.text := ⟨_, rfl⟩
  have h0l : h0.length = 32 := by rw [hh0]; exact sum_length _
  rw [← hh0] at hdg
  dsimp only
  rw [← hh0]
  clear hh0 hok hk2 h hw
  refine mE Tryz.func12 ?_; intro N w0 a w hN hR H
  simp only [Pf.av, Nd.av] at H hdg
  have hX := @hsl
  refine mW ?_; clear H; intro a w H
  refine mC H (fun hb => ?_) (fun hb => ?_)
  · exfalso; rw [decide_eq_true_eq] at hb; omega
  · refine mW ?_; clear H; intro a w H
    refine mCall [] [] (hdg) H ?_; clear H; intro a w H; try refine wpList_nil ?_
    refine mW ?_; clear H; intro a w H
    refine mC H (fun hb => ?_) (fun hb => ?_)
    · exfalso; simp only [hd2] at hb; simp at hb
    · clear hb
      refine mW ?_; clear H; intro a w H
      refine v_loop (fun k : Nat => ⟨[(8, none, .v (.int .i64 ((k : Int) - 1))), (6, none, .ptr 3 []), (5, none, .v (.int .i64 0)), (4, none, .ptr 2 []), (3, none, .ptr 1 []), (2, none, .ptr 0 [])],
        [(.ba 32, .ba key), (ti40.ty, .st [.sl (.ba 32) (bas s) none, .st [.v (B8 n.k), .ba n.key, .ba n.v, .ba n.l, .ba n.r]]), (.ba 32, .ba z32), (.ba 32, .ba (upL key k (s.drop k) h0))], [], []⟩)
        (fun k => k ≤ s.length) (fun k => k) s.length (Nat.le_refl _) (H.to 4 0 ⟨Nat.le_trans hN (by decide), hR⟩ ⟨rfl, rfl, rfl, rfl, rfl, rfl, trivial⟩ (by rw [List.drop_length]; rfl) rfl rfl rfl rfl) ?_
      clear H
      intro k a w hk H
      have hul := upL_len key h0 h0l k (s.drop k)
      refine mW ?_; clear H; intro a w H
      refine mC H (fun hb => ?_) (fun hb => ?_)
      · obtain ⟨j, rfl⟩ : ∃ j, k = j + 1 := ⟨k - 1, by rw [decide_eq_true_eq] at hb; omega⟩
        clear hb
        have hj : j < s.length := hk
        have e1 : (((j + 1 : Nat) : Int) - 1) = (j : Int) := by omega
        rw [e1] at H
        have hbit := bit_v key hk32 (j : Int)
        have hj256 : j < 256 := by omega
        have hpb : decide (pbit key (j : Int) = 0) = !bitN key j := by
          rw [pbit, if_pos (by omega), Int.toNat_natCast]; cases bitN key j <;> rfl
        have hup := upL_drop key s h0 j hj
        have hg := bas_get s j hj
        rw [List.getElem_eq_getD []] at hg
        have hx : (s.getD j []).length = 32 := by rw [← List.getElem_eq_getD (h := hj) []]; exact hs _ (List.getElem_mem _)
        generalize s.getD j [] = x at *
        generalize upL key (j + 1) (s.drop (j + 1)) h0 = u at *
        have hin1 := inner_v u x hul hx
        have hin2 := inner_v x u hx hul
        have hil1 := innerH_len u x
        have hil2 := innerH_len x u
        refine mW ?_; clear H; intro a w H
        refine mCall [] [] (hbit) H ?_; clear H; intro a w H; try refine wpList_nil ?_
        refine mW ?_; clear H; intro a w H
        simp only [hpb] at H
        refine mC H (fun hb => ?_) (fun hb => ?_)
        · have hbf : bitN key j = false := by cases h : bitN key j; rfl; rw [h] at hb; simp at hb
          have hst : stepH key j x u = innerH u x := by unfold stepH; rw [hbf]; rfl
          rw [hst] at hup
          clear hb
          refine mW ?_; clear H; intro a w H
          clear hX; have hX := And.intro @hsl (@hg)
          have hY := And.intro @hsl (@hx)
          refine mS ?_; refine mD 0 [6, 7] [] H ?_; clear H; intro gS H
          refine mTN 3 hN H ?_; clear H; intro a w H; simp only [List.drop_succ_cons, List.drop_zero, List.drop_nil]
          refine mTN 2 hN H ?_; clear H; intro a w H; simp only [List.drop_succ_cons, List.drop_zero, List.drop_nil]
          refine mTN 1 hN H ?_; clear H; intro a w H; simp only [List.drop_succ_cons, List.drop_zero, List.drop_nil]
          refine mCallT [] [] (hin1) H ?_; clear H; intro a w H
          refine mT ?_; clear H; intro a w H
          refine v_drawNil H ?_; clear H; intro H
          clear hX; have hX := @hsl
          clear hY
          refine mW ?_; clear H; intro a w H
          exact ⟨j, by omega, by omega, H.to 4 0 ⟨Nat.le_trans hN (by decide), hR⟩ ⟨rfl, rfl, rfl, rfl, rfl, rfl, trivial⟩ (by dsimp only; rw [hup]; rfl) rfl rfl rfl rfl⟩
        · have hbt : bitN key j = true := by cases h : bitN key j; (rw [h] at hb; simp at hb); rfl
          have hst : stepH key j x u = innerH x u := by unfold stepH; rw [hbt]; rfl
          rw [hst] at hup
          clear hb
          refine mW ?_; clear H; intro a w H
          clear hX; have hX := And.intro @hsl (@hg)
          have hY := And.intro @hsl (@hx)
          refine mS ?_; refine mD 0 [6, 7] [] H ?_; clear H; intro gS H
          refine mTN 2 hN H ?_; clear H; intro a w H; simp only [List.drop_succ_cons, List.drop_zero, List.drop_nil]
          refine mTN 2 hN H ?_; clear H; intro a w H; simp only [List.drop_succ_cons, List.drop_zero, List.drop_nil]
          refine mTN 2 hN H ?_; clear H; intro a w H; simp only [List.drop_succ_cons, List.drop_zero, List.drop_nil]
          refine mCallT [] [] (hin2) H ?_; clear H; intro a w H
          refine mT ?_; clear H; intro a w H
          refine v_drawNil H ?_; clear H; intro H
          clear hX; have hX := @hsl
          clear hY
          refine mW ?_; clear H; intro a w H
          exact ⟨j, by omega, by omega, H.to 4 0 ⟨Nat.le_trans hN (by decide), hR⟩ ⟨rfl, rfl, rfl, rfl, rfl, rfl, trivial⟩ (by dsimp only; rw [hup]; rfl) rfl rfl rfl rfl⟩
      · have hge : k = 0 := by rw [decide_eq_false_iff_not] at hb; omega
        subst hge
        rw [List.drop_zero] at H hul
        refine mW ?_; clear H; intro a w H
        refine wp_ret ?_; exact mEnd [] [] [.cell 4 33, .tmp 5] [_, _] hN hR H
end Go.Proofs.YtgffimanhmpohaaGreat
/- Proofs as bytes: the document's. -/
namespace Go.Proofs.YtgffimanhmpohaaGreat
open Go Go.RowKit
end Go.Proofs.YtgffimanhmpohaaGreat
/- A region at a function's end in which the named results are loaded and stored again: nothing changes. -/
namespace Go.Proofs.YtgffimanhmpohaaGreat
open Go Go.RowKit
section
variable {P : Program} {τ : Tab} {w0 w : World} {N : Gh} {st : St} {nt : Nat} {a : Act}
end
end Go.Proofs.YtgffimanhmpohaaGreat
/- What bytes say to whoever knows the root: verify, and the document's. -/
namespace Go.Proofs.YtgffimanhmpohaaGreat
open Go Go.RowKit
def valH (v : List UInt8) : List UInt8 := sum (3 :: v)
theorem valH_len (v : List UInt8) : (valH v).length = 32 := sum_length _
theorem value_v (v : List UInt8) (hv : v.length ≤ 34359730000) : VC Tryz.prog 47 [.bs v none] [] (.ba (valH v)) := by
  have h := of_v 3 [v] (by simp; omega) (by simp)
  have e : [v].flatten = v := by simp
  rw [e] at h
  have hsl := sum_length (3 :: v)
  unfold valH
  refine mE Tryz.func47 ?_; intro N w0 a w hN hR H
  refine mW ?_; clear H; intro a w H
  refine mCall [] [] (h) H ?_; clear H; intro a w H; try refine wpList_nil ?_
  refine mW ?_; clear H; intro a w H
  refine wp_ret ?_; exact mEnd [] [] [.cell 2 33] [_] hN hR H
end Go.Proofs.YtgffimanhmpohaaGreat
/- A store: Root, callers, Leaf. -/
namespace Go.Proofs.YtgffimanhmpohaaGreat
open Go Go.RowKit
def Slb.rootE (s : Slb) (h : Int) : Int := if h = 0 then 0 else if s.ok_ h = false then 7 else if (s.get_ h).k = 2 ∧ (s.get_ h).d ≠ 0 then 2 else 0
set_option maxRecDepth 20000 in
theorem stoRoot_v (s : Slb) (hs : s.wf) (h : Int) : VX Tryz.prog 28 s.sx [] [] [.ptr 0 [], .v (.int .i64 h)] s.sx [] [] (errv (s.rootE h)) := by
  have hn := stoNone_v s.γ s.δ s.sl.length s.m s.room s.used (s.sl.map slA) (s.fs.map inA)
  have hg := stoGet_v s hs h
  obtain ⟨x1, x2, x3⟩ := Slb.get_wf hs h
  unfold Slb.rootE
  generalize s.get_ h = n at *
  generalize s.ok_ h = ok at *
  have k2 : decide ((n.k.toNat : Int) = 2) = decide (n.k = 2) := kz2 n.k 2 rfl
  simp only [Slb.sx, SN.av] at hg
  simp only [Slb.sx]
  generalize s.sl.map slA = es at *
  generalize s.fs.map inA = fs at *
  refine mE Tryz.func28 ?_; intro N w0 a w hN hR H
  have hX := And.intro @x1 (And.intro @x2 (@x3))
  refine mW ?_; clear H; intro a w H
  refine mCall [0, 1, 2, 3] [] (hn) H ?_; clear H; intro a w H; try refine wpList_nil ?_
  refine mW ?_; clear H; intro a w H
  refine mC H (fun hb => ?_) (fun hb => ?_)
  · exact absurd hb (by decide)
  · clear hb
    refine mW ?_; clear H; intro a w H
    refine mC H (fun hb => ?_) (fun hb => ?_)
    · rw [decide_eq_true_eq] at hb
      rw [if_pos hb]
      refine mW ?_; clear H; intro a w H
      refine wp_ret ?_; exact mEnd [0, 1, 2, 3] [] [.tmp 4] [_] hN hR H
    · rw [decide_eq_false_iff_not] at hb
      rw [if_neg hb]
      clear hb
      refine mW ?_; clear H; intro a w H
      refine mCall [0, 1, 2, 3] [] (hg) H ?_; clear H; intro a w H; try refine wpList_nil ?_
      refine mW ?_; clear H; intro a w H
      refine mC H (fun hb => ?_) (fun hb => ?_)
      · have ho : ok = false := by simpa using hb
        rw [if_pos ho]
        refine mW ?_; clear H; intro a w H
        refine wp_ret ?_; exact mEnd [0, 1, 2, 3] [] [.tmp 4] [_] hN hR H
      · have ho : ok = true := by simpa using hb
        rw [if_neg (by rw [ho]; decide)]
        clear hb
        refine mW ?_; clear H; intro a w H
        simp only [k2] at H
        refine mC H (fun hb => ?_) (fun hb => ?_)
        · have e : n.k = 2 ∧ n.d ≠ 0 := by
            by_cases hk : n.k = 2
            · rw [decide_eq_true hk] at hb; exact ⟨hk, by simpa using hb⟩
            · rw [decide_eq_false hk] at hb; cases hb
          rw [if_pos e]
          refine mW ?_; clear H; intro a w H
          refine wp_ret ?_; exact mEnd [0, 1, 2, 3] [] [.tmp 4] [_] hN hR H
        · have e : ¬ (n.k = 2 ∧ n.d ≠ 0) := by
            rintro ⟨e1, e2⟩
            rw [decide_eq_true e1] at hb
            simp at hb; exact e2 hb
          rw [if_neg e]
          refine mW ?_; clear H; intro a w H
          refine wp_ret ?_; exact mEnd [0, 1, 2, 3] [] [.tmp 4] [_] hN hR H
/-- Callers hold a node more or less often. -/
def Slb.call_ (s : Slb) (h b : Int) : Slb := if s.ok_ h then s.set_ h { s.get_ h with hd := (s.get_ h).hd + b } else s
set_option maxRecDepth 20000 in
theorem stoCallers_v (s : Slb) (hs : s.wf) (h b : Int) (hb0 : -1000000000000 ≤ (s.get_ h).hd + b ∧ (s.get_ h).hd + b ≤ 1000000000000) :
    VX Tryz.prog 56 s.sx [] [] [.ptr 0 [], .v (.int .i64 h), .v (.int .i64 b)] (s.call_ h b).sx [] [] (.tup []) := by
  have hg := stoGet_v s hs h
  obtain ⟨x1, x2, x3⟩ := id (Slb.get_wf hs h)
  unfold Slb.call_
  cases hok : s.ok_ h with
  | false =>
    rw [hok] at hg
    rw [if_neg (by decide)]
    generalize s.get_ h = n at *
    simp only [Slb.sx, SN.av] at hg
    simp only [Slb.sx]
    refine mE Tryz.func56 ?_; intro N w0 a w hN hR H
    have hX := And.intro @x1 (And.intro @x2 (@x3))
    refine mW ?_; clear H; intro a w H
    refine mCall [0, 1, 2, 3] [] (hg) H ?_; clear H; intro a w H; try refine wpList_nil ?_
    refine mW ?_; clear H; intro a w H
    refine mC H (fun hb => ?_) (fun hb => ?_)
    · exact absurd hb (by decide)
    · refine mW ?_; clear H; intro a w H
      exact mEnd [0, 1, 2, 3] [] [] [] hN hR H
  | true =>
    rw [hok] at hg
    rw [if_pos rfl]
    obtain ⟨⟨x, c⟩, hat⟩ : ∃ p, s.at_ h = some p := Option.isSome_iff_exists.1 hok
    have hst := slbSet_v s hs h x c hat { s.get_ h with hd := (s.get_ h).hd + b } ⟨x1, x2, x3⟩
    generalize s.set_ h { s.get_ h with hd := (s.get_ h).hd + b } = s2 at *
    generalize s.get_ h = n at *
    simp only [Slb.sx, SN.av] at hg
    simp only [Slb.bx, SN.av] at hst
    simp only [Slb.sx]
    refine mE Tryz.func56 ?_; intro N w0 a w hN hR H
    have hX := And.intro @x1 (And.intro @x2 (@x3))
    refine mW ?_; clear H; intro a w H
    refine mCall [0, 1, 2, 3] [] (hg) H ?_; clear H; intro a w H; try refine wpList_nil ?_
    refine mW ?_; clear H; intro a w H
    refine mC H (fun hb => ?_) (fun hb => ?_)
    · clear hb
      refine mW ?_; clear H; intro a w H
      refine mS ?_; refine mD 0 [6] [] H ?_; clear H; intro gS H
      refine mT ?_; clear H; intro a w H
      refine mCallT [1, 2, 3] [] (hst) H ?_; clear H; intro a w H
      refine mT ?_; clear H; intro a w H
      refine v_drawNil H ?_; clear H; intro H
      refine mW ?_; clear H; intro a w H
      exact mEnd [0, 1, 2, 3] [] [] [] hN hR H
    · exact absurd hb (by decide)
/-- A leaf. -/
def leafN (k v : List UInt8) (hd : Int) : SN := ⟨leafH k (valH v), 1, -1, k, v, valH v, 0, 0, 1, hd⟩
set_option maxRecDepth 20000 in
set_option maxHeartbeats 4000000 in
theorem stoLeaf_v (s : Slb) (hs : s.wf) (hm : s.m = 0) (hu : s.used < s.room) (hl : s.sl.length < 65536) (k v : List UInt8) (hk : k.length = 32) (hv : v.length ≤ 1024) :
    VX Tryz.prog 34 s.sx [] [] [.ptr 0 [], .ba k, .bs v none] (s.push (leafN k v 1)).sx [] [] (.tup [.v (.int .i64 ((s.sl.length : Int) + 1)), errv 0]) := by
  have hn := stoNone_v s.γ s.δ s.sl.length s.m s.room s.used (s.sl.map slA) (s.fs.map inA)
  have hlf := leaf_v k (valH v) hk (valH_len v)
  have hval := value_v v (by omega)
  have hvl := valH_len v
  have hll := leafH_len k (valH v)
  have hp := slbPush_v s hs hm hu (leafN k v 1) ⟨hll, hk, hvl⟩ hl
  have d1 : decide ((1024 : Int) < (v.length : Int)) = false := decide_eq_false (by omega)
  generalize s.push (leafN k v 1) = s2 at *
  simp only [Slb.bx, SN.av, leafN] at hp
  simp only [Slb.sx]
  generalize s.sl.map slA = es at *
  generalize s.fs.map inA = fs at *
  generalize leafH k (valH v) = lh at *
  generalize valH v = vh at *
  refine mE Tryz.func34 ?_; intro N w0 a w hN hR H
  have hX := And.intro @hk (And.intro @hvl (And.intro @hll (@d1)))
  refine mW ?_; clear H; intro a w H
  refine mCall [0, 1, 2, 3] [] (hn) H ?_; clear H; intro a w H; try refine wpList_nil ?_
  refine mW ?_; clear H; intro a w H
  refine mC H (fun hb => ?_) (fun hb => ?_)
  · exact absurd hb (by decide)
  · clear hb
    refine mW ?_; clear H; intro a w H
    refine mC H (fun hb => ?_) (fun hb => ?_)
    · exact absurd hb (by decide)
    · clear hb
      refine mW ?_; clear H; intro a w H
      refine mCall [] [] (hval) H ?_; clear H; intro a w H; try refine wpList_nil ?_
      refine mW ?_; clear H; intro a w H
      replace H := v_ref H 4 4 (Nat.le_trans hN (Nat.le_of_ble_eq_true rfl)) rfl rfl rfl
      simp only [nilT, strip, List.map_cons, List.map_nil, reduceIte, Nat.reduceEqDiff] at H
      replace H := v_ref H 8 5 (Nat.le_trans hN (Nat.le_of_ble_eq_true rfl)) rfl rfl rfl
      simp only [nilT, strip, List.map_cons, List.map_nil, reduceIte, Nat.reduceEqDiff] at H
      repeat (first | refine wp_seq ?_ | refine wp_block ?_)
      refine v_drawZ 0 [0, 1, 2, 4, 5, 8, 9, 10, 3, 6, 7, 11, 12, 13, 14, 15, 16] [3, 6, 12] [0, 1, 2, 4, 5, 7, 8, 9, 10, 11] [(3, 6)] (by kernel_rfl) (by kernel_rfl) (by kernel_rfl) (by kernel_rfl) (by kernel_rfl) H (by rfl) ?_; clear H; intro gS H; try replace H := ntf H
      repeat' ((first | refine wpZ_q1 rfl rfl ?_ | refine wpZ_l1 rfl rfl rfl ?_ | refine wpZ_l2 rfl rfl rfl rfl rfl ?_ ?_ | refine wpZ_l3 rfl rfl rfl rfl rfl rfl rfl ?_ ?_ ?_ | refine wpZ_l4 rfl rfl rfl rfl rfl rfl rfl rfl rfl ?_ ?_ ?_ ?_) <;> ((first | (refine wpT_at 6 ?_; refine mCallT [] [] (hlf) H ?_; clear H; intro a w H) | (refine wpT_at 12 ?_; refine mCallT [1, 2, 3] [] (hp) H ?_; clear H; intro a w H) | (refine v_someT 1 tab_ok hN H rfl ctX ?_; clear H; intro a w H; replace H := ntf H; simp only [List.drop_succ_cons, List.drop_zero, List.drop_nil])); refine wpT_nil ?_; try dsimp only))
      all_goals (refine wpZ_nil ?_; replace H := RelT.toRel H)
      all_goals
        refine mW ?_; clear H; intro a w H
        refine wp_ret ?_; exact mEnd [0, 1, 2, 3] [] [.tmp 6, .tmp 7] [_, _] hN hR H
end Go.Proofs.YtgffimanhmpohaaGreat
/- A store: does a node fit a side, do both. -/
namespace Go.Proofs.YtgffimanhmpohaaGreat
open Go Go.RowKit
def fitB (n : SN) (d : Int) (b : Int) : Bool := !(decide (n.k = 2) && decide (n.d ≠ d + 1)) && decide (pbit n.key d = b)
set_option maxRecDepth 20000 in
theorem stoFit_v (n : SN) (hn : n.wf) (d : Int) (hd : 0 ≤ d ∧ d ≤ 255) (b : Int) : VC Tryz.prog 103 [n.av, .v (.int .i64 d), .v (.int .i64 b)] [] (.v (.bool (fitB n d b))) := by
  obtain ⟨x1, x2, x3⟩ := hn
  have hbit := bit_v n.key x2 d
  have k2 : decide ((n.k.toNat : Int) = 2) = decide (n.k = 2) := kz2 n.k 2 rfl
  unfold fitB
  simp only [SN.av]
  refine mE Tryz.func103 ?_; intro N w0 a w hN hR H
  refine mS ?_
  have hX := And.intro @x1 (And.intro @x2 (@x3))
  (try refine wp_region_lit ?_); refine mN 2 hN H ?_; clear H; intro a w H
  refine wpList_nil ?_
  refine mS ?_
  (try refine wp_region_lit ?_); refine mN 4 hN H ?_; clear H; intro a w H
  simp only [k2] at H
  refine mW ?_; clear H; intro a w H
  refine mC H (fun hb => ?_) (fun hb => ?_)
  · have e : (decide (n.k = 2) && decide (n.d ≠ d + 1)) = true := by
      by_cases hk : n.k = 2
      · rw [decide_eq_true hk] at hb ⊢; simpa using hb
      · rw [decide_eq_false hk] at hb; cases hb
    rw [e]
    refine mW ?_; clear H; intro a w H
    refine wp_ret ?_; exact mEnd [] [] [.tmp 6] [_] hN hR H
  · have e : (decide (n.k = 2) && decide (n.d ≠ d + 1)) = false := by
      by_cases hk : n.k = 2
      · rw [decide_eq_true hk] at hb ⊢; simpa using hb
      · rw [decide_eq_false hk]; rfl
    rw [e]
    refine mW ?_; clear H; intro a w H
    refine mCall [] [] (hbit) H ?_; clear H; intro a w H; try refine wpList_nil ?_
    refine mW ?_; clear H; intro a w H
    refine wp_ret ?_; exact mEnd [] [] [.tmp 6] [_] hN hR H
def fitsB (d : Int) (lh rh : Int) (l r : SN) : Bool :=
  if lh = 0 ∧ rh = 0 then false else if lh = 0 then decide (r.k = 2) && fitB r d 1 else if rh = 0 then decide (l.k = 2) && fitB l d 0 else fitB l d 0 && (fitB r d 1 && decide (d ≤ (com l.key r.key : Int)))
set_option maxRecDepth 20000 in
set_option maxHeartbeats 4000000 in
theorem stoFits_v (l r : SN) (hl : l.wf) (hr : r.wf) (d : Int) (hd : 0 ≤ d ∧ d ≤ 255) (lh rh : Int) : VC Tryz.prog 71 [.v (.int .i64 d), .v (.int .i64 lh), .v (.int .i64 rh), l.av, r.av] [] (.v (.bool (fitsB d lh rh l r))) := by
  have f1 := stoFit_v l hl d hd 0
  have f2 := stoFit_v r hr d hd 1
  have hc := common_v l.key r.key hl.key hr.key
  obtain ⟨x1, x2, x3⟩ := hl
  obtain ⟨y1, y2, y3⟩ := hr
  have k2 : decide ((l.k.toNat : Int) = 2) = decide (l.k = 2) := kz2 l.k 2 rfl
  have k3 : decide ((r.k.toNat : Int) = 2) = decide (r.k = 2) := kz2 r.k 2 rfl
  unfold fitsB
  generalize fitB l d 0 = b1 at *
  generalize fitB r d 1 = b2 at *
  simp only [SN.av] at *
  by_cases h1 : lh = 0
  · subst h1
    by_cases h2 : rh = 0
    · subst h2
      rw [if_pos ⟨rfl, rfl⟩]
      refine mE Tryz.func71 ?_; intro N w0 a w hN hR H
      have hX := And.intro @x1 (And.intro @x2 (And.intro @x3 (And.intro @y1 (And.intro @y2 (@y3)))))
      refine mW ?_; clear H; intro a w H
      refine mC H (fun hb => ?_) (fun hb => ?_)
      · refine mW ?_; clear H; intro a w H
        refine wp_ret ?_; exact mEnd [] [] [.tmp 10] [_] hN hR H
      · exact absurd hb (by decide)
    · have d2 : decide (rh = 0) = false := decide_eq_false h2
      rw [if_neg (fun h => h2 h.2), if_pos rfl]
      refine mE Tryz.func71 ?_; intro N w0 a w hN hR H
      have hX := And.intro @x1 (And.intro @x2 (And.intro @x3 (And.intro @y1 (And.intro @y2 (And.intro @y3 (@d2))))))
      refine mW ?_; clear H; intro a w H
      refine mC H (fun hb => ?_) (fun hb => ?_)
      · exact absurd hb (by decide)
      · clear hb
        refine mW ?_; clear H; intro a w H
        refine mC H (fun hb => ?_) (fun hb => ?_)
        · clear hb
          refine mS ?_
          (try refine wp_region_lit ?_); refine mN 4 hN H ?_; clear H; intro a w H
          simp only [k3] at H
          refine mW ?_; clear H; intro a w H
          refine mCallG [] [] (f2) H ?_; clear H; intro a w H; try refine wpList_nil ?_
          refine mW ?_; clear H; intro a w H
          rw [show (decide (r.k = 2) && b2) = (bif decide (r.k = 2) then b2 else false) by cases decide (r.k = 2) <;> rfl]
          refine wp_ret ?_; exact mEnd [] [] [.tmp 10] [_] hN hR H
        · exact absurd hb (by decide)
  · have d1 : decide (lh = 0) = false := decide_eq_false h1
    by_cases h2 : rh = 0
    · subst h2
      rw [if_neg (fun h => h1 h.1), if_neg h1, if_pos rfl]
      refine mE Tryz.func71 ?_; intro N w0 a w hN hR H
      have hX := And.intro @x1 (And.intro @x2 (And.intro @x3 (And.intro @y1 (And.intro @y2 (And.intro @y3 (@d1))))))
      refine mW ?_; clear H; intro a w H
      refine mC H (fun hb => ?_) (fun hb => ?_)
      · exact absurd hb (by decide)
      · clear hb
        refine mW ?_; clear H; intro a w H
        refine mC H (fun hb => ?_) (fun hb => ?_)
        · exact absurd hb (by decide)
        · clear hb
          refine mW ?_; clear H; intro a w H
          refine mC H (fun hb => ?_) (fun hb => ?_)
          · clear hb
            refine mS ?_
            (try refine wp_region_lit ?_); refine mN 4 hN H ?_; clear H; intro a w H
            simp only [k2] at H
            refine mW ?_; clear H; intro a w H
            refine mCallG [] [] (f1) H ?_; clear H; intro a w H; try refine wpList_nil ?_
            refine mW ?_; clear H; intro a w H
            rw [show (decide (l.k = 2) && b1) = (bif decide (l.k = 2) then b1 else false) by cases decide (l.k = 2) <;> rfl]
            refine wp_ret ?_; exact mEnd [] [] [.tmp 10] [_] hN hR H
          · exact absurd hb (by decide)
    · have d2 : decide (rh = 0) = false := decide_eq_false h2
      rw [if_neg (fun h => h1 h.1), if_neg h1, if_neg h2]
      refine mE Tryz.func71 ?_; intro N w0 a w hN hR H
      have hX := And.intro @x1 (And.intro @x2 (And.intro @x3 (And.intro @y1 (And.intro @y2 (And.intro @y3 (And.intro @d1 (@d2)))))))
      refine mW ?_; clear H; intro a w H
      refine mC H (fun hb => ?_) (fun hb => ?_)
      · exact absurd hb (by decide)
      · clear hb
        refine mW ?_; clear H; intro a w H
        refine mC H (fun hb => ?_) (fun hb => ?_)
        · exact absurd hb (by decide)
        · clear hb
          refine mW ?_; clear H; intro a w H
          refine mC H (fun hb => ?_) (fun hb => ?_)
          · exact absurd hb (by decide)
          · clear hb
            refine mW ?_; clear H; intro a w H
            refine mCall [] [] (f1) H ?_; clear H; intro a w H; try refine wpList_nil ?_
            refine mW ?_; clear H; intro a w H
            refine mCallG [] [] (f2) H ?_; clear H; intro a w H; try refine wpList_nil ?_
            refine mW ?_; clear H; intro a w H
            refine mCallG [] [] (hc) H ?_; clear H; intro a w H; try refine wpList_nil ?_
            refine mW ?_; clear H; intro a w H
            rw [show (b1 && (b2 && decide (d ≤ (com l.key r.key : Int)))) = (bif (bif b1 then b2 else false) then decide (d ≤ (com l.key r.key : Int)) else false) by cases b1 <;> cases b2 <;> rfl]
            refine wp_ret ?_; exact mEnd [] [] [.tmp 10] [_] hN hR H
end Go.Proofs.YtgffimanhmpohaaGreat
/- The statements' kit: do lists share memory? -/
namespace Go.Proofs.YtgffimanhmpohaaGreat
open Go Go.RowKit
attribute [local irreducible] wpT
/-- A slice, in its three parts. -/
abbrev SV := Option Addr × Nat × Nat
abbrev SV.v (x : SV) : Value := .slice x.1 x.2.1 x.2.2
/-- A row, and what the list that names it says of it. -/
abbrev ARow := SV × List UInt8 × List UInt8 × TypeId
abbrev ARow.str (x : ARow) : Value := .string (strOf (x.2.1 ++ x.2.2.1))
/-- Rows that do not share memory. -/
structure Apart (w : World) (base : Nat) (L : List ARow) : Prop where
  own : ∀ i (hi : i < L.length), Own (byteT L[i].2.2.2) w base L[i].1.v L[i].2.1 L[i].2.2.1
  ne : ∀ i j (hi : i < L.length) (hj : j < L.length), i ≠ j → L[i].1.v.ownBlock = none ∨ L[i].1.v.ownBlock ≠ L[j].1.v.ownBlock
theorem Apart.below {w w' : World} {base : Nat} {L : List ARow} (h : Apart w base L) (hb : Below w.heap.size w w') : Apart w' base L :=
  ⟨fun i hi => (h.own i hi).belowSize hb, h.ne⟩
end Go.Proofs.YtgffimanhmpohaaGreat
/- ApartBytes of slices that own their memory, written out where they are asked about; guards that are known to hold. -/
namespace Go.Proofs.YtgffimanhmpohaaGreat
open Go Go.RowKit
section
variable {P : Program} {τ : Tab} {w0 w : World} {N : Gh} {g gS : Gh} {st st' sq sq' : St} {nt : Nat} {a : Act}
theorem zero_u8 : zeroOf Tryz.prog 5 = [.int .u8 0] := by kernel_rfl
theorem flat_z (m : Nat) : (List.replicate m [Value.int .u8 0]).flatten = (List.replicate m (0 : UInt8)).map B8 := by
  induction m with
  | zero => rfl
  | succ m ih => rw [List.replicate_succ, List.flatten_cons, ih, List.replicate_succ]; rfl
end
end Go.Proofs.YtgffimanhmpohaaGreat
/- Rows that no frame owns: lists of bytes, each with memory of its own; contracts that hand them out. -/
namespace Go.Proofs.YtgffimanhmpohaaGreat
open Go Go.RowKit
/-- A slice on its own: its block, its length and room, the block's cells; the first k of them stay as they are. -/
structure XR where
  A : Option Nat
  n : Nat
  c : Nat
  tid : TypeId
  cells : List Value
  k : Nat
def XR.v (x : XR) : Value := .slice (x.A.map fun b => ⟨b, 0, none⟩) x.n x.c
theorem XR.own (x : XR) : x.v.ownBlock = x.A := by unfold XR.v; cases x.A <;> rfl
structure XOk (lo : Nat) (g : Gh) (w : World) (x : XR) : Prop where
  le : x.n ≤ x.c ∧ x.c ≤ maxLen
  nil : x.A = none → x.c = 0
  own : ∀ b, x.A = some b → ¬ g.has b ∧ lo ≤ b ∧ Blk w b x.tid x.cells.toArray ∧ ∀ o u, o < x.k → x.cells[o]? = some u → g.ro b o = some u
theorem XOk.lt {lo : Nat} {g : Gh} {w : World} {x : XR} (h : XOk lo g w x) {b : Nat} (hb : x.A = some b) : b < w.heap.size := (h.own b hb).2.2.1.lt
def XApart (X : List XR) : Prop := X.Pairwise fun x y => x.A = none ∨ x.A ≠ y.A
structure Xs (lo : Nat) (g : Gh) (w : World) (X : List XR) : Prop where
  ok : ∀ x ∈ X, XOk lo g w x
  un : XApart X
/-- As Fr, but for blocks from lo on. -/
structure FrX (lo : Nat) (w0 : World) (N g : Gh) (w : World) : Prop where
  os : w.os = w0.os
  tape : w.tape = w0.tape
  output : w.output = w0.output
  size : w0.heap.size ≤ w.heap.size
  block : ∀ k, k < w0.heap.size → k < lo → ¬ N.has k → w.heap[k]? = w0.heap[k]?
  bx : ∀ (i : Nat) (x : Bx), g.bx[i]? = some x → x.off = false → w0.heap.size ≤ x.blk ∨ ∃ y, N.bx[i]? = some y ∧ y.off = false ∧ y.blk = x.blk
  rw : ∀ (i : Nat) (r : Rw) (k : Nat), g.rw[i]? = some r → r.v.ownBlock = some k → w0.heap.size ≤ k ∨ ∃ s, N.rw[i]? = some s ∧ s.v.ownBlock = some k
  ro : ∀ b, b < w0.heap.size → b < lo → ¬ N.has b → ∀ o, g.ro b o = N.ro b o
  le : N.le g
section
variable {P : Program} {τ : Tab} {w0 w w1 w2 : World} {N N1 N2 : Gh} {g g1 gS : Gh} {st st' sq sq' : St} {nt : Nat} {a : Act} {lo : Nat} {X Y : List XR}
theorem FrX.of (h : Fr w0 N g w) (lo : Nat) : FrX lo w0 N g w := ⟨h.kept.os, h.kept.tape, h.kept.output, h.kept.size, fun k hk _ hn => h.kept.block k hk hn, h.bx, h.rw, fun b hb _ hn => h.ro b hb hn, h.le⟩
theorem FrX.fr (h : FrX lo w0 N g w) (hlo : w0.heap.size ≤ lo) : Fr w0 N g w := ⟨⟨h.os, h.tape, h.output, h.size, fun k hk hn => h.block k hk (by omega) hn⟩, h.bx, h.rw, fun b hb hn => h.ro b hb (by omega) hn, h.le⟩
theorem FrX.back (h : FrX lo w0 N g w) {b : Nat} (hb : b < w0.heap.size) (hh : g.has b) : N.has b := by
  rcases hh with ⟨y, hy, hyo, he⟩ | ⟨s, hr, he⟩
  · obtain ⟨i, hi⟩ := List.getElem?_of_mem hy
    rcases h.bx i y hi hyo with h3 | ⟨z, h3, h4, h5⟩
    · omega
    · exact .inl ⟨z, List.mem_of_getElem? h3, h4, h5.trans he⟩
  · obtain ⟨i, hi⟩ := List.getElem?_of_mem hr
    rcases h.rw i s b hi he with h3 | ⟨z, h3, h4⟩
    · omega
    · exact .inr ⟨z, List.mem_of_getElem? h3, h4⟩
theorem FrX.trans (h : FrX lo w0 N N1 w1) (k : FrX lo w1 N1 g w) : FrX lo w0 N g w := by
  have hs := h.size
  refine ⟨k.os.trans h.os, k.tape.trans h.tape, k.output.trans h.output, Nat.le_trans h.size k.size, fun b hb hl hn => (k.block b (by omega) hl (fun hh => hn (h.back hb hh))).trans (h.block b hb hl hn), fun i x hx hxo => ?_, fun i r b hr hrb => ?_, fun b hb hl hn o => (k.ro b (by omega) hl (fun hh => hn (h.back hb hh)) o).trans (h.ro b hb hl hn o), h.le.trans k.le⟩
  · rcases k.bx i x hx hxo with h1 | ⟨y, h1, h2, h3⟩
    · exact .inl (by omega)
    · rw [← h3]; exact h.bx i y h1 h2
  · rcases k.rw i r b hr hrb with h1 | ⟨s, h1, h2⟩
    · exact .inl (by omega)
    · exact h.rw i s b h1 h2
theorem Inv.self {bx : List (Ty × AV)} {fz : List Nat} {rw : List (TypeId × Nat)} (HI : Inv P w0 N g bx fz rw w) : Inv P w g g bx fz rw w :=
  ⟨HI.mem, ⟨Kept.refl _ _, fun i x hx hxo => .inr ⟨x, hx, hxo, rfl⟩, fun i r k hr hrk => .inr ⟨r, hr, hrk⟩, fun _ _ _ _ => rfl, Gh.le.refl _⟩, HI.br, HI.fz, HI.wr, HI.wz⟩
theorem XOk.step {x : XR} (h : XOk lo N1 w1 x) {bx : List (Ty × AV)} {fz : List Nat} {rw : List (TypeId × Nat)} (HI : Inv P w1 N1 g bx fz rw w) : XOk lo g w x := by
  have hB := FrX.of HI.fr w1.heap.size
  refine ⟨h.le, h.nil, fun b hb => ?_⟩
  obtain ⟨h1, h2, h3, h4⟩ := h.own b hb
  exact ⟨fun hh => h1 (hB.back h3.lt hh), h2, h3.kept HI.fr.kept h1, fun o u ho hu => HI.fr.le.ro _ _ _ (h4 o u ho hu)⟩
theorem Xs.step (h : Xs lo N1 w1 X) {bx : List (Ty × AV)} {fz : List Nat} {rw : List (TypeId × Nat)} (HI : Inv P w1 N1 g bx fz rw w) : Xs lo g w X := ⟨fun x hx => (h.ok x hx).step HI, h.un⟩
/-- A frame, and rows on their own. -/
def RelX (lo : Nat) (P : Program) (w0 : World) (N : Gh) (nt : Nat) (st : St) (X : List XR) (a : Act) (w : World) : Prop :=
  ∃ g, Inv P w g g st.bx st.fz st.rw w ∧ FrX lo w0 N g w ∧ FR g nt st a ∧ Xs lo g w X
theorem Rel.toX (H : Rel P w0 N nt st a w) (lo : Nat) : RelX lo P w0 N nt st [] a w := by
  obtain ⟨g, HI, hF⟩ := H
  exact ⟨g, HI.self, .of HI.fr lo, hF, ⟨fun x hx => (by cases hx), List.Pairwise.nil⟩⟩
theorem RelX.open_ (H : RelX lo P w0 N nt st X a w) : ∃ N1, FrX lo w0 N N1 w ∧ Xs lo N1 w X ∧ Rel P w N1 nt st a w ∧ N1.bx.length = st.bx.length ∧ N1.rw.length = st.rw.length := by
  obtain ⟨g, HI, hB, hF, hX⟩ := H
  exact ⟨g, hB, hX, ⟨g, HI, hF⟩, HI.br.len, by rw [← HI.wr, List.length_map]⟩
theorem RelX.close (hB : FrX lo w0 N N1 w1) (hX : Xs lo N1 w1 X) (H : Rel P w1 N1 nt st a w) : RelX lo P w0 N nt st X a w := by
  obtain ⟨g, HI, hF⟩ := H
  exact ⟨g, HI.self, hB.trans (.of HI.fr lo), hF, hX.step HI⟩
theorem RelX.eq (H : RelX lo P w0 N nt st X a w) (h : X = Y) : RelX lo P w0 N nt st Y a w := h ▸ H
/-- Rows on their own are seen as bytes. -/
inductive SeeX (X : List XR) : AV → AV → Prop
  | refl (x : AV) : SeeX X x x
  | pub (x : XR) (l : List UInt8) (h : x ∈ X) (hk : l.length ≤ x.k) (hn : x.n = l.length) (hc : x.cells.take l.length = l.map B8) : SeeX X (.v x.v) (.bs l none)
  | pubc (x : XR) (full : List UInt8) (h : x ∈ X) (hk : full.length ≤ x.k) (hc : x.c = full.length) (hs : x.cells = full.map B8) : SeeX X (.v x.v) (.bc full x.n none)
  | bs (l : List UInt8) (tok : Option Nat) : SeeX X (.bs l tok) (.bs l none)
  | bc (full l : List UInt8) (n : Nat) (tok : Option Nat) (h : full.take n = l) : SeeX X (.bc full n tok) (.bs l none)
  | nil : SeeX X (.v (.slice none 0 0)) (.bs [] none)
  | st {fs fs' : List AV} (hl : fs.length = fs'.length) (h : ∀ i (h1 : i < fs.length) (h2 : i < fs'.length), SeeX X fs[i] fs'[i]) : SeeX X (.st fs) (.st fs')
  | sl {T : Ty} {es es' : List AV} {tok : Option Nat} (hl : es.length = es'.length) (h : ∀ i (h1 : i < es.length) (h2 : i < es'.length), SeeX X es[i] es'[i]) : SeeX X (.sl T es tok) (.sl T es' none)
  | slc {T : Ty} {es es' : List AV} {n : Nat} (hl : es.length = es'.length) (h : ∀ i (h1 : i < es.length) (h2 : i < es'.length), SeeX X es[i] es'[i]) : SeeX X (.slc T es n) (.slc T es' n)
theorem SeeX.not {x y : AV} (h : SeeX X x y) : (x = .any → y = .any) ∧ (∀ az, x = .tup az → y = .tup az) := by
  cases h <;> exact ⟨fun e => (by first | exact e | cases e), fun az e => (by first | exact e | cases e)⟩
/-- A contract that hands out rows on their own. -/
def PostX (P : Program) (w0 : World) (N : Gh) (R : List XR → List (Ty × AV) → List (TypeId × Nat) → AV → Prop) (e : Ending) (w' : World) : Prop :=
  ∃ X bx' rw' res g v, R X bx' rw' res ∧ e = .returned v ∧ Inv P w0 N g bx' [] rw' w' ∧ RV g res v ∧ Xs w0.heap.size g w' X
def VE (P : Program) (f : FuncId) (args : List AV) (R : List XR → List (Ty × AV) → List (TypeId × Nat) → AV → Prop) : Prop :=
  Fok P f ∧ ∀ (w : World) (N : Gh) (vs : List Value), Inv P w N N [] [] [] w → vs.length = args.length → (∀ (i : Nat) x v, args[i]? = some x → vs[i]? = some v → RV N x v) → Calls P f vs.toArray w (PostX P w N R)

end
end Go.Proofs.YtgffimanhmpohaaGreat
/- slices.Reverse of slices, in memory that may be written. -/
namespace Go.Proofs.YtgffimanhmpohaaGreat
open Go Go.RowKit
end Go.Proofs.YtgffimanhmpohaaGreat
/- A list of slices written out into what grows; do lists share memory that are on their own? -/
namespace Go.Proofs.YtgffimanhmpohaaGreat
open Go Go.RowKit
section
variable {P : Program} {τ : Tab} {w0 w w1 w2 : World} {N N1 N2 : Gh} {g g1 gS : Gh} {st st' sq sq' : St} {nt : Nat} {a : Act} {lo : Nat} {X Y : List XR}
/-- Bytes, with their room. -/
def XW (x : XR) : Prop := ∃ l sp : List UInt8, x.cells = (l ++ sp).map B8 ∧ x.n = l.length ∧ x.c = l.length + sp.length
end
end Go.Proofs.YtgffimanhmpohaaGreat
/- A growing array that a field points to is turned to stay as it is. -/
namespace Go.Proofs.YtgffimanhmpohaaGreat
open Go Go.RowKit
section
variable {P : Program} {w0 w : World} {N : Gh} {g : Gh} {st : St} {nt : Nat} {a : Act}
end
end Go.Proofs.YtgffimanhmpohaaGreat
/- Slices on their own, in regions that draw their order. -/
namespace Go.Proofs.YtgffimanhmpohaaGreat
open Go Go.RowKit
theorem FrX.refl (lo : Nat) (w : World) (N : Gh) : FrX lo w N N w := .of ⟨Kept.refl _ _, fun i x hx hxo => .inr ⟨x, hx, hxo, rfl⟩, fun i r k hr hrk => .inr ⟨r, hr, hrk⟩, fun _ _ _ _ => rfl, Gh.le.refl _⟩ lo
theorem Xs.nil (lo : Nat) (N : Gh) (w : World) : Xs lo N w [] := ⟨fun x hx => (by cases hx), List.Pairwise.nil⟩
/-- A slice on its own that holds bytes. -/
def XB (x : XR) (l : List UInt8) : Prop := x.n = l.length ∧ x.tid = 5 ∧ x.k = l.length ∧ ∃ m, x.c = l.length + m ∧ x.cells = l.map B8 ++ (List.replicate m (zeroOf Tryz.prog 5)).flatten
def XL (X : List XR) (ls : List (List UInt8)) : Prop := X.length = ls.length ∧ ∀ i (h1 : i < X.length) (h2 : i < ls.length), XB X[i] ls[i]
theorem XL.nil : XL [] [] := ⟨rfl, fun i h => (by cases h)⟩
theorem XB.w {x : XR} {l : List UInt8} (h : XB x l) : XW x := by
  obtain ⟨h1, _, _, m, h3, h4⟩ := h
  refine ⟨l, List.replicate m 0, ?_, h1, by rw [List.length_replicate]; exact h3⟩
  rw [h4, zero_u8, flat_z, List.map_append]
theorem VE.mono {P : Program} {f : FuncId} {args : List AV} {R R2 : List XR → List (Ty × AV) → List (TypeId × Nat) → AV → Prop} (h : VE P f args R) (hR : ∀ X bx rw res, R X bx rw res → R2 X bx rw res) : VE P f args R2 :=
  ⟨h.1, fun w N vs a b c => (h.2 w N vs a b c).mono fun e w' hp => by
    obtain ⟨X, bx', rw', res, g, v, h1, h2⟩ := hp
    exact ⟨X, bx', rw', res, g, v, hR _ _ _ _ h1, h2⟩⟩
theorem RelX.rel {P : Program} {w0 w : World} {N : Gh} {nt : Nat} {st : St} {X : List XR} {a : Act} (H : RelX w0.heap.size P w0 N nt st X a w) : Rel P w0 N nt st a w := by
  obtain ⟨g, HI, hB, hF, _⟩ := H
  exact ⟨g, ⟨HI.mem, hB.fr (Nat.le_refl _), HI.br, HI.fz, HI.wr, HI.wz⟩, hF⟩
section
variable {P : Program} {τ : Tab} {w0 w w1 w2 : World} {N N1 N2 : Gh} {g g1 gS : Gh} {st st' sq sq' : St} {nt : Nat} {a : Act} {lo : Nat} {X Y : List XR}
def RelXT (lo : Nat) (P : Program) (w0 : World) (N : Gh) (nt : Nat) (gS : Gh) (sq st : St) (X : List XR) (a : Act) (w : World) : Prop :=
  Mem gS w ∧ gS.rw = [] ∧ FR gS nt sq a ∧ BR gS sq.bx ∧ ∃ g, Inv P w g g st.bx st.fz st.rw w ∧ FrX lo w0 N g w ∧ FR g nt st a ∧ gS.le g ∧ Bs gS g ∧ Xs lo g w X
theorem RelXT.open_ (H : RelXT lo P w0 N nt gS sq st X a w) : ∃ N1, FrX lo w0 N N1 w ∧ Xs lo N1 w X ∧ RelT P w N1 nt gS sq st a w ∧ N1.bx.length = st.bx.length ∧ N1.rw.length = st.rw.length := by
  obtain ⟨hM, hrw, hFq, hBq, g, HI, hB, hF, hle, hbs, hX⟩ := H
  exact ⟨g, hB, hX, ⟨hM, hrw, hFq, hBq, g, HI, hF, hle, hbs⟩, HI.br.len, by rw [← HI.wr, List.length_map]⟩
theorem RelXT.close (hB : FrX lo w0 N N1 w1) (hX : Xs lo N1 w1 X) (H : RelT P w1 N1 nt gS sq st a w) : RelXT lo P w0 N nt gS sq st X a w := by
  obtain ⟨hM, hrw, hFq, hBq, g, HI, hF, hle, hbs⟩ := H
  exact ⟨hM, hrw, hFq, hBq, g, HI.self, hB.trans (.of HI.fr lo), hF, hle, hbs, hX.step HI⟩
/-- Slots, boxes and rows are forgotten. -/
theorem RelX.to (H : RelX w0.heap.size P w0 N nt st X a w) (nb nr : Nat) (hM : N.bx.length ≤ nb ∧ N.rw.length ≤ nr) {t2 : List (Nat × Gd × AV)} {bx2 : List (Ty × AV)} {rw2 : List (TypeId × Nat)} {fz2 : List Nat} (hs : SubT t2 st.t) (hb : st.bx.take nb = bx2) (hr : st.rw.take nr = rw2) (hf : st.fz = fz2) (h1 : t2.all (fun p => low nb nr 4 p.2.2) = true) (h2 : bx2.all (fun x => low nb nr 4 x.2) = true) :
    RelX w0.heap.size P w0 N nt ⟨t2, bx2, fz2, rw2⟩ X a w := by
  subst hb hr hf
  obtain ⟨g, HI, hB, hF, hX⟩ := H
  have HI0 : Inv P w0 N g st.bx st.fz st.rw w := ⟨HI.mem, hB.fr (Nat.le_refl _), HI.br, HI.fz, HI.wr, HI.wz⟩
  have I1 := HI0.cut hM.1 hM.2 h2
  refine ⟨g.cut nb nr, I1.self, .of I1.fr _, ⟨hF.sz, hF.df, fun p hp hg => (hF.t p (hs.mem hp) hg).low_ (d := 3) (List.all_eq_true.1 h1 p hp), fun p hp hg => hF.u p (hs.mem hp) hg⟩, ⟨fun x hx => ?_, hX.un⟩⟩
  have h := hX.ok x hx
  refine ⟨h.le, h.nil, fun b hb => ⟨fun hh => (h.own b hb).1 ?_, (h.own b hb).2⟩⟩
  rcases hh with ⟨y, hy, h⟩ | ⟨s, hs, h⟩
  · exact .inl ⟨y, List.mem_of_mem_take hy, h⟩
  · exact .inr ⟨s, List.mem_of_mem_take hs, h⟩
end
end Go.Proofs.YtgffimanhmpohaaGreat
/- Pointers whose raw value is known. -/
namespace Go.Proofs.YtgffimanhmpohaaGreat
open Go Go.RowKit
/-- The raw value of a pointer into a box that was there. -/
def PtrU (N : Gh) (i : Nat) (path : List Nat) (u : Value) : Prop := ∃ (x : Bx) (o : Nat) (T : Ty), N.bx[i]? = some x ∧ x.ty.isVc = false ∧ x.ty.loc path = some (o, T) ∧ u = .pointer (some ⟨x.blk, o, none⟩)
section
variable {P : Program} {w0 w : World} {N g : Gh} {st : St} {nt : Nat} {a : Act} {i : Nat} {path : List Nat} {u : Value}
theorem PtrU.rc (hu : PtrU N i path u) (hl : N.le g) : RC g .sc (.ptr i path) [u] := by
  obtain ⟨x, o, T, h1, h2, h3, rfl⟩ := hu
  obtain ⟨x', h4, e1, _, e2⟩ := hl.bx i x h1
  rw [← (e2 (.inr h2)).1]
  exact .ptr h4 (by rw [e1]; exact h3)
theorem v_ptrU (hu : PtrU N i path u) (H : Rel P w0 N nt st a w) (d : Nat) (hd : find d st.t = some (none, .v u)) : Rel P w0 N nt ⟨nilT d (.ptr i path) st.t, st.bx, st.fz, st.rw⟩ a w := by
  obtain ⟨g, HI, hF⟩ := H
  refine ⟨g, HI, hF.sz, hF.df, fun p hp hg => ?_, fun p hp hg => by rcases nilT_mem hp with h | h; (subst h; exact absurd trivial hg); exact hF.u p h hg⟩
  rcases nilT_mem hp with h | h
  · subst h
    have hv := hF.t _ (find_mem hd) trivial
    have e : a.tmps.getD d undef = u := hv.v_inv
    show RV g (.ptr i path) (a.tmps.getD d undef)
    rw [e]
    exact (hu.rc HI.fr.le).rv1
  · exact hF.t p h hg
theorem v_ptrV (H : Rel P w0 N nt st a w) (d : Nat) {T : Ty} {x : AV} (hN : i < N.bx.length) (hb : st.bx[i]? = some (T, x)) (hT : T.isVc = false) (hd : find d st.t = some (none, .ptr i path)) : ∃ u, PtrU N i path u ∧ Rel P w0 N nt ⟨nilT d (.v u) st.t, st.bx, st.fz, st.rw⟩ a w := by
  obtain ⟨g, HI, hF⟩ := H
  have hv := (hF.t _ (find_mem hd) trivial).ptr_inv
  obtain ⟨_, y, o, T', hy, hl, he⟩ := hv.ptr_inv
  obtain ⟨y', hy', hyT, _⟩ := HI.br.at_ i _ _ hb
  rw [hy] at hy'; injection hy' with hy'; subst hy'
  obtain ⟨z, hz⟩ : ∃ z, N.bx[i]? = some z := ⟨N.bx[i], List.getElem?_eq_getElem hN⟩
  obtain ⟨z', h4, e1, _, e2⟩ := HI.fr.le.bx i z hz
  rw [hy] at h4; injection h4 with h4; subst h4
  have hzT : z.ty.isVc = false := by rw [← e1, hyT]; exact hT
  injection he with he
  refine ⟨a.tmps.getD d undef, ⟨z, o, T', hz, hzT, by rw [← e1]; exact hl, by rw [he, (e2 (.inr hzT)).1]⟩, g, HI, hF.sz, hF.df, fun p hp hg => ?_, fun p hp hg => by rcases nilT_mem hp with h | h; (subst h; exact absurd trivial hg); exact hF.u p h hg⟩
  rcases nilT_mem hp with h | h
  · subst h
    show RV g (.v _) (a.tmps.getD d undef)
    rw [he]; exact RV.v_of rfl
  · exact hF.t p h hg
/-- What a box holds is seen otherwise. -/
theorem v_subB (H : Rel P w0 N nt st a w) (j : Nat) {T : Ty} {x y : AV} (hj : st.bx[j]? = some (T, x)) (hs : sub 4 x y) (hT : T.grows = false := by rfl) : Rel P w0 N nt ⟨st.t, st.bx.set j (T, y), st.fz, st.rw⟩ a w := by
  obtain ⟨g, HI, hF⟩ := H
  obtain ⟨xj, hxj, hxT, hbj⟩ := HI.br.at_ j _ _ hj
  obtain ⟨hjo, hjm, hrc⟩ := hbj.rc hT
  have h2 := hrc.sub_ hs
  subst hxT
  exact ⟨g, HI.re hxj (BC.pl h2 hjo hjm), hF.sz, hF.df, fun p hp hg => hF.t p hp hg, fun p hp hg => hF.u p hp hg⟩
end
end Go.Proofs.YtgffimanhmpohaaGreat
/- A store: an inner node of two sides. -/
namespace Go.Proofs.YtgffimanhmpohaaGreat
open Go Go.RowKit
/-- A side of an inner node that is made. -/
def Slb.side (s : Slb) (h : Int) : SN := if h = 0 then SN.zero else s.get_ h
theorem Slb.side_wf {s : Slb} (hs : s.wf) (h : Int) : (s.side h).wf := by unfold Slb.side; split; exact SN.zero_wf; exact Slb.get_wf hs h
def inN (dg : List UInt8) (d : Nat) (key : List UInt8) (l r : Int) (sz : Int) (hd : Int) : SN := ⟨dg, 2, (d : Int), key, [], List.replicate 32 0, l, r, sz, hd⟩
def Slb.newIn (s : Slb) (d : Nat) (l r : Int) : SN := inN (innerH (s.dig l) (s.dig r)) d (fillL (if l = 0 then (s.side r).key else (s.side l).key) d false) l r ((s.side l).sz + (s.side r).sz) 1
abbrev innT : Ty := .cn .sc (.cn .sc .nl)
theorem cutG7 {B R : Act → World → Prop} {G : Prop} (h : (∀ a w, R a w → B a w) → G) (k : ∀ a w, R a w → B a w) : G := h k
theorem zNd_sub : sub 4 zNd SN.zero.av := ⟨⟨rfl, trivial⟩, rfl, rfl, rfl, rfl, rfl, rfl, rfl, rfl, rfl, trivial⟩
attribute [local irreducible] wpT
set_option maxRecDepth 20000 in
set_option maxHeartbeats 8000000 in
theorem stoInner_v (s : Slb) (hs : s.wf) (d : Nat) (hd : d ≤ 255) (l r : Int) (hl : l ≠ 0 → s.ok_ l = true ∧ (s.get_ l).hd ≠ 0) (hr : r ≠ 0 → s.ok_ r = true ∧ (s.get_ r).hd ≠ 0)
    (hfit : fitsB d l r (s.side l) (s.side r) = true) (hm : s.m = 0) (hu : s.used < s.room) (hln : s.sl.length < 65536) (hsz : 0 ≤ (s.side l).sz ∧ (s.side l).sz ≤ 1000000 ∧ 0 ≤ (s.side r).sz ∧ (s.side r).sz ≤ 1000000)
    (s3 : Slb) (hc1 : VX Tryz.prog 56 (s.push (s.newIn d l r)).sx [] [] [.ptr 0 [], .v (.int .i64 l), .v (.int .i64 (-1))] ((s.push (s.newIn d l r)).call_ l (-1)).sx [] [] (.tup []))
    (hc2 : VX Tryz.prog 56 ((s.push (s.newIn d l r)).call_ l (-1)).sx [] [] [.ptr 0 [], .v (.int .i64 r), .v (.int .i64 (-1))] s3.sx [] [] (.tup [])) :
    VX Tryz.prog 36 s.sx [] [] [.ptr 0 [], .v (.int .i64 (d : Int)), .v (.int .i64 l), .v (.int .i64 r)] s3.sx [] [] (.tup [.v (.int .i64 ((s.sl.length : Int) + 1)), errv 0]) := by
  have hn := stoNone_v s.γ s.δ s.sl.length s.m s.room s.used (s.sl.map slA) (s.fs.map inA)
  have hg1 := stoGet_v s hs l
  have hg2 := stoGet_v s hs r
  have hw1 := Slb.side_wf hs l
  have hw2 := Slb.side_wf hs r
  have hf := stoFits_v (s.side l) (s.side r) hw1 hw2 d (by omega) l r
  rw [hfit] at hf
  have hD1 := stoDigest_v s hs l
  have hD2 := stoDigest_v s hs r
  have hdl1 := Slb.dig_len hs l
  have hdl2 := Slb.dig_len hs r
  have hin := inner_v (s.dig l) (s.dig r) hdl1 hdl2
  have hil := innerH_len (s.dig l) (s.dig r)
  have hkl : (if l = 0 then (s.side r).key else (s.side l).key).length = 32 := by split; exact hw2.key; exact hw1.key
  have hfi := first_v (if l = 0 then (s.side r).key else (s.side l).key) hkl d (by omega)
  have hfl := fillL_len (if l = 0 then (s.side r).key else (s.side l).key) d false
  have hpu := slbPush_v s hs hm hu (s.newIn d l r) ⟨hil, hfl, List.length_replicate⟩ hln
  have hz2 : (List.replicate 32 (0 : UInt8)).length = 32 := List.length_replicate
  have hsl : l ≠ 0 → s.side l = s.get_ l := fun h => by unfold Slb.side; rw [if_neg h]
  have hsr : r ≠ 0 → s.side r = s.get_ r := fun h => by unfold Slb.side; rw [if_neg h]
  have hzl : l = 0 → s.side l = SN.zero := fun h => by unfold Slb.side; rw [if_pos h]
  have hzr : r = 0 → s.side r = SN.zero := fun h => by unfold Slb.side; rw [if_pos h]
  have d1 : decide ((d : Int) < 0) = false := decide_eq_false (by omega)
  have d2 : decide ((255 : Int) < (d : Int)) = false := decide_eq_false (by omega)
  generalize (s.push (s.newIn d l r)).call_ l (-1) = s2 at *
  unfold Slb.newIn at hpu hc1
  generalize hkk : (if l = 0 then (s.side r).key else (s.side l).key) = kk at *
  generalize fillL kk d false = fk at *
  generalize innerH (s.dig l) (s.dig r) = ih at *
  generalize s.dig l = da at *
  generalize s.dig r = db at *
  generalize hLe : s.side l = L at *
  generalize hRe : s.side r = R at *
  generalize s.push (inN ih d fk l r (L.sz + R.sz) 1) = s1 at *
  simp only [Slb.bx, SN.av, inN] at hpu
  simp only [Slb.sx] at hg1 hg2 hD1 hD2 hc1 hc2 ⊢
  generalize s.sl.map slA = es at *
  generalize s.fs.map inA = fs at *
  have hLA : L.av = .st [.st [.ba L.dg], .v (B8 L.k), .v (.int .i64 L.d), .ba L.key, .bs L.val none, .ba L.hs, .v (.int .i64 L.l), .v (.int .i64 L.r), .v (.int .i64 L.sz), .v (.int .i64 L.hd)] := rfl
  have hRA : R.av = .st [.st [.ba R.dg], .v (B8 R.k), .v (.int .i64 R.d), .ba R.key, .bs R.val none, .ba R.hs, .v (.int .i64 R.l), .v (.int .i64 R.r), .v (.int .i64 R.sz), .v (.int .i64 R.hd)] := rfl
  have hZA : SN.zero.av = .st [.st [.ba (List.replicate 32 0)], .v (.int .u8 0), .v (.int .i64 0), .ba (List.replicate 32 0), .bs [] none, .ba (List.replicate 32 0), .v (.int .i64 0), .v (.int .i64 0), .v (.int .i64 0), .v (.int .i64 0)] := rfl
  obtain ⟨x1, x2, x3⟩ := id hw1
  obtain ⟨y1, y2, y3⟩ := id hw2
  refine mE Tryz.func36 ?_; intro N w0 a w hN hR H
  have hM : N.bx.length ≤ 4 ∧ N.rw.length ≤ 0 := ⟨Nat.le_trans hN (Nat.le_of_ble_eq_true rfl), hR⟩
  have hX := And.intro @d1 (And.intro @d2 (@hz2))
  refine mW ?_; clear H; intro a w H
  refine mCall [0, 1, 2, 3] [] (hn) H ?_; clear H; intro a w H; try refine wpList_nil ?_
  refine mW ?_; clear H; intro a w H
  refine mC H (fun hb => ?_) (fun hb => ?_)
  · exact absurd hb (by decide)
  · clear hb
    refine mW ?_; clear H; intro a w H
    refine mC H (fun hb => ?_) (fun hb => ?_)
    · exact absurd hb (by decide)
    · clear hb
      refine mS ?_
      replace H := mK [0, 1, 2, 3, 8, 9] 4 0 hN hR H
      (try refine wp_region_lit ?_); refine mN 6 hN H ?_; clear H; intro a w H
      refine wpList_nil ?_
      replace H := v_subB H 4 (y := SN.zero.av) rfl zNd_sub
      simp only [List.set_cons_succ, List.set_cons_zero] at H
      replace H := v_subB H 5 (y := SN.zero.av) rfl zNd_sub
      simp only [List.set_cons_succ, List.set_cons_zero] at H
      replace H := mK [0, 1, 2, 3, 8, 9, 10, 11] 6 0 hN hR H
      replace H := H.toX w0.heap.size
      clear hN hR
      obtain ⟨N1, hB, hZ, H, hN1, hR1⟩ := H.open_
      have hN : N1.bx.length ≤ 6 := Nat.le_of_eq hN1
      have hR : N1.rw.length ≤ 0 := Nat.le_of_eq hR1
      have hN6 : N1.bx.length = 6 := hN1
      clear hN1 hR1
      obtain ⟨u4, hu4, H⟩ := v_ptrV H 10 (i := 4) (path := []) (by omega) rfl rfl rfl
      obtain ⟨u5, hu5, H⟩ := v_ptrV H 11 (i := 5) (path := []) (by omega) rfl rfl rfl
      simp only [nilT, reduceIte, Nat.reduceEqDiff] at H
      have e4 : ∃ b o, u4 = .pointer (some ⟨b, o, none⟩) := by obtain ⟨x, o, _, _, _, _, e⟩ := hu4; exact ⟨_, _, e⟩
      have e5 : ∃ b o, u5 = .pointer (some ⟨b, o, none⟩) := by obtain ⟨x, o, _, _, _, _, e⟩ := hu5; exact ⟨_, _, e⟩
      obtain ⟨b4, o4, rfl⟩ := e4
      obtain ⟨b5, o5, rfl⟩ := e5
      refine mS ?_
      (try refine wp_region_lit ?_); refine mN 7 hN H ?_; clear H; intro a w H
      refine wpList_nil ?_
      replace H := v_sub H 33 (x := .sl innT [.st [.v (.int .i64 l), .v (.pointer (some ⟨b4, o4, none⟩))], .st [.v (.int .i64 r), .v (.pointer (some ⟨b5, o5, none⟩))]] (some 0)) (y := .sl innT [.st [.v (.int .i64 l), .v (.pointer (some ⟨b4, o4, none⟩))], .st [.v (.int .i64 r), .v (.pointer (some ⟨b5, o5, none⟩))]] none) ⟨rfl, rfl⟩ rfl (fun az h => by cases h) rfl
      simp only [nilT, reduceIte, Nat.reduceEqDiff] at H
      replace H := mK [0, 1, 2, 3, 8, 9, 10, 11, 33, 34, 35] 6 0 hN hR H
      refine mS ?_
      refine v_loop (fun i : Nat => ⟨[(35, none, .v (.int .i64 (i : Int))), (34, none, .v (.int .i64 2)), (33, none, .sl innT [.st [.v (.int .i64 l), .v (.pointer (some ⟨b4, o4, none⟩))], .st [.v (.int .i64 r), .v (.pointer (some ⟨b5, o5, none⟩))]] none), (11, none, .v (.pointer (some ⟨b5, o5, none⟩))), (10, none, .v (.pointer (some ⟨b4, o4, none⟩))), (9, none, .v (.int .i64 0)), (8, none, .v (.int .i64 0)), (0, none, .ptr 0 []), (1, none, .v (.int .i64 (d : Int))), (2, none, .v (.int .i64 l)), (3, none, .v (.int .i64 r))],
        [(stoT, .st [.ptr 1 []]), (slbT, .st [.vw 2 s.γ s.sl.length, .vw 3 s.δ s.m, .v (.int .i64 (s.room : Int)), .v (.int .i64 (s.used : Int))]), (.vc 148 sltT, .vc s.γ es), (.vc 3 .sc, .vc s.δ fs), (sndT, (if i = 0 then SN.zero else L).av), (sndT, (if i ≤ 1 then SN.zero else R).av)], [], []⟩) (fun i => i ≤ 2) (fun i => 2 - i) 0 (by omega)
        (H.to 6 0 ⟨hN, hR⟩ ⟨rfl, rfl, rfl, rfl, rfl, rfl, rfl, rfl, rfl, rfl, rfl, trivial⟩ rfl rfl rfl rfl rfl) ?_
      clear H
      intro i a w hi H
      have hgt0 : ([.st [.v (.int .i64 l), .v (.pointer (some ⟨b4, o4, none⟩))], .st [.v (.int .i64 r), .v (.pointer (some ⟨b5, o5, none⟩))]] : List AV).getD 0 .any = .st [.v (.int .i64 l), .v (.pointer (some ⟨b4, o4, none⟩))] := rfl
      have hgt1 : ([.st [.v (.int .i64 l), .v (.pointer (some ⟨b4, o4, none⟩))], .st [.v (.int .i64 r), .v (.pointer (some ⟨b5, o5, none⟩))]] : List AV).getD 1 .any = .st [.v (.int .i64 r), .v (.pointer (some ⟨b5, o5, none⟩))] := rfl
      refine mW ?_; clear H; intro a w H
      refine mC H (fun hb => ?_) (fun hb => ?_)
      · have hlt : i < 2 := by
          have : decide ((i : Int) < 2) = true := hb
          rw [decide_eq_true_eq] at this; omega
        clear hb
        match i, hlt with
        | 0, _ =>
          rw [if_pos rfl, if_pos (by decide)] at H
          by_cases h0 : l = 0
          · have dh : decide (l = 0) = true := decide_eq_true h0
            refine mS ?_
            clear hX; have hX := And.intro @dh (@hgt0)
            (try refine wp_region_lit ?_); refine mN 1 hN H ?_; clear H; intro a w H
            refine mW ?_; clear H; intro a w H
            refine mC H (fun hb => ?_) (fun hb => ?_)
            · clear hb
              refine mW ?_; clear H; intro a w H
              have hz := hzl h0
              subst hz
              exact ⟨1, by omega, by omega, H.to 6 0 ⟨hN, hR⟩ ⟨rfl, rfl, rfl, rfl, rfl, rfl, rfl, rfl, rfl, rfl, rfl, trivial⟩ rfl rfl rfl rfl rfl⟩
            · exact absurd hb (by decide)
          · have dh : decide (l = 0) = false := decide_eq_false h0
            obtain ⟨g1, g2⟩ := hl h0
            have dk : decide (L.hd = 0) = false := by rw [hsl h0]; exact decide_eq_false g2
            have hg := hg1
            rw [g1, ← hsl h0, hLA] at hg
            refine mS ?_
            clear hX; have hX := And.intro @dh (And.intro @hgt0 (And.intro @dk (And.intro @x1 (And.intro @x2 (@x3)))))
            (try refine wp_region_lit ?_); refine mN 1 hN H ?_; clear H; intro a w H
            refine mW ?_; clear H; intro a w H
            refine mC H (fun hb => ?_) (fun hb => ?_)
            · exact absurd hb (by decide)
            · clear hb
              refine mW ?_; clear H; intro a w H
              refine mCall [0, 1, 2, 3] [] (hg) H ?_; clear H; intro a w H; try refine wpList_nil ?_
              refine mW ?_; clear H; intro a w H
              refine mC H (fun hb => ?_) (fun hb => ?_)
              · exact absurd hb (by decide)
              · clear hb
                refine mS ?_
                (try refine wp_region_lit ?_); refine mN 2 hN H ?_; clear H; intro a w H
                replace H := v_ptrU hu4 H 57 rfl
                simp only [nilT, reduceIte, Nat.reduceEqDiff] at H
                refine mW ?_; clear H; intro a w H
                exact ⟨1, by omega, by omega, H.to 6 0 ⟨hN, hR⟩ ⟨rfl, rfl, rfl, rfl, rfl, rfl, rfl, rfl, rfl, rfl, rfl, trivial⟩ rfl rfl rfl rfl rfl⟩
        | 1, _ =>
          rw [if_neg (by decide), if_pos (by decide)] at H
          by_cases h0 : r = 0
          · have dh : decide (r = 0) = true := decide_eq_true h0
            refine mS ?_
            clear hX; have hX := And.intro @dh (@hgt1)
            (try refine wp_region_lit ?_); refine mN 1 hN H ?_; clear H; intro a w H
            refine mW ?_; clear H; intro a w H
            refine mC H (fun hb => ?_) (fun hb => ?_)
            · clear hb
              refine mW ?_; clear H; intro a w H
              have hz := hzr h0
              subst hz
              exact ⟨2, by omega, by omega, H.to 6 0 ⟨hN, hR⟩ ⟨rfl, rfl, rfl, rfl, rfl, rfl, rfl, rfl, rfl, rfl, rfl, trivial⟩ rfl rfl rfl rfl rfl⟩
            · exact absurd hb (by decide)
          · have dh : decide (r = 0) = false := decide_eq_false h0
            obtain ⟨g1, g2⟩ := hr h0
            have dk : decide (R.hd = 0) = false := by rw [hsr h0]; exact decide_eq_false g2
            have hg := hg2
            rw [g1, ← hsr h0, hRA] at hg
            refine mS ?_
            clear hX; have hX := And.intro @dh (And.intro @hgt1 (And.intro @dk (And.intro @y1 (And.intro @y2 (@y3)))))
            (try refine wp_region_lit ?_); refine mN 1 hN H ?_; clear H; intro a w H
            refine mW ?_; clear H; intro a w H
            refine mC H (fun hb => ?_) (fun hb => ?_)
            · exact absurd hb (by decide)
            · clear hb
              refine mW ?_; clear H; intro a w H
              refine mCall [0, 1, 2, 3] [] (hg) H ?_; clear H; intro a w H; try refine wpList_nil ?_
              refine mW ?_; clear H; intro a w H
              refine mC H (fun hb => ?_) (fun hb => ?_)
              · exact absurd hb (by decide)
              · clear hb
                refine mS ?_
                (try refine wp_region_lit ?_); refine mN 2 hN H ?_; clear H; intro a w H
                replace H := v_ptrU hu5 H 57 rfl
                simp only [nilT, reduceIte, Nat.reduceEqDiff] at H
                refine mW ?_; clear H; intro a w H
                exact ⟨2, by omega, by omega, H.to 6 0 ⟨hN, hR⟩ ⟨rfl, rfl, rfl, rfl, rfl, rfl, rfl, rfl, rfl, rfl, rfl, trivial⟩ rfl rfl rfl rfl rfl⟩
      · have h2 : i = 2 := by
          have : decide ((i : Int) < 2) = false := hb
          rw [decide_eq_false_iff_not] at this; omega
        clear hb
        subst h2
        rw [if_neg (by decide), if_neg (by decide), hLA, hRA] at H
        rw [hLA, hRA] at hf
        replace H := v_ptrU hu4 H 10 rfl
        replace H := v_ptrU hu5 H 11 rfl
        simp only [nilT, reduceIte, Nat.reduceEqDiff] at H
        replace H := (RelX.close hB hZ H).rel
        clear hN hR hN6 hB hZ hu4 hu5 hgt0 hgt1
        have hN := hM.1
        have hR := hM.2
        refine mS ?_
        clear hX; have hX := And.intro @x1 (And.intro @x2 (And.intro @x3 (And.intro @y1 (And.intro @y2 (And.intro @y3 (And.intro @hz2 (And.intro @hkl (And.intro @hfl (And.intro @hdl1 (And.intro @hdl2 (@hil)))))))))))
        replace H := mK [0, 1, 2, 3, 8, 9, 10, 11] 6 0 hN hR H
        refine mW ?_; clear H; intro a w H
        refine mCall [] [] (hf) H ?_; clear H; intro a w H; try refine wpList_nil ?_
        refine mW ?_; clear H; intro a w H
        refine mC H (fun hb => ?_) (fun hb => ?_)
        · exact absurd hb (by decide)
        · clear hb
          refine mS ?_
          replace H := mK [0, 1, 2, 3, 8, 9, 10, 11] 6 0 hN hR H
          refine mW ?_; clear H; intro a w H
          revert a w
          apply cutG7 (R := fun a w => Rel Tryz.prog w0 N Tryz.f36.ntmps ⟨[(16, none, .ptr 6 []), (11, none, .ptr 5 []), (10, none, .ptr 4 []), (9, none, .v (.int .i64 0)), (8, none, .v (.int .i64 0)), (0, none, .ptr 0 []), (1, none, .v (.int .i64 (d : Int))), (2, none, .v (.int .i64 l)), (3, none, .v (.int .i64 r))],
            [(stoT, .st [.ptr 1 []]), (slbT, .st [.vw 2 s.γ s.sl.length, .vw 3 s.δ s.m, .v (.int .i64 (s.room : Int)), .v (.int .i64 (s.used : Int))]), (.vc 148 sltT, .vc s.γ es), (.vc 3 .sc, .vc s.δ fs), (sndT, L.av), (sndT, R.av), (.ba 32, .ba kk)], [], []⟩ a w)
          · intro key1 a w H
            refine mC H (fun hb => ?_) (fun hb => ?_)
            · rw [decide_eq_true_eq] at hb
              rw [if_pos hb] at hkk
              refine mS ?_
              (try refine wp_region_lit ?_); refine mN 3 hN H ?_; clear H; intro a w H
              refine wpList_nil ?_
              refine mS ?_
              exact key1 _ _ (H.to 7 0 ⟨Nat.le_trans hN (Nat.le_of_ble_eq_true rfl), hR⟩ ⟨rfl, rfl, rfl, rfl, rfl, rfl, rfl, rfl, rfl, trivial⟩ (by rw [← hkk]; rfl) rfl rfl rfl rfl)
            · rw [decide_eq_false_iff_not] at hb
              rw [if_neg hb] at hkk
              refine mS ?_
              exact key1 _ _ (H.to 7 0 ⟨Nat.le_trans hN (Nat.le_of_ble_eq_true rfl), hR⟩ ⟨rfl, rfl, rfl, rfl, rfl, rfl, rfl, rfl, rfl, trivial⟩ (by rw [← hkk]; rfl) rfl rfl rfl rfl)
          intro a w H
          rw [hLA, hRA] at H
          refine mW ?_; clear H; intro a w H
          refine mCall [] [] (hfi) H ?_; clear H; intro a w H; try refine wpList_nil ?_
          refine mW ?_; clear H; intro a w H
          refine mS ?_
          replace H := mK [0, 1, 2, 3, 8, 9, 10, 11, 16] 7 0 hN hR H
          replace H := v_ref H 10 4 hN rfl rfl rfl
          simp only [nilT, strip, List.map_cons, List.map_nil, reduceIte, Nat.reduceEqDiff] at H
          replace H := v_ref H 11 5 (Nat.le_trans hN (by decide)) rfl rfl rfl
          simp only [nilT, strip, List.map_cons, List.map_nil, reduceIte, Nat.reduceEqDiff] at H
          replace H := v_ref H 16 6 (Nat.le_trans hN (by decide)) rfl rfl rfl
          simp only [nilT, strip, List.map_cons, List.map_nil, reduceIte, Nat.reduceEqDiff] at H
          repeat (first | refine wp_seq ?_ | refine wp_block ?_)
          refine v_drawZ 0 [0, 1, 2, 4, 5, 7, 8, 12, 13, 14, 15, 16, 17, 18, 19, 20, 3, 6, 9, 10, 11, 21, 22, 23, 24, 25, 26, 27] [3, 6, 9, 10, 22] [0, 1, 2, 4, 5, 7, 8, 11, 12, 13, 14, 15, 16, 17, 18, 19, 20, 21] [(3, 6), (3, 9), (3, 10), (1009, 6), (1010, 6), (1010, 9)] (by kernel_rfl) (by kernel_rfl) (by kernel_rfl) (by kernel_rfl) (by kernel_rfl) H (by rfl) ?_; clear H; intro gS H; try replace H := ntf H
          repeat' ((first | refine wpZ_q1 rfl rfl ?_ | refine wpZ_l1 rfl rfl rfl ?_ | refine wpZ_l2 rfl rfl rfl rfl rfl ?_ ?_ | refine wpZ_l3 rfl rfl rfl rfl rfl rfl rfl ?_ ?_ ?_ | refine wpZ_l4 rfl rfl rfl rfl rfl rfl rfl rfl rfl ?_ ?_ ?_ ?_) <;> ((first | (refine wpT_at 6 ?_; refine mCallT [0, 1, 2, 3] [] (hD1) H ?_; clear H; intro a w H) | (refine wpT_at 9 ?_; refine mCallT [0, 1, 2, 3] [] (hD2) H ?_; clear H; intro a w H) | (refine wpT_at 10 ?_; refine mCallT [] [] (hin) H ?_; clear H; intro a w H) | (refine wpT_at 22 ?_; refine mCallT [1, 2, 3] [] (hpu) H ?_; clear H; intro a w H) | (refine v_someT 1 tab_ok hN H rfl ctX ?_; clear H; intro a w H; replace H := ntf H; simp only [List.drop_succ_cons, List.drop_zero, List.drop_nil])); refine wpT_nil ?_; try dsimp only))
          all_goals (refine wpZ_nil ?_; replace H := RelT.toRel H)
          all_goals
            refine mS ?_
            replace H := mK [0, 1, 2, 3, 8, 9, 17, 18] 4 0 hN hR H
            refine mW ?_; clear H; intro a w H
            refine mC H (fun hb => ?_) (fun hb => ?_)
            · exact absurd hb (by decide)
            · clear hb
              refine mW ?_; clear H; intro a w H
              refine mCall [0, 1, 2, 3] [] (hc1) H ?_; clear H; intro a w H; try refine wpList_nil ?_
              refine mW ?_; clear H; intro a w H
              refine mCall [0, 1, 2, 3] [] (hc2) H ?_; clear H; intro a w H; try refine wpList_nil ?_
              refine mW ?_; clear H; intro a w H
              refine wp_ret ?_; exact mEnd [0, 1, 2, 3] [] [.tmp 8, .tmp 9] [_, _] hN hR H
end Go.Proofs.YtgffimanhmpohaaGreat
/- slices.SortFunc at entries: the program bears it; how it compares. -/
namespace Go.Proofs.YtgffimanhmpohaaGreat
open Go Go.RowKit
def srtR : Go.Shelf.Ren := ⟨fun | 6 => 79 | 15 => 109 | 14 => 108 | 28 => 134 | 29 => 135 | 20 => 126 | 21 => 127 | 22 => 128 | 23 => 129 | 24 => 130 | 25 => 131 | 26 => 132 | 27 => 133 | 46 => 153 | 47 => 154 | 48 => 155 | 49 => 156 | 50 => 157 | 57 => 167 | n => n, fun | 22 => 22 | 24 => 53 | 25 => 141 | 3 => 3 | 39 => 173 | 0 => 0 | 53 => 183 | 55 => 190 | 4 => 4 | 46 => 194 | 45 => 193 | 50 => 30 | 5 => 5 | 9 => 9 | 66 => 214 | 70 => 218 | 76 => 224 | 77 => 95 | n => n, fun x => x⟩
theorem srtL : SlLaysF0.n6 Tryz.prog srtR :=
  { mixed := by kernel_rfl,
    f6 := ⟨Tryz.f79.name, by decide, by kernel_rfl⟩,
    f15 := by kernel_rfl,
    f14 := ⟨Tryz.f108.name, by decide, by kernel_rfl⟩,
    f28 := by kernel_rfl,
    f29 := by kernel_rfl,
    f20 := ⟨Tryz.f126.name, by decide, by kernel_rfl⟩,
    f21 := ⟨Tryz.f127.name, by decide, by kernel_rfl⟩,
    f22 := ⟨Tryz.f128.name, by decide, by kernel_rfl⟩,
    f23 := ⟨Tryz.f129.name, by decide, by kernel_rfl⟩,
    f24 := ⟨Tryz.f130.name, by decide, by kernel_rfl⟩,
    f25 := ⟨Tryz.f131.name, by decide, by kernel_rfl⟩,
    f26 := ⟨Tryz.f132.name, by decide, by kernel_rfl⟩,
    f27 := ⟨Tryz.f133.name, by decide, by kernel_rfl⟩,
    f46 := ⟨Tryz.f153.name, by decide, by kernel_rfl⟩,
    f47 := by kernel_rfl,
    f48 := by kernel_rfl,
    f49 := ⟨Tryz.f156.name, by decide, by kernel_rfl⟩,
    f50 := ⟨Tryz.f157.name, by decide, by kernel_rfl⟩,
    f57 := ⟨Tryz.f167.name, by decide, by kernel_rfl⟩,
    t22 := Tryz.underlying22, a22 := Tryz.isAgg22, z22 := Tryz.sizeOf22, v22 := Tryz.zeroValue22,
    t25 := Tryz.underlying141, a25 := Tryz.isAgg141, z25 := Tryz.sizeOf141, v25 := Tryz.zeroValue141,
    t3 := Tryz.underlying3, a3 := Tryz.isAgg3, z3 := Tryz.sizeOf3, v3 := Tryz.zeroValue3,
    t39 := Tryz.underlying173, a39 := Tryz.isAgg173, z39 := Tryz.sizeOf173, v39 := Tryz.zeroValue173,
    t0 := Tryz.underlying0, a0 := Tryz.isAgg0, z0 := Tryz.sizeOf0, v0 := Tryz.zeroValue0,
    t53 := Tryz.underlying183, a53 := Tryz.isAgg183, z53 := Tryz.sizeOf183, v53 := Tryz.zeroValue183,
    t55 := Tryz.underlying190, a55 := Tryz.isAgg190, z55 := Tryz.sizeOf190, v55 := Tryz.zeroValue190,
    t4 := Tryz.underlying4, a4 := Tryz.isAgg4, z4 := Tryz.sizeOf4, v4 := Tryz.zeroValue4,
    t46 := Tryz.underlying194, a46 := Tryz.isAgg194, z46 := Tryz.sizeOf194, v46 := Tryz.zeroValue194,
    t45 := Tryz.underlying193, a45 := Tryz.isAgg193, z45 := Tryz.sizeOf193, v45 := Tryz.zeroValue193,
    t50 := Tryz.underlying30, a50 := Tryz.isAgg30, z50 := Tryz.sizeOf30, v50 := Tryz.zeroValue30,
    t5 := Tryz.underlying5, a5 := Tryz.isAgg5, z5 := Tryz.sizeOf5, v5 := Tryz.zeroValue5,
    t9 := Tryz.underlying9, a9 := Tryz.isAgg9, z9 := Tryz.sizeOf9, v9 := Tryz.zeroValue9,
    t66 := Tryz.underlying214, a66 := Tryz.isAgg214, z66 := Tryz.sizeOf214, v66 := Tryz.zeroValue214,
    t70 := Tryz.underlying218, a70 := Tryz.isAgg218, z70 := Tryz.sizeOf218, v70 := Tryz.zeroValue218,
    t76 := Tryz.underlying224, a76 := Tryz.isAgg224, z76 := Tryz.sizeOf224, v76 := Tryz.zeroValue224,
    t77 := Tryz.underlying95, a77 := Tryz.isAgg95, z77 := Tryz.sizeOf95, v77 := Tryz.zeroValue95 }
end Go.Proofs.YtgffimanhmpohaaGreat
/- Maps whose keys are arrays of bytes: made, looked up, put into. -/
namespace Go.Proofs.YtgffimanhmpohaaGreat
open Go Go.RowKit
theorem mapM_some {α β : Type} {f : α → Option β} : ∀ (l : List α), (∀ x ∈ l, ∃ y, f x = some y) → ∃ ys, l.mapM f = some ys
  | [], _ => ⟨[], rfl⟩
  | x :: l, h => by
    obtain ⟨y, hy⟩ := h x List.mem_cons_self
    obtain ⟨ys, hys⟩ := mapM_some l fun z hz => h z (List.mem_cons_of_mem _ hz)
    exact ⟨y :: ys, by simp [List.mapM_cons, hy, hys]⟩
/-- A type of keys. -/
structure KT (P : Program) (kt : TypeId) (n : Nat) : Prop where
  law : WideMaps.KeyLaw P kt
  key : ∀ l : List UInt8, l.length = n → ∃ q, keyOf P kt (.agg (l.map B8).toArray) = some q
theorem KT.of {P : Program} {kt e : TypeId} {n : Nat} (ha : P.underlying kt = some (.array n e)) (he : P.underlying e = some (.int .u8)) (hk : P.keyTypeAt 2 kt = true) (ht : P.tiled 2 kt = true) (hK : P.keyType kt = true) (hc : P.cellsOf kt = n) (hce : P.cellsOf e = 1) (hs : 1 ≤ P.types.size) : KT P kt n :=
  ⟨deep_law (m := 2) (by decide) hk ht (by rw [ha]), fun l hl => by
    obtain ⟨d, hd⟩ : ∃ d, P.types.size = d + 1 := ⟨P.types.size - 1, by omega⟩
    have hlen : (l.map B8).length = n := by simpa using hl
    obtain ⟨ys, hys⟩ := mapM_some (f := fun i => P.keyLits (P.types.size) e (((l.map B8).drop (i * P.cellsOf e)).take (P.cellsOf e))) (List.range n) fun i hi => by
      have hi' : i < l.length := by rw [hl]; exact List.mem_range.1 hi
      have e1 : (((l.map B8).drop (i * P.cellsOf e)).take (P.cellsOf e)) = [B8 l[i]] := by
        rw [hce, Nat.mul_one, List.drop_eq_getElem_cons (by simpa using hi')]
        simp
      rw [e1, hd]
      refine ⟨[.int .u8 (l[i].toNat : Int)], ?_⟩
      unfold Program.keyLits
      rw [he]
      have h1 : (Lit.int .u8 (l[i].toNat : Int)).wf = true := by
        have := l[i].toNat_lt
        simp [Lit.wf, IntKind.min, IntKind.max, IntKind.signed, IntKind.bits]; omega
      simp [B8, h1]
    refine ⟨.string (keyBytes ys.flatten), ?_⟩
    unfold keyOf
    rw [ha]
    have hf : (Value.agg (l.map B8).toArray).formed P kt = true := by simp [Value.formed, ha, hc, hl]
    have hkl : P.keyLits (P.types.size + 1) kt (l.map B8) = some ys.flatten := by
      unfold Program.keyLits
      rw [ha]
      simp only [hlen, hc, if_true]
      rw [hys]; rfl
    simp only [hK, hf, Bool.and_self, if_true, Value.cells, List.toList_toArray, hkl, Option.map_some]⟩
theorem new_at (w : World) (o : Obj) : (w.alloc o).heap[w.heap.size]? = some o := by show (w.heap.push o)[w.heap.size]? = some o; simp
section
variable {P : Program} {τ : Tab} {w0 w : World} {N : Gh} {g : Gh} {st : St} {nt : Nat} {a : Act}
theorem v_mkMap {ops : Array Oper} {Q : Exit → Act → World → Prop} {rest : List Oper} {o : Oper} {t : Nat} (K V : Ty) (H : Rel P w0 N nt st a w)
    (k : ∀ a w, Rel P w0 N nt ((⟨st.t, st.bx ++ [(.mp K V, .mp [] [])], st.fz, st.rw⟩ : St).put o.dst none (.mr st.bx.length)) a w → wpList P ops Q rest a w) (hgd : o.guard = none := by rfl) (ho : o.op = .makeMap t none := by rfl) (hd : okDst nt none o.dst = true := by rfl) : wpList P ops Q (o :: rest) a w := by
  obtain ⟨g, HI, hF⟩ := H
  obtain ⟨g', l1, I1, h1⟩ := HI.boxG (x := ⟨w.heap.size, 0, .mp K V, [], false, 0, 0, false, some (#[], 0)⟩) (a := .mp [] []) (w' := w.alloc (.map #[] 0)) rfl (grown_alloc w _) (fun _ => ⟨rfl, ⟨fun e => (by cases e), fun m e => (by injection e with e; subst e; exact new_at w _)⟩⟩) (fun e => by cases e) (fun _ => rfl)
    (.inr (.inr (.inr ⟨K, V, [], [], #[], 0, rfl, rfl, rfl, rfl, rfl, rfl, rfl, fun k h => absurd h (by simp)⟩)))
  refine wpList_plain hgd fun K' hK => ?_
  unfold Oper.wp
  have he : (execOp a.eval o).run P w = .ok (.value (.map (some w.heap.size))) (w.alloc (.map #[] 0)) := by
    obtain ⟨dst, op, ty, pos, after, gd⟩ := o
    dsimp only at ho
    subst ho
    rfl
  rw [he, Oper.upon_value]
  refine hK _ _ (k _ _ ⟨g', ?_, (hF.mono l1.1).put hd (fun _ => (RC.mr h1 rfl).rvp) rfl (fun h => absurd trivial h)⟩)
  cases o.dst <;> exact I1
/-- The entries of a map. -/
theorem map_at (HI : Inv P w0 N g st.bx st.fz st.rw w) {i n : Nat} {V : Ty} {ks : List (List UInt8)} {vs : List AV} (hb : st.bx[i]? = some (.mp (.ba n) V, .mp (ks.map .ba) vs)) : ∃ x es clk, g.bx[i]? = some x ∧ x.ty = .mp (.ba n) V ∧ x.off = false ∧ x.mp = some (es, clk) ∧ x.cells = [] ∧ w.heap[x.blk]? = some (.map es clk) ∧ ks.length = es.size ∧ vs.length = es.size ∧
    ∀ k (h : k < es.size) (h1 : k < ks.length) (h2 : k < vs.length), ks[k].length = n ∧ es[k].key = .agg (ks[k].map B8).toArray ∧ ∃ ds, RC g.base V vs[k] ds ∧ es[k].val = mkV V ds := by
  obtain ⟨x, hx, hty, hbc⟩ := HI.br.get hb
  rcases hbc with ⟨_, _, hrc⟩ | ⟨_, _, _, _, _, ⟨_, e, _⟩, _⟩ | ⟨_, _, _, ⟨_, e, _⟩, _⟩ | ⟨K, V', ks', vs', es, clk, e1, e2, ho, hm, hc, hk, hv, hall⟩
  · cases hrc
  · cases e
  · cases e
  · injection e1 with e1 e1'; subst e1 e1'
    injection e2 with e2 e2'; subst e2 e2'
    refine ⟨x, es, clk, hx, hty, ho, hm, hc, (HI.mem.bx i x hx ho).m _ hm, by simpa using hk, hv, fun k h h1 h2 => ?_⟩
    obtain ⟨cs, ds, q1, q2, q3, q4⟩ := hall k h (by simpa using h1) h2
    rw [List.getElem_map] at q1
    obtain ⟨q5, rfl⟩ := q1.ba_inv
    injection q5 with q5
    exact ⟨q5.symm, q2, ds, q3, q4⟩
theorem find_at {kt n : Nat} (hKT : KT P kt n) {ks : List (List UInt8)} {es : Array MapEntry} (hlen : ks.length = es.size) (hall : ∀ k (h : k < es.size) (h1 : k < ks.length), ks[k].length = n ∧ es[k].key = .agg (ks[k].map B8).toArray) {kl : List UInt8} (hl : kl.length = n) (w : World) :
    ((Instr.findKey kt (.agg (kl.map B8).toArray) es.toList).run P w = .ok none w ∧ kl ∉ ks) ∨ ∃ j, ∃ h : j < es.size, ks[j]? = some kl ∧ (Instr.findKey kt (.agg (kl.map B8).toArray) es.toList).run P w = .ok (some (j, es[j].val)) w := by
  have inj : ∀ x y : List UInt8, Value.agg (x.map B8).toArray = Value.agg (y.map B8).toArray → x = y := fun x y e => by
    injection e with e
    have e1 := congrArg Array.toList e
    simp only [List.toList_toArray] at e1
    exact (List.map_inj_right (f := B8) (fun u v h => by unfold B8 at h; injection h with _ h; exact UInt8.toNat_inj.1 (by omega))).1 e1
  obtain ⟨q, hq⟩ := hKT.key kl hl
  rcases hKT.law.find w hq es.toList (fun e he => by
    obtain ⟨j, hj, rfl⟩ := List.getElem_of_mem he
    have hj' : j < es.size := by simpa using hj
    obtain ⟨h1, h2⟩ := hall j hj' (by omega)
    rw [Array.getElem_toList, h2]
    exact hKT.key _ h1) with ⟨h1, h2⟩ | ⟨j, e, h1, h2, h3⟩
  · refine .inl ⟨h1, fun hm => ?_⟩
    obtain ⟨j, hj, e⟩ := List.getElem_of_mem hm
    have hj' : j < es.size := by omega
    obtain ⟨_, h4⟩ := hall j hj' hj
    exact h2 es[j] (by simp) (by rw [h4, e])
  · have hj : j < es.size := by have := (List.getElem?_eq_some_iff.1 h2).1; simpa using this
    have he : e = es[j] := by rw [Array.getElem?_toList, Array.getElem?_eq_getElem hj] at h2; injection h2 with h2; exact h2.symm
    subst he
    obtain ⟨_, h4⟩ := hall j hj (by omega)
    refine .inr ⟨j, hj, ?_, h1⟩
    rw [List.getElem?_eq_getElem (by omega)]
    congr 1
    exact inj _ _ (h4.symm.trans h3)
theorem v_look {ops : Array Oper} {Q : Exit → Act → World → Prop} {rest : List Oper} {o : Oper} {t kt et i n : Nat} {m kx : Operand} {V : Ty} {ks : List (List UInt8)} {vs : List AV} {kl : List UInt8} {z : AV} {zv : Value} (hKT : KT P kt n) (H : Rel P w0 N nt st a w)
    (ht : P.underlying t = some (.map kt et)) (hz : ∀ w, (zeroValue et).run P w = .ok zv w) (hzr : ∀ g, RV g z zv) (hl : kl.length = n)
    (k1 : kl ∉ ks → ∀ a w, Rel P w0 N nt (st.put o.dst none z) a w → wpList P ops Q rest a w) (k2 : ∀ (j : Nat) (v : AV), ks[j]? = some kl → vs[j]? = some v → ∀ a w, Rel P w0 N nt (st.put o.dst none v) a w → wpList P ops Q rest a w)
    (hgd : o.guard = none := by rfl) (ho : o.op = .lookup t m kx false := by rfl) (hd : okDst nt none o.dst = true := by rfl) (hm : st.ev none m = .mr i := by rfl) (hk : st.ev none kx = .ba kl := by rfl) (hb : st.bx[i]? = some (.mp (.ba n) V, .mp (ks.map .ba) vs) := by rfl) : wpList P ops Q (o :: rest) a w := by
  obtain ⟨g, HI, hF⟩ := H
  obtain ⟨x, es, clk, hx, hty, hoff, hmp, hc, hheap, hkl, hvl, hall⟩ := map_at HI hb
  have em := ev_sound hF (c := none) trivial m
  have ek := ev_sound hF (c := none) trivial kx
  rw [hm] at em; rw [hk] at ek
  have ek := ek.ba_inv
  have em2 : a.eval m = .map (some x.blk) := by
    have h3 := em.mr_inv
    generalize a.eval m = u at h3
    cases h3 with
    | mr h hT => rw [hx] at h; injection h with h; subst h; rfl
  have hget : (getObj x.blk).run P w = .ok (.map es clk) w := MapKept.run_getObj_map hheap
  have hchk : (Instr.checkKey es.isEmpty 10000 kt (a.eval kx)).run P w = .ok () w := by
    obtain ⟨q, hq⟩ := hKT.key kl hl
    rw [ek]; exact hKT.law.check w _ hq
  refine wpList_plain hgd fun K hK => ?_
  unfold Oper.wp
  have he : (execOp a.eval o).run P w = ((Instr.lookup t (a.eval m) (a.eval kx) false).run P w).andThen fun v w => .ok (.value v) w := by
    obtain ⟨dst, op, ty, pos, after, gd⟩ := o
    dsimp only at ho
    subst ho
    simp only [execOp, Sem.run_bind, Sem.run_pure]
  have hu : (underlying t).run P w = .ok (.map kt et) w := run_underlying ht w
  rw [he]
  rcases find_at hKT hkl (fun k h h1 => ⟨(hall k h h1 (by omega)).1, (hall k h h1 (by omega)).2.1⟩) hl w with ⟨h1, h2⟩ | ⟨j, hj, h1, h2⟩
  · have hr : (Instr.lookup t (a.eval m) (a.eval kx) false).run P w = .ok zv w := by
      rw [em2]
      unfold Instr.lookup
      simp only [Sem.run_bind, hu, Result.andThen_ok, hget, Sem.run_pure, hchk]
      rw [ek, h1]
      simp [hz]
    rw [hr]
    simp only [Result.andThen_ok, Oper.upon_value]
    refine hK _ _ (k1 h2 _ _ ⟨g, ?_, hF.put hd (fun _ => hzr g) rfl (fun h => absurd trivial h)⟩)
    cases o.dst <;> exact HI
  · have hr : (Instr.lookup t (a.eval m) (a.eval kx) false).run P w = .ok es[j].val w := by
      rw [em2]
      unfold Instr.lookup
      simp only [Sem.run_bind, hu, Result.andThen_ok, hget, Sem.run_pure, hchk]
      rw [ek, h2]
      simp
    rw [hr]
    simp only [Result.andThen_ok, Oper.upon_value]
    obtain ⟨_, _, ds, q1, q2⟩ := hall j hj (by omega) (by omega)
    refine hK _ _ (k2 j vs[j] h1 (List.getElem?_eq_getElem _) _ _ ⟨g, ?_, hF.put hd (fun _ => by rw [q2]; exact (q1.mono g.base_le).rv.rv') rfl (fun h => absurd trivial h)⟩)
    cases o.dst <;> exact HI
/-- A key that is none of a map's is put into it. -/
theorem v_mapNew {ops : Array Oper} {Q : Exit → Act → World → Prop} {rest : List Oper} {o : Oper} {t kt et i n : Nat} {m kx vx : Operand} {V : Ty} {ks : List (List UInt8)} {vs : List AV} {kl : List UInt8} {v : AV} (hKT : KT P kt n) (H : Rel P w0 N nt st a w)
    (ht : P.underlying t = some (.map kt et)) (hl : kl.length = n) (hn : kl ∉ ks)
    (k : ∀ a w, Rel P w0 N nt ((⟨st.t, st.bx.set i (.mp (.ba n) V, .mp (ks.map .ba ++ [.ba kl]) (vs ++ [strip 3 v])), st.fz, st.rw⟩ : St)) a w → wpList P ops Q rest a w)
    (hgd : o.guard = none := by rfl) (ho : o.op = .mapUpdate t m kx vx := by rfl) (hd : o.dst = none := by rfl) (hm : st.ev none m = .mr i := by rfl) (hk : st.ev none kx = .ba kl := by rfl) (hv : st.ev none vx = v := by rfl) (hb : st.bx[i]? = some (.mp (.ba n) V, .mp (ks.map .ba) vs) := by rfl) (hf : notIn i st.fz = true := by rfl) (hp : pure_ 3 v = true := by rfl) (hft : fit V v := by first | rfl | trivial) : wpList P ops Q (o :: rest) a w := by
  obtain ⟨g, HI, hF⟩ := H
  obtain ⟨x, es, clk, hx, hty, hoff, hmp, hc, hheap, hkl, hvl, hall⟩ := map_at HI hb
  have em := ev_sound hF (c := none) trivial m
  have ek := ev_sound hF (c := none) trivial kx
  have ev := ev_sound hF (c := none) trivial vx
  rw [hm] at em; rw [hk] at ek; rw [hv] at ev
  have ek := ek.ba_inv
  have em2 : a.eval m = .map (some x.blk) := by
    have h3 := em.mr_inv
    generalize a.eval m = u at h3
    cases h3 with
    | mr h hT => rw [hx] at h; injection h with h; subst h; rfl
  obtain ⟨ds, hds, hvd⟩ := ev.fit hft
  have hdb := hds.strip_ hp
  have hget : (getObj x.blk).run P w = .ok (.map es clk) w := MapKept.run_getObj_map hheap
  have hchk : (Instr.checkKey false 10000 kt (a.eval kx)).run P w = .ok () w := by
    obtain ⟨q, hq⟩ := hKT.key kl hl
    rw [ek]; exact hKT.law.check w _ hq
  have hu : (underlying t).run P w = .ok (.map kt et) w := run_underlying ht w
  have hfind : (Instr.findKey kt (a.eval kx) es.toList).run P w = .ok none w := by
    rw [ek]
    rcases find_at hKT hkl (fun k h h1 => ⟨(hall k h h1 (by omega)).1, (hall k h h1 (by omega)).2.1⟩) hl w with ⟨h1, h2⟩ | ⟨j, hj, h1, h2⟩
    · exact h1
    · exact absurd (List.mem_of_getElem? h1) hn
  let ne : MapEntry := { key := a.eval kx, val := a.eval vx, born := clk }
  have hr : (Instr.mapUpdate t (a.eval m) (a.eval kx) (a.eval vx)).run P w = (setObj x.blk (.map (es.push ne) (clk + 1))).run P w := by
    rw [em2]
    unfold Instr.mapUpdate
    simp only [Sem.run_bind, hu, Result.andThen_ok, hget, hchk, hfind]
    rfl
  let w' : World := { w with heap := w.heap.setIfInBounds x.blk (.map (es.push ne) (clk + 1)) }
  have hlt : x.blk < w.heap.size := (Array.getElem?_eq_some_iff.1 hheap).1
  have hset : (setObj x.blk (.map (es.push ne) (clk + 1))).run P w = .ok () w' := MapKept.run_setObj_map _ hheap
  have hxf : x.fz = false := by cases e : x.fz with | false => rfl | true => exact absurd (HI.fz i x hx e) (notIn_ok hf)
  obtain ⟨g', h1, h2, _⟩ := HI.upd (x' := { x with mp := some (es.push ne, clk + 1) }) (w' := w') (a := .mp (ks.map .ba ++ [.ba kl]) (vs ++ [strip 3 v])) hx (notIn_ok hf)
    (by unfold Bx.own; rw [hoff]; exact ⟨rfl, rfl, rfl, by simp [w'], fun k hk hne => by
      show (w.heap.setIfInBounds x.blk _)[k]? = _
      rw [Array.getElem?_setIfInBounds_ne (fun e => hne (by rw [e]; rfl))]⟩) rfl hxf (Nat.le_refl _) (fun _ => ⟨rfl, rfl, rfl⟩)
    (fun _ => ⟨⟨fun e => (by cases e), fun m e => by
      injection e with e; subst e
      show (w.heap.setIfInBounds x.blk _)[x.blk]? = _
      rw [Array.getElem?_setIfInBounds_self_of_lt hlt]⟩, .inr ⟨hoff, rfl⟩⟩) (fun e => by rw [show ({ x with mp := some (es.push ne, clk + 1) } : Bx).off = x.off from rfl, hoff] at e; cases e) (fun _ => hc)
    (by
      rw [hty]
      refine .inr (.inr (.inr ⟨.ba n, V, _, _, es.push ne, clk + 1, rfl, rfl, hoff, rfl, hc, by simp [hkl], by simp [hvl], fun j hj q1 q2 => ?_⟩))
      by_cases hj2 : j < es.size
      · obtain ⟨r1, r2, ds2, r3, r4⟩ := hall j hj2 (by omega) (by omega)
        refine ⟨ks[j].map B8, ds2, ?_, ?_, ?_, ?_⟩
        · rw [List.getElem_append_left (by simp; omega), List.getElem_map]; exact .ba r1
        · rw [Array.getElem_push_lt hj2, r2]; rfl
        · rw [List.getElem_append_left (by omega)]; exact r3
        · rw [Array.getElem_push_lt hj2, r4]
      · have hje : j = es.size := by simp at hj; omega
        subst hje
        refine ⟨kl.map B8, ds, ?_, ?_, ?_, ?_⟩
        · rw [List.getElem_append_right (by simp; omega)]; simp [hkl]; exact .ba hl
        · rw [Array.getElem_push_eq]; exact ek
        · rw [List.getElem_append_right (by omega)]; simp [hvl]; exact hdb
        · rw [Array.getElem_push_eq]; exact hvd)
  rw [hty] at h2
  refine wpList_plain hgd fun K hK => ?_
  unfold Oper.wp
  have he : (execOp a.eval o).run P w = .ok .skip w' := by
    obtain ⟨dst, op, ty, pos, after, gd⟩ := o
    dsimp only at ho
    subst ho
    simp only [execOp, Sem.run_bind, Sem.run_pure, hr, hset, Result.andThen_ok]
  rw [he, Oper.upon_skip]
  have e8 : a.put o.dst undef = a := by rw [hd]; rfl
  rw [e8]
  exact hK _ _ (k _ _ ⟨g', h2, ⟨hF.sz, hF.df, fun p hp hg => (hF.t p hp hg).mono h1, hF.u⟩⟩)
end
end Go.Proofs.YtgffimanhmpohaaGreat
/- What sorting by keys compares with; loads by themselves. -/
namespace Go.Proofs.YtgffimanhmpohaaGreat
open Go Go.RowKit
theorem cell_new (w : World) (cs : Array Value) (t : TypeId) (j : Nat) : (w.alloc (.cells cs t)).cell? ⟨w.heap.size, j, none⟩ = cs[j]? := by
  unfold World.cell?
  rw [show (w.alloc (.cells cs t)).heap[(⟨w.heap.size, j, none⟩ : Addr).block]? = some (.cells cs t) from new_at w _]
  rfl
theorem size_alloc (w : World) (o : Obj) : (w.alloc o).heap.size = w.heap.size + 1 := by show (w.heap.push o).size = _; simp
theorem cmpT_any (a b : ByteArray) (w : World) : Calls Tryz.prog 136 #[.string a, .string b] w fun e w' => e = .returned (.int .i64 (Lib.compareBytes a.data.toList b.data.toList)) ∧ w' = w := by
  go_enter Tryz.func136, Tryz.ntmps136
  go_wp2_with (first | (go_at_call 158; refine (cmp_any _ _ _).mono ?_; rintro e w' ⟨rfl, rfl⟩))
  go_ret
  exact ⟨rfl, rfl⟩
theorem ocmp_any (x y : List UInt8) (B : Nat) (A1 A2 : Option Addr) (c1 c2 : Nat) (w : World) (h1 : Rd byteE w B A1 x) (h2 : Rd byteE w B A2 y) : Calls Tryz.prog 110 #[.slice A1 x.length c1, .slice A2 y.length c2] w fun e w' => e = .returned (.int .i64 (Lib.compareBytes x y)) ∧ w' = w := by
  have r1 := run_str h1 x.length c1 rfl
  have r2 := run_str h2 y.length c2 rfl
  have hc := cmpT_any (strOf x) (strOf y) w
  have e1 : (strOf x).data.toList = x := rfl
  have e2 : (strOf y).data.toList = y := rfl
  rw [e1, e2] at hc
  generalize strOf x = s1 at *
  generalize strOf y = s2 at *
  go_enter Tryz.func110, Tryz.ntmps110
  go_wp2_with (first | (go_at_call 136; refine hc.mono ?_; rintro e w' ⟨rfl, rfl⟩))
  go_ret
  exact ⟨rfl, rfl⟩
set_option maxHeartbeats 1000000 in
set_option maxRecDepth 100000 in
theorem pcmp_any (x y : List UInt8) (hx : x.length = 32) (hy : y.length = 32) (W : World) : Calls Tryz.prog 81 #[.agg (x.map B8).toArray, .agg (y.map B8).toArray] W fun e w' => e = .returned (.int .i64 (Lib.compareBytes x y)) ∧ ∃ q os', w' = Sort.grow (W.drewN q) os' := by
  have mixed : Tryz.prog.follows .mixedOrders = true := by kernel_rfl
  have hcon : ∀ n os, Calls Tryz.prog 110 #[.slice (some ⟨W.heap.size, 0, none⟩) 32 32, .slice (some ⟨W.heap.size + 1, 0, none⟩) 32 32] (Sort.grow ((((W.alloc (.cells (x.map B8).toArray 24)).alloc (.cells (y.map B8).toArray 24))).drewN n) os) fun e w' => e = .returned (.int .i64 (Lib.compareBytes x y)) ∧ ∃ p : GrownBy, w' = Sort.grow ((((W.alloc (.cells (x.map B8).toArray 24)).alloc (.cells (y.map B8).toArray 24))).drewN p.n) p.os := fun n os => by
    have h1 : Rd byteE (Sort.grow ((((W.alloc (.cells (x.map B8).toArray 24)).alloc (.cells (y.map B8).toArray 24))).drewN n) os) (W.heap.size + 2) (some ⟨W.heap.size, 0, none⟩) x := .inr ⟨_, _, rfl, by omega, fun j u hj => by
      refine cell_grown (by simp; omega) ?_ n os
      rw [byteE_all] at hj
      refine Lib.cell?_alloc_some _ ?_
      rw [Nat.zero_add, cell_new, List.getElem?_toArray]
      exact hj⟩
    have h2 : Rd byteE (Sort.grow ((((W.alloc (.cells (x.map B8).toArray 24)).alloc (.cells (y.map B8).toArray 24))).drewN n) os) (W.heap.size + 2) (some ⟨W.heap.size + 1, 0, none⟩) y := .inr ⟨_, _, rfl, by omega, fun j u hj => by
      refine cell_grown (by simp) ?_ n os
      rw [byteE_all] at hj
      have := cell_new (W.alloc (.cells (x.map B8).toArray 24)) (y.map B8).toArray 24 j
      rw [size_alloc] at this
      rw [Nat.zero_add, this, List.getElem?_toArray]
      exact hj⟩
    have h := ocmp_any x y _ _ _ 32 32 _ h1 h2
    rw [hx, hy] at h
    exact h.mono fun e w' ⟨he, hw⟩ => ⟨he, ⟨n, os⟩, hw⟩
  go_enter Tryz.func81, Tryz.ntmps81
  go_wp2
  generalize hw2 : (W.alloc (.cells (x.map B8).toArray 24)).alloc (.cells (y.map B8).toArray 24) = W2 at hcon ⊢
  go_quiet_grown (first | (go_at_call 110; exact hcon _ _))
  go_wp2
  go_ret
  refine ⟨rfl, nq, #[.cells (x.map B8).toArray 24, .cells (y.map B8).toArray 24] ++ osq, ?_⟩
  rw [← hw2, Sort.alloc_eq_grow, Sort.alloc_eq_grow, Sort.grow_grow]
  show Sort.grow (Sort.grow (W.drewN nq) _) osq = _
  rw [Sort.grow_grow]; rfl
theorem op_ld {P : Program} {o : Oper} {a : Act} {w : World} {K : Act → World → Prop} {Q : Exit → Act → World → Prop} {t : TypeId} {p : Operand} {b : Nat} {v : Value} (hl : (loadVar t ⟨b, 0, none⟩).run P w = .ok v w) (ho : o.op = .load t p) (hp : a.eval p = .pointer (some ⟨b, 0, none⟩)) (k : K (a.put o.dst v) w) : Oper.wp P o a w K Q := by
  unfold Oper.wp
  have he : (execOp a.eval o).run P w = .ok (.value v) w := by
    obtain ⟨dst, op, ty, pos, after, gd⟩ := o
    dsimp only at ho
    subst ho
    simp [execOp, Instr.loadAt, Instr.sureAddr, hp, hl]
  rw [he, Oper.upon_value]
  exact k
end Go.Proofs.YtgffimanhmpohaaGreat
/- Entries sorted: how two are compared. -/
namespace Go.Proofs.YtgffimanhmpohaaGreat
open Go Go.RowKit
/-- An entry's cells. -/
abbrev Cel := {p : List UInt8 × Value // p.1.length = 32 ∧ p.2.oneCell' = true}
instance : Inhabited Cel := ⟨⟨(List.replicate 32 0, .int .i64 0), by decide, rfl⟩⟩
def encC (x : Cel) : List Value := x.1.1.map B8 ++ [x.1.2]
theorem encC_len (x : Cel) : (encC x).length = 33 := by simp [encC, x.2.1]
theorem encC_one (x : Cel) : ∀ v ∈ encC x, v.oneCell' = true := fun v hv => by
  unfold encC at hv
  rcases List.mem_append.1 hv with h | h
  · obtain ⟨u, _, rfl⟩ := List.mem_map.1 h; rfl
  · rw [List.mem_singleton.1 h]; exact x.2.2
def cfC (x y : Cel) : Int := Lib.compareBytes x.1.1 y.1.1
set_option maxHeartbeats 1000000 in
set_option maxRecDepth 100000 in
theorem srt_cmp (x y : Cel) (W : World) : Calls Tryz.prog 80 #[.agg (encC x).toArray, .agg (encC y).toArray] W fun e w' => e = .returned (.int .i64 (cfC x y)) ∧ ∃ q os', w' = Sort.grow (W.drewN q) os' := by
  have hc := fun W' => pcmp_any x.1.1 y.1.1 x.2.1 y.2.1 W'
  have ld : ∀ (z : Cel) (b : Nat) (W' : World), W'.heap[b]? = some (.cells (encC z).toArray 53) → (loadVar 24 ⟨b, 0, none⟩).run Tryz.prog W' = .ok (.agg (z.1.1.map B8).toArray) W' := fun z b W' hb => by
    refine run_loadV (g := ⟨fun _ _ => none, [], []⟩) (Tab.get_ok tab_ok (t := 24) (i := ti24) rfl) (a := .ba z.1.1) (.ba z.2.1) fun j u hu => ?_
    unfold World.cell?
    rw [show W'.heap[(⟨b, 0 + j, none⟩ : Addr).block]? = _ from hb]
    show (encC z).toArray[0 + j]? = some u
    rw [Nat.zero_add, List.getElem?_toArray, encC, List.getElem?_append_left (by have := (List.getElem?_eq_some_iff.1 hu).1; exact this)]
    exact hu
  have b1 : ((W.alloc (.cells (encC x).toArray 53)).alloc (.cells (encC y).toArray 53)).heap[W.heap.size]? = some (.cells (encC x).toArray 53) := by
    have h := new_at W (.cells (encC x).toArray 53)
    have hs := size_alloc W (.cells (encC x).toArray 53)
    show ((W.alloc _).heap.push _)[W.heap.size]? = _
    rw [Array.getElem?_push_lt (by omega)]
    rw [Array.getElem?_eq_getElem (by omega)] at h
    exact h
  have b2 : ((W.alloc (.cells (encC x).toArray 53)).alloc (.cells (encC y).toArray 53)).heap[W.heap.size + 1]? = some (.cells (encC y).toArray 53) := by
    have h := new_at (W.alloc (.cells (encC x).toArray 53)) (.cells (encC y).toArray 53)
    rw [size_alloc] at h
    exact h
  go_enter Tryz.func80, Tryz.ntmps80
  iterate 21 go_step
  refine op_ld (ld x _ _ b1) rfl rfl ?_
  iterate 5 go_step
  refine op_ld (ld y _ _ b2) rfl rfl ?_
  go_wp2_with (first | (go_at_call 81; refine (hc _).mono ?_; rintro e w' ⟨rfl, q, os, rfl⟩))
  go_ret
  exact ⟨rfl, q, _, by rw [Sort.alloc_eq_grow, Sort.alloc_eq_grow, Sort.grow_grow]; show Sort.grow (Sort.grow (W.drewN q) _) os = _; rw [Sort.grow_grow]⟩
end Go.Proofs.YtgffimanhmpohaaGreat
/- Entries sorted in their block. -/
namespace Go.Proofs.YtgffimanhmpohaaGreat
open Go Go.RowKit
theorem flat_cel (cs : List Cel) : cs.flatMap encC = (List.range cs.length).flatMap fun k => encC cs[k]! := by
  have h : ∀ (l : List Cel), l = (List.range l.length).map fun k => l[k]! := fun l => by
    apply List.ext_getElem?
    intro i
    rw [List.getElem?_map]
    by_cases hi : i < l.length
    · rw [List.getElem?_range hi, List.getElem?_eq_getElem hi]; simp [hi]
    · rw [List.getElem?_eq_none (by omega), List.getElem?_eq_none (by simpa using hi)]; rfl
  conv => lhs; rw [h cs]
  rw [List.flatMap_map]
theorem flatK_cel (cs : List Cel) : Go.Sort.flatK encC 33 cs.toArray = (cs.flatMap encC).toArray := by
  have hl : (cs.flatMap encC).length = cs.length * 33 := by rw [flat_cel]; exact flat_len _ fun k _ => encC_len _
  apply Array.ext_getElem?
  intro j
  by_cases hj : j < cs.length * 33
  · have h1 : j / 33 < cs.length := by omega
    have hx : (encC cs[j / 33]!)[j % 33]? = some ((encC cs[j / 33]!)[j % 33]'(by rw [encC_len]; omega)) := List.getElem?_eq_getElem _
    have := flat_get (F := fun k => encC cs[k]!) (s := 33) cs.length (fun k _ => encC_len _) (j / 33) (j % 33) _ h1 hx
    rw [show j / 33 * 33 + j % 33 = j by omega, ← flat_cel] at this
    have eR : (cs.flatMap encC).toArray[j]? = some ((encC cs[j / 33]!)[j % 33]'(by rw [encC_len]; omega)) := by rw [List.getElem?_toArray]; exact this
    have e := Go.Sort.get_flatK encC 33 cs.toArray j (by simpa using hj)
    rw [eR, Array.getElem?_eq_getElem (by simpa using hj)]
    congr 1
    rw [getElem!_pos (Go.Sort.flatK encC 33 cs.toArray) j (by simpa using hj)] at e
    rw [e]
    have e2 : (cs.toArray)[j / 33]! = cs[j / 33]! := by simp [h1]
    rw [e2, getElem!_pos (encC cs[j / 33]!) (j % 33) (by rw [encC_len]; omega)]
  · rw [Array.getElem?_eq_none (by simpa using hj), Array.getElem?_eq_none (by simp [hl]; omega)]
theorem swo_C : Go.Sort.SWO (ltOf cfC) := by
  have tot : ∀ p q : List UInt8, p.length = 32 → q.length = 32 → p = q ∨ ltB p q ∨ ltB q p := fun p q hp hq => by
    by_cases h : com p q < 256
    · have h1 := com_agree p q; have h2 := com_ne p q h
      cases hb : bitN p (com p q) with
      | false => exact .inr (.inl ⟨_, h, h1, hb, by rw [hb] at h2; simpa using h2.symm⟩)
      | true => exact .inr (.inr ⟨_, h, h1.symm, by rw [hb] at h2; simpa using h2.symm, hb⟩)
    · exact .inl (agree_eq hp hq fun t ht => com_agree p q t (by omega))
  have e : ∀ x y : Cel, ltOf cfC x y = true ↔ ltB x.1.1 y.1.1 := fun x y => by
    unfold ltOf cfC; rw [decide_eq_true_eq]; exact cmp_ltB x.2.1 y.2.1
  have en : ∀ x y : Cel, ltOf cfC x y = false ↔ ¬ ltB x.1.1 y.1.1 := fun x y => by rw [← e, Bool.not_eq_true]
  refine ⟨fun x => (en x x).2 fun h => h.irr, fun x y z h1 h2 => (e x z).2 (((e x y).1 h1).trans ((e y z).1 h2)), fun x y z h1 h2 => (en x z).2 fun h => ?_⟩
  have h1 := (en x y).1 h1; have h2 := (en y z).1 h2
  rcases tot x.1.1 y.1.1 x.2.1 y.2.1 with q | q | q
  · rw [q] at h; exact h2 h
  · exact h1 q
  · exact h2 (q.trans h)
theorem srt_blk (cs : List Cel) (sp : List Value) (b cap : Nat) {t : TypeId} (w : World) (hb : Blk w b t (cs.flatMap encC ++ sp).toArray) (hsz : cs.length < 4611686018427387904) :
    Calls Tryz.prog 79 #[.slice (some ⟨b, 0, none⟩) cs.length cap, .func (.func 80) #[] #[]] w fun e w' => e = .returned (.tuple #[]) ∧
      ∃ ds : List Cel, ds.Perm cs ∧ (∀ i j, i < j → j < ds.length → ltOf cfC ds[j]! ds[i]! = false) ∧ Blk w' b t (ds.flatMap encC ++ sp).toArray ∧ (∀ j, j < w.heap.size → j ≠ b → w'.heap[j]? = w.heap[j]?) ∧ w.heap.size ≤ w'.heap.size ∧ w'.os = w.os ∧ w'.tape = w.tape ∧ w'.output = w.output := by
  have hl : (cs.flatMap encC).length = cs.length * 33 := by rw [flat_cel]; exact flat_len _ fun k _ => encC_len _
  have hH : Go.Sort.HoldsK encC 33 w b 0 cs.toArray := fun j hj => by
    have hj' : j < cs.length * 33 := by simpa using hj
    refine ⟨?_, frozen_of_row w b (0 + j) _ t hb⟩
    rw [hb.cell, Nat.zero_add, List.getElem?_toArray, List.getElem?_append_left (by omega), flatK_cel]
    rw [List.getElem?_eq_getElem (by omega)]
    simp [hl, hj', getElem!_pos]
  have h := AnyQ.slices_SortFunc srtL 33 Tryz.isAgg53 Tryz.sizeOf53 encC encC_len encC_one cfC swo_C 80 #[] b 0 cap cs.toArray w (enters_of Tryz.func80 (by kernel_rfl) rfl) (fun _ _ _ _ x y => srt_cmp x y _) hH hb.lt (by simpa using hsz)
  refine h.mono ?_
  rintro e w' ⟨rfl, d', n, os, ⟨p1, _, p3⟩, hs, rfl⟩
  have hsz' : d'.size = cs.length := by simpa using p1
  refine ⟨rfl, d'.toList, ?_, fun i j hij hj => ?_, ?_, fun j hj hne => ?_, ?_, rfl, rfl, rfl⟩
  · have e1 : (d'.extract 0 cs.toArray.size) = d' := by rw [← p1, Array.extract_size]
    have e2 : (cs.toArray.extract 0 cs.toArray.size) = cs.toArray := by rw [Array.extract_size]
    rw [e1, e2] at p3
    exact p3
  · have := hs i j (Nat.zero_le _) hij (by simp at hj ⊢; omega)
    rw [getElem!_pos d'.toList j hj, getElem!_pos d'.toList i (by omega)]
    rw [getElem!_pos d' j (by simpa using hj), getElem!_pos d' i (by simp at hj; omega)] at this
    simpa using this
  · have hsz2 : (d'.toList.flatMap encC).length = cs.length * 33 := by rw [flat_cel, flat_len _ fun k _ => encC_len _]; simp [hsz']
    have hblt := hb.lt
    unfold Blk at hb ⊢
    simp only [sortWorldK, Go.Sort.putRowK, Go.Sort.grow, Go.Sort.putRow, Go.Sort.mapBlock, Go.Sort.ahead]
    rw [Array.getElem?_append_left (by simpa using hblt), Array.getElem?_modify, if_pos rfl, hb]
    simp only [Option.map_some, Go.Sort.onCells]
    congr 2
    have ef := flatK_cel d'.toList
    rw [Array.toArray_toList] at ef
    apply Array.ext_getElem?
    intro j
    simp only [Go.Sort.putCells, Array.getElem?_mapIdx, List.getElem?_toArray, Nat.zero_le, true_and, Nat.zero_add, Nat.sub_zero, List.size_toArray]
    rw [ef]
    by_cases hj : j < cs.length * 33
    · rw [List.getElem?_append_left (by omega), List.getElem?_append_left (by omega)]
      simp [hj, getElem!_pos, hl, hsz2]
    · rw [List.getElem?_append_right (by omega), List.getElem?_append_right (by omega), hl, hsz2]
      simp only [List.size_toArray, hsz2]
      cases sp[j - cs.length * 33]? with
      | none => rfl
      | some x => simp [hj]
  · simp only [sortWorldK, Go.Sort.putRowK, Go.Sort.grow, Go.Sort.putRow, Go.Sort.mapBlock, Go.Sort.ahead]
    rw [Array.getElem?_append_left (by simpa using hj), Array.getElem?_modify, if_neg (fun e => hne e.symm)]
  · simp [sortWorldK, Go.Sort.putRowK, Go.Sort.grow, Go.Sort.putRow, Go.Sort.mapBlock, Go.Sort.ahead]
end Go.Proofs.YtgffimanhmpohaaGreat
/- Entries. -/
namespace Go.Proofs.YtgffimanhmpohaaGreat
open Go Go.RowKit
abbrev Pr := List UInt8 × List UInt8
abbrev prT : Ty := .cn (.ba 32) (.cn .sc .nl)
def prA (p : Pr) : AV := .st [.ba p.1, .bs p.2 none]
end Go.Proofs.YtgffimanhmpohaaGreat
/- Entries by rising key; slices.SortFunc in values. -/
namespace Go.Proofs.YtgffimanhmpohaaGreat
open Go Go.RowKit
def K32 (l : List Pr) : Prop := ∀ x ∈ l, x.1.length = 32
def Dis (l : List Pr) : Prop := l.Pairwise fun x y => x.1 ≠ y.1
def Ris (l : List Pr) : Prop := l.Pairwise fun x y => ltB x.1 y.1
theorem ltB_tot {p q : List UInt8} (hp : p.length = 32) (hq : q.length = 32) : p = q ∨ ltB p q ∨ ltB q p := by
  by_cases h : com p q < 256
  · have h1 := com_agree p q; have h2 := com_ne p q h
    cases hb : bitN p (com p q) with
    | false => exact .inr (.inl ⟨_, h, h1, hb, by rw [hb] at h2; simpa using h2.symm⟩)
    | true => exact .inr (.inr ⟨_, h, h1.symm, by rw [hb] at h2; simpa using h2.symm, hb⟩)
  · exact .inl (agree_eq hp hq fun t ht => com_agree p q t (by omega))
def ins (p : Pr) : List Pr → List Pr
  | [] => [p]
  | q :: l => if Lib.compareBytes p.1 q.1 < 0 then p :: q :: l else q :: ins p l
theorem ins_perm (p : Pr) : ∀ l, (ins p l).Perm (p :: l)
  | [] => .refl _
  | q :: l => by
    unfold ins
    split
    · exact .refl _
    · exact ((ins_perm p l).cons q).trans (.swap p q l)
def srt (l : List Pr) : List Pr := l.foldr ins []
theorem srt_perm : ∀ l, (srt l).Perm l
  | [] => .refl _
  | p :: l => (ins_perm p (srt l)).trans ((srt_perm l).cons p)
theorem ins_ris (p : Pr) (hp : p.1.length = 32) : ∀ l, K32 l → Ris l → (∀ x ∈ l, p.1 ≠ x.1) → Ris (ins p l)
  | [], _, _, _ => by unfold ins Ris; simp
  | q :: l, hk, hr, hn => by
    obtain ⟨h1, h2⟩ := List.pairwise_cons.1 hr
    have hq := hk q List.mem_cons_self
    have hc : Lib.compareBytes p.1 q.1 < 0 ↔ ltB p.1 q.1 := cmp_ltB hp hq
    unfold ins
    split
    · rename_i hlt
      refine List.pairwise_cons.2 ⟨fun y hy => ?_, hr⟩
      rcases List.mem_cons.1 hy with rfl | hy
      · exact hc.1 hlt
      · exact (hc.1 hlt).trans (h1 y hy)
    · rename_i hlt
      refine List.pairwise_cons.2 ⟨fun y hy => ?_, ins_ris p hp l (fun x hx => hk x (List.mem_cons_of_mem _ hx)) h2 fun x hx => hn x (List.mem_cons_of_mem _ hx)⟩
      rcases List.mem_cons.1 ((ins_perm p l).mem_iff.1 hy) with rfl | hy
      · rcases ltB_tot hp hq with e | e | e
        · exact absurd e (hn q List.mem_cons_self)
        · exact absurd (hc.2 e) hlt
        · exact e
      · exact h1 y hy
theorem K32.perm {l m : List Pr} (h : K32 l) (hp : m.Perm l) : K32 m := fun x hx => h x (hp.mem_iff.1 hx)
theorem srt_ris : ∀ l, K32 l → Dis l → Ris (srt l)
  | [], _, _ => List.Pairwise.nil
  | p :: l, hk, hd => by
    obtain ⟨h1, h2⟩ := List.pairwise_cons.1 hd
    have hk2 : K32 l := fun x hx => hk x (List.mem_cons_of_mem _ hx)
    exact ins_ris p (hk p List.mem_cons_self) (srt l) (hk2.perm (srt_perm l)) (srt_ris l hk2 h2) fun x hx => h1 x ((srt_perm l).mem_iff.1 hx)
theorem ris_uniq : ∀ l m : List Pr, Ris l → Ris m → l.Perm m → l = m
  | [], m, _, _, h => (List.nil_perm.1 h).symm
  | a :: l, [], _, _, h => absurd h.length_eq (by simp)
  | a :: l, b :: m, h1, h2, h => by
    obtain ⟨a1, a2⟩ := List.pairwise_cons.1 h1
    obtain ⟨b1, b2⟩ := List.pairwise_cons.1 h2
    have e : a = b := by
      rcases List.mem_cons.1 (h.mem_iff.1 List.mem_cons_self) with e | e
      · exact e
      · rcases List.mem_cons.1 (h.symm.mem_iff.1 List.mem_cons_self) with e2 | e2
        · exact e2.symm
        · exact ((a1 b e2).trans (b1 a e)).irr.elim
    subst e
    rw [ris_uniq l m a2 b2 (List.Perm.cons_inv h)]
theorem perm_lift {α β : Type} {f : α → β} {cs ds : List β} (h : cs.Perm ds) : ∀ z : List α, z.map f = cs → ∃ z', z.Perm z' ∧ z'.map f = ds := by
  induction h with
  | nil => intro z hz; exact ⟨z, .refl _, hz⟩
  | cons x h ih =>
    intro z hz
    cases z with
    | nil => cases hz
    | cons y z =>
      simp only [List.map_cons, List.cons.injEq] at hz
      obtain ⟨z', h1, h2⟩ := ih z hz.2
      exact ⟨y :: z', h1.cons y, by simp [hz.1, h2]⟩
  | swap x y l =>
    intro z hz
    match z, hz with
    | a :: b :: z, hz =>
      simp only [List.map_cons, List.cons.injEq] at hz
      exact ⟨b :: a :: z, .swap b a z, by simp [hz.1, hz.2.1, hz.2.2]⟩
  | trans h1 h2 ih1 ih2 =>
    intro z hz
    obtain ⟨z', k1, k2⟩ := ih1 z hz
    obtain ⟨z'', k3, k4⟩ := ih2 z' k2
    exact ⟨z'', k1.trans k3, k4⟩
/-- What the sort leaves is the sorted list, entry by entry. -/
theorem srt_of (zs : List (Pr × Cel)) (hz : ∀ z ∈ zs, z.2.1.1 = z.1.1) (hd : Dis (zs.map (·.1))) {ds : List Cel} (hp : ds.Perm (zs.map (·.2))) (hs : ∀ i j, i < j → j < ds.length → ltOf cfC ds[j]! ds[i]! = false) :
    ∃ z' : List (Pr × Cel), z'.Perm zs ∧ z'.map (·.2) = ds ∧ z'.map (·.1) = srt (zs.map (·.1)) := by
  obtain ⟨z', h1, h2⟩ := perm_lift hp.symm zs rfl
  refine ⟨z', h1.symm, h2, ?_⟩
  have hk : K32 (zs.map (·.1)) := fun x hx => by
    obtain ⟨z, hz1, rfl⟩ := List.mem_map.1 hx
    rw [← hz z hz1]; exact z.2.2.1
  have hpm : (z'.map (·.1)).Perm (zs.map (·.1)) := (h1.map _).symm
  refine ris_uniq _ _ ?_ (srt_ris _ hk hd) (hpm.trans (srt_perm _).symm)
  have hd' : Dis (z'.map (·.1)) := (hpm.pairwise_iff (fun h => h.symm)).2 hd
  unfold Ris
  rw [List.pairwise_iff_getElem]
  intro i j hi hj hij
  have hj' : j < z'.length := by simpa using hj
  have hi' : i < z'.length := by omega
  have hne := (List.pairwise_iff_getElem.1 hd') i j hi hj hij
  rw [List.getElem_map, List.getElem_map] at hne ⊢
  have hzi : z'[i].2.1.1 = z'[i].1.1 := hz _ (h1.symm.mem_iff.1 (List.getElem_mem hi'))
  have hzj : z'[j].2.1.1 = z'[j].1.1 := hz _ (h1.symm.mem_iff.1 (List.getElem_mem hj'))
  have hs' := hs i j hij (by rw [← h2]; simpa using hj')
  have ei : ds[i]! = z'[i].2 := by rw [← h2]; simp [hi']
  have ej : ds[j]! = z'[j].2 := by rw [← h2]; simp [hj']
  rw [ei, ej] at hs'
  unfold ltOf cfC at hs'
  rw [decide_eq_false_iff_not, cmp_ltB z'[j].2.2.1 z'[i].2.2.1, hzi, hzj] at hs'
  have l1 : z'[i].1.1.length = 32 := by rw [← hzi]; exact z'[i].2.2.1
  have l2 : z'[j].1.1.length = 32 := by rw [← hzj]; exact z'[j].2.2.1
  rcases ltB_tot l1 l2 with e | e | e
  · exact absurd e hne
  · exact e
  · exact absurd e hs'
end Go.Proofs.YtgffimanhmpohaaGreat
/- slices.SortFunc in values: a box that grows holds the entries sorted. -/
namespace Go.Proofs.YtgffimanhmpohaaGreat
open Go Go.RowKit
theorem pr_cel {g : Gh} {p : Pr} {cs : List Value} (h : RC g prT (prA p) cs) : ∃ c : Cel, c.1.1 = p.1 ∧ cs = encC c := by
  unfold prA at h
  obtain ⟨c, d, rfl, h1, h2⟩ := h.st_inv
  obtain ⟨c2, d2, rfl, h3, h4⟩ := h2.st_inv
  obtain ⟨e1, rfl⟩ := h1.ba_inv
  injection e1 with e1
  obtain ⟨_, A, c, rfl, _⟩ := h3.bs_inv
  cases h4
  exact ⟨⟨(p.1, .slice A p.2.length c), e1.symm, rfl⟩, rfl, by simp [encC]⟩
theorem zip_of {g : Gh} {F : Nat → List Value} : ∀ (l : List Pr) (s : Nat), (∀ k (h : k < l.length), RC g prT (prA l[k]) (F (s + k))) → ∃ zs : List (Pr × Cel), zs.map (·.1) = l ∧ (∀ z ∈ zs, z.2.1.1 = z.1.1 ∧ RC g prT (prA z.1) (encC z.2)) ∧ (List.range l.length).flatMap (fun k => F (s + k)) = (zs.map (·.2)).flatMap encC
  | [], _, _ => ⟨[], rfl, (fun z hz => (by cases hz)), rfl⟩
  | p :: l, s, h => by
    obtain ⟨zs, h1, h2, h3⟩ := zip_of l (s + 1) fun k hk => by
      have := h (k + 1) (by simpa using hk)
      rw [show s + 1 + k = s + (k + 1) by omega]
      simpa using this
    have h0 := h 0 (by simp)
    simp only [List.getElem_cons_zero, Nat.add_zero] at h0
    obtain ⟨c, hc1, hc2⟩ := pr_cel h0
    refine ⟨(p, c) :: zs, by simp [h1], fun z hz => ?_, ?_⟩
    · rcases List.mem_cons.1 hz with rfl | hz
      · exact ⟨hc1, by rw [← hc2]; exact h0⟩
      · exact h2 z hz
    · rw [List.length_cons, List.range_succ_eq_map, List.flatMap_cons, List.flatMap_map, Nat.add_zero, hc2]
      simp only [List.map_cons, List.flatMap_cons]
      congr 1
      rw [← h3]
      congr 1
      funext k
      show F (s + (k + 1)) = F (s + 1 + k)
      congr 1; omega
theorem sort_v (l : List Pr) (γ : Nat) (hd : Dis l) (hn : l.length ≤ 4294967296) : VX Tryz.prog 79 [(.vc 53 prT, .vc γ (l.map prA))] [] [] [.vw 0 γ l.length, .v (.func (.func 80) #[] #[])]
    [(.vc 53 prT, .vc γ ((srt l).map prA))] [] [] (.tup []) := by
  refine ⟨⟨Tryz.f79, Tryz.func79, by kernel_rfl, by kernel_rfl⟩, fun w N vs HI hlen hv => ?_⟩
  obtain ⟨v, u, rfl⟩ : ∃ v u, vs = [v, u] := by
    match vs, hlen with
    | [v, u], _ => exact ⟨v, u, rfl⟩
  have h0 := hv 0 _ v rfl rfl
  have hu := (hv 1 _ u rfl rfl).v_inv
  subst hu
  obtain ⟨_, y, e9, T9, A, c, e1, hy, hty, hle, hnc, hm, hxx⟩ := h0.vw_inv.vw_inv
  injection e1 with e1; subst e1
  obtain ⟨y', hy', hyT, hbc⟩ := HI.br.at_ 0 _ _ (by rfl)
  rw [hy] at hy'; injection hy' with hy'; subst hy'
  obtain ⟨T2, F, sp, ⟨e4, he4, htid⟩, hmp, hgen, hT0, hcm, hcs, hcl, hsp, hFk⟩ := hbc.vc_inv
  injection he4 with he40 he41; subst he40 he41
  obtain ⟨hcc, hA⟩ := hxx hgen
  have hlm : (l.map prA).length = l.length := List.length_map ..
  obtain ⟨zs, z1, z2, z3⟩ := zip_of (g := N.base) (F := F) l 0 fun k hk => by
    have := hFk k (by rw [hlm]; exact hk)
    rw [List.getElem_map] at this
    rw [Nat.zero_add]; exact this
  simp only [Nat.zero_add] at z3
  have hzl : zs.length = l.length := by rw [← z1, List.length_map]
  have hfz : y.fz = false := by
    cases e : y.fz with
    | false => rfl
    | true => exact absurd (HI.fz 0 y hy e) (by simp)
  rw [hlm] at hcs
  rcases hA with ⟨ho, rfl⟩ | ⟨ho, rfl⟩
  · have hc0 := hcm.2 ho
    have hl0 : l = [] := List.length_eq_zero_iff.1 (by omega)
    subst hl0
    refine (AnyF.slices_SortFunc_none srtL none c _ w).mono ?_
    rintro e w' ⟨rfl, rfl⟩
    exact ⟨N, _, rfl, HI, ⟨[], rfl, rfl, fun i a u ha _ => by simp at ha⟩⟩
  · have hblk := (HI.mem.bx 0 y hy ho).c hmp
    rw [htid, hcs, z3] at hblk
    have hsb := srt_blk (zs.map (·.2)) sp y.blk c w hblk (by rw [List.length_map]; omega)
    rw [List.length_map, hzl] at hsb
    refine hsb.mono ?_
    rintro e w' ⟨rfl, ds, hp, hs, hb2, hold, hsz, ho2, ht2, hu2⟩
    obtain ⟨z', p1, p2, p3⟩ := srt_of zs (fun z hz => (z2 z hz).1) (by rw [z1]; exact hd) hp hs
    rw [z1] at p3
    have hz'l : z'.length = l.length := by rw [← hzl]; exact p1.length_eq
    have hsl : (srt l).length = l.length := (srt_perm l).length_eq
    have hds : ds.flatMap encC = (List.range l.length).flatMap fun k => encC ds[k]! := by
      rw [flat_cel, show ds.length = l.length by rw [← p2, List.length_map, hz'l]]
    have hF2 : ∀ k, k < l.length → RC N.base prT (prA ((srt l)[k]!)) (encC ds[k]!) := fun k hk => by
      have hk' : k < z'.length := by omega
      have e1 : ds[k]! = z'[k].2 := by rw [← p2]; simp [hk']
      have e2 : (srt l)[k]! = z'[k].1 := by rw [← p3]; simp [hk']
      rw [e1, e2]
      exact (z2 _ (p1.mem_iff.1 (List.getElem_mem hk'))).2
    have hlen2 : (ds.flatMap encC).length = (zs.map (·.2)).length * 33 := by rw [hds, flat_len _ fun k _ => encC_len _, List.length_map, hzl]
    have hlen1 : ((zs.map (·.2)).flatMap encC).length = (zs.map (·.2)).length * 33 := by rw [flat_cel, flat_len _ fun k _ => encC_len _]
    obtain ⟨g', h1, h2, h3⟩ := HI.upd (x' := { y with cells := ds.flatMap encC ++ sp }) (w' := w') (a := .vc γ ((srt l).map prA)) hy (by simp)
      (by unfold Bx.own; rw [ho]; exact ⟨ho2, ht2, hu2, hsz, fun k hk hne => hold k hk (fun e => hne (by rw [e]; rfl))⟩) rfl hfz (Nat.le_refl _) (fun _ => ⟨rfl, rfl, rfl⟩)
      (fun _ => ⟨.of hmp (by show Blk w' y.blk y.tid _; rw [htid]; exact hb2), .inr ⟨ho, rfl⟩⟩) (fun e => by rw [show ({ y with cells := ds.flatMap encC ++ sp } : Bx).off = y.off from rfl, ho] at e; cases e) (fun e => by rw [show ({ y with cells := ds.flatMap encC ++ sp } : Bx).mp = y.mp from rfl, hmp] at e; cases e)
      (by
        rw [hyT]
        refine .inr (.inl ⟨prT, γ, (srt l).map prA, fun k => encC ds[k]!, sp, ⟨_, rfl, htid⟩, rfl, hmp, hgen, hT0, hcm, ?_, ?_, hsp, fun k hk => ?_⟩)
        · show ds.flatMap encC ++ sp = _
          rw [hds, List.length_map, hsl]
        · show (ds.flatMap encC ++ sp).length = _
          rw [← hcl, hcs, z3, List.length_append, List.length_append, hlen2, hlen1]
        · rw [List.length_map] at hk
          rw [List.getElem_map]
          have := hF2 k (by omega)
          rw [getElem!_pos (srt l) k hk] at this
          exact this)
    rw [hyT] at h2
    exact ⟨g', _, rfl, h2, ⟨[], rfl, rfl, fun i a u ha _ => by simp at ha⟩⟩
end Go.Proofs.YtgffimanhmpohaaGreat
