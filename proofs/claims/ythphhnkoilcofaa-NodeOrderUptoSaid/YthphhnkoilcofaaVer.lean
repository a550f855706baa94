/- Keys as ways down: bits, how many are shared, what rises. In plain Lean. -/
import Derived.Test.YthphhnkoilcofaaBits
import Derived.Lib.BitFns
import Derived.Lib.Bytealg
import Derived.Shelf.SlSortCmp.WholeK
import Derived.DeepKeys3
import Derived.BigQuiet
import Derived.BigRegion
import Derived.Shelf.SlSortCmp.QuietGrown
import Derived.Shelf.SlSortCmp.NoneTotal
import Derived.Test.YthphhnkoilcofaaRows
import Derived.OpenShut
import Derived.Carry
import Derived.WalkKit
import Derived.ProofKit
import Derived.JoinedCond
import Derived.Lib.SliceRun
set_option linter.unusedSimpArgs false
set_option linter.unusedVariables false
namespace Go.Proofs.Ythphhnkoilcofaa
open Go Go.RowKit
def bitN (p : List UInt8) (d : Nat) : Bool := bitAt (p.getD (d / 8) 0) (d % 8)
def pbit (p : List UInt8) (d : Int) : Int := if 0 ≤ d ∧ d < 256 then (if bitN p d.toNat then 1 else 0) else -1
def comF (p q : List UInt8) : Nat → Nat → Nat
  | 0, d => d
  | f + 1, d => if bitN p d = bitN q d then comF p q f (d + 1) else d
def com (p q : List UInt8) : Nat := comF p q 256 0
def agree (d : Nat) (p q : List UInt8) : Prop := ∀ t, t < d → bitN p t = bitN q t
theorem comF_spec (p q : List UInt8) : ∀ f d, d ≤ comF p q f d ∧ comF p q f d ≤ d + f ∧ (∀ t, d ≤ t → t < comF p q f d → bitN p t = bitN q t) ∧ (comF p q f d < d + f → bitN p (comF p q f d) ≠ bitN q (comF p q f d))
  | 0, d => ⟨Nat.le_refl _, Nat.le_refl _, fun t h1 h2 => by simp only [comF] at h2; omega, fun h => by simp only [comF] at h; omega⟩
  | f + 1, d => by
    have ih := comF_spec p q f (d + 1)
    simp only [comF]
    split
    · rename_i he
      obtain ⟨h1, h2, h3, h4⟩ := ih
      refine ⟨by omega, by omega, fun t ht hl => ?_, fun h => h4 (by omega)⟩
      by_cases htd : t = d
      · subst htd; exact he
      · exact h3 t (by omega) hl
    · rename_i he
      exact ⟨Nat.le_refl _, by omega, fun t h1 h2 => by omega, fun _ => he⟩
theorem com_le (p q : List UInt8) : com p q ≤ 256 := by have := (comF_spec p q 256 0).2.1; simpa [com] using this
theorem com_agree (p q : List UInt8) : agree (com p q) p q := fun t ht => (comF_spec p q 256 0).2.2.1 t (Nat.zero_le _) ht
theorem com_ne (p q : List UInt8) (h : com p q < 256) : bitN p (com p q) ≠ bitN q (com p q) := (comF_spec p q 256 0).2.2.2 (by simpa [com] using h)
theorem com_of {p q : List UInt8} {c : Nat} (hc : c ≤ 256) (h : agree c p q) (hn : c < 256 → bitN p c ≠ bitN q c) : com p q = c := by
  have h1 := com_le p q; have h2 := com_agree p q; have h3 := com_ne p q
  rcases Nat.lt_trichotomy (com p q) c with hl | he | hg
  · exact absurd (h _ hl) (h3 (by omega))
  · exact he
  · exact absurd (h2 _ hg) (hn (by omega))
theorem com_ge {p q : List UInt8} {d : Nat} (hd : d ≤ 256) : d ≤ com p q ↔ agree d p q := by
  constructor
  · intro h t ht; exact com_agree p q t (by omega)
  · intro h
    rcases Nat.lt_or_ge (com p q) d with hl | hg
    · exact absurd (h _ hl) (com_ne p q (by omega))
    · exact hg
theorem com_self (p : List UInt8) : com p p = 256 := com_of (Nat.le_refl _) (fun _ _ => rfl) (fun h => absurd h (by decide))
theorem agree_refl (d : Nat) (p : List UInt8) : agree d p p := fun _ _ => rfl
theorem agree.symm {d : Nat} {p q : List UInt8} (h : agree d p q) : agree d q p := fun t ht => (h t ht).symm
theorem agree.trans {d : Nat} {p q r : List UInt8} (h : agree d p q) (k : agree d q r) : agree d p r := fun t ht => (h t ht).trans (k t ht)
set_option maxRecDepth 100000 in
theorem bitAt_test8 : ∀ n : Fin 256, ∀ m : Fin 8, bitAt (UInt8.ofNat n.val) m.val = n.val.testBit (7 - m.val) := by decide +kernel
theorem bitAt_test (c : UInt8) (m : Nat) (hm : m < 8) : bitAt c m = c.toNat.testBit (7 - m) := by
  have := bitAt_test8 ⟨c.toNat, c.toNat_lt⟩ ⟨m, hm⟩
  simpa using this
set_option maxRecDepth 100000 in
theorem lead8 : ∀ n : Fin 256, n.val ≠ 0 → Lib.bitLen n.val ≤ 8 ∧ 8 - Lib.bitLen n.val < 8 ∧ (∀ t : Fin 8, t.val < 8 - Lib.bitLen n.val → bitAt (UInt8.ofNat n.val) t.val = false) ∧ bitAt (UInt8.ofNat n.val) (8 - Lib.bitLen n.val) = true := by decide +kernel
/-- The first bit in which two bytes part. -/
theorem lead_xor (x y : UInt8) (h : x ≠ y) : 8 - Lib.bitLen (x ^^^ y).toNat < 8 ∧ Lib.bitLen (x ^^^ y).toNat ≤ 8 ∧ (∀ t, t < 8 - Lib.bitLen (x ^^^ y).toNat → bitAt x t = bitAt y t) ∧ bitAt x (8 - Lib.bitLen (x ^^^ y).toNat) ≠ bitAt y (8 - Lib.bitLen (x ^^^ y).toNat) := by
  have hx : ∀ m, m < 8 → bitAt (x ^^^ y) m = (bitAt x m ^^ bitAt y m) := fun m hm => by
    rw [bitAt_test _ _ hm, bitAt_test _ _ hm, bitAt_test _ _ hm, UInt8.toNat_xor, Nat.testBit_xor]
  have hne : (x ^^^ y).toNat ≠ 0 := fun e => h (by
    have : x ^^^ y = 0 := UInt8.toNat_inj.1 (by simpa using e)
    exact UInt8.xor_eq_zero_iff.1 this)
  obtain ⟨h1, h2, h3, h4⟩ := lead8 ⟨(x ^^^ y).toNat, (x ^^^ y).toNat_lt⟩ hne
  simp only [UInt8.ofNat_toNat] at h3 h4 h1 h2
  refine ⟨h2, h1, fun t ht => ?_, fun e => ?_⟩
  · have := h3 ⟨t, by omega⟩ ht
    rw [hx t (by omega)] at this
    simpa using this
  · rw [hx _ h2, e] at h4
    simp at h4
theorem lt_bit (x y : UInt8) (h : x ≠ y) : x < y ↔ bitAt x (8 - Lib.bitLen (x ^^^ y).toNat) = false := by
  obtain ⟨h1, h2, h3, h4⟩ := lead_xor x y h
  have key : ∀ a b : UInt8, (∀ t, t < 8 - Lib.bitLen (x ^^^ y).toNat → bitAt a t = bitAt b t) → bitAt a (8 - Lib.bitLen (x ^^^ y).toNat) = false → bitAt b (8 - Lib.bitLen (x ^^^ y).toNat) = true → a < b := fun a b k1 k2 k3 => by
    rw [UInt8.lt_iff_toNat_lt]
    generalize hc : 8 - Lib.bitLen (x ^^^ y).toNat = c at *
    rw [bitAt_test _ _ h1] at k2 k3
    have e1 : a.toNat / 2 ^ (7 - c + 1) = b.toNat / 2 ^ (7 - c + 1) := by
      apply Nat.eq_of_testBit_eq
      intro i
      rw [Nat.testBit_div_two_pow, Nat.testBit_div_two_pow]
      by_cases hi : i + (7 - c + 1) < 8
      · have := k1 (7 - (i + (7 - c + 1))) (by omega)
        rw [bitAt_test _ _ (by omega), bitAt_test _ _ (by omega), show 7 - (7 - (i + (7 - c + 1))) = i + (7 - c + 1) by omega] at this
        first | exact this | (rw [Nat.add_comm]; exact this)
      · have h2 : ∀ u : UInt8, ∀ j, 8 ≤ j → u.toNat.testBit j = false := fun u j hj => Nat.testBit_lt_two_pow (Nat.lt_of_lt_of_le u.toNat_lt (Nat.pow_le_pow_right (by decide) hj))
        rw [h2 _ _ (by omega), h2 _ _ (by omega)]
    have e2 : ∀ n : Nat, n / 2 ^ (7 - c) = 2 * (n / 2 ^ (7 - c + 1)) + n / 2 ^ (7 - c) % 2 := fun n => by
      have : n / 2 ^ (7 - c + 1) = n / 2 ^ (7 - c) / 2 := by rw [Nat.pow_succ, Nat.div_div_eq_div_mul]
      omega
    rw [Nat.testBit_eq_decide_div_mod_eq] at k2 k3
    have k2' : a.toNat / 2 ^ (7 - c) % 2 ≠ 1 := by simpa using k2
    have k3' : b.toNat / 2 ^ (7 - c) % 2 = 1 := by simpa using k3
    have e3 := e2 a.toNat; have e4 := e2 b.toNat
    rw [e1] at e3
    refine Classical.byContradiction fun hn => ?_
    have := Nat.div_le_div_right (c := 2 ^ (7 - c)) (Nat.le_of_not_lt hn)
    omega
  constructor
  · intro hl
    cases hb : bitAt x (8 - Lib.bitLen (x ^^^ y).toNat)
    · rfl
    · exfalso
      rw [hb] at h4
      have := key y x (fun t ht => (h3 t ht).symm) (by simpa using h4.symm) hb
      rw [UInt8.lt_iff_toNat_lt] at this hl
      omega
  · intro hb
    rw [hb] at h4
    exact key x y h3 hb (by simpa using h4.symm)
/-- The lesser key, by bits. -/
def ltB (p q : List UInt8) : Prop := ∃ c, c < 256 ∧ agree c p q ∧ bitN p c = false ∧ bitN q c = true
theorem ltB.trans {p q r : List UInt8} (h : ltB p q) (k : ltB q r) : ltB p r := by
  obtain ⟨c, hc, h1, h2, h3⟩ := h
  obtain ⟨d, hd, k1, k2, k3⟩ := k
  rcases Nat.lt_trichotomy c d with hl | rfl | hg
  · exact ⟨c, hc, fun t ht => (h1 t ht).trans (k1 t (by omega)), h2, (k1 c hl) ▸ h3⟩
  · rw [h3] at k2; cases k2
  · exact ⟨d, hd, fun t ht => (h1 t (by omega)).trans (k1 t ht), (h1 d hg).trans k2, k3⟩
theorem ltB.irr {p : List UInt8} (h : ltB p p) : False := by obtain ⟨c, _, _, h2, h3⟩ := h; rw [h2] at h3; cases h3
theorem bitN_cons_lt (x : UInt8) (p : List UInt8) (t : Nat) (h : t < 8) : bitN (x :: p) t = bitAt x t := by
  unfold bitN; rw [Nat.div_eq_of_lt h, Nat.mod_eq_of_lt h]; rfl
theorem bitN_cons_ge (x : UInt8) (p : List UInt8) (t : Nat) : bitN (x :: p) (t + 8) = bitN p t := by
  unfold bitN; rw [Nat.add_div_right _ (by decide), Nat.add_mod_right]; rfl
theorem cmp_lt : ∀ p q : List UInt8, p.length = q.length → (Lib.compareBytes p q < 0 ↔ ∃ c, c < 8 * p.length ∧ agree c p q ∧ bitN p c = false ∧ bitN q c = true)
  | [], [], _ => by simp [Lib.compareBytes]
  | [], _ :: _, h => by cases h
  | _ :: _, [], h => by cases h
  | x :: p, y :: q, h => by
    have hl : p.length = q.length := by simpa using h
    have ih := cmp_lt p q hl
    by_cases he : x = y
    · subst he
      have e : Lib.compareBytes (x :: p) (x :: q) = Lib.compareBytes p q := by
        simp [Lib.compareBytes]
      rw [e, ih]
      constructor
      · rintro ⟨c, hc, h1, h2, h3⟩
        refine ⟨c + 8, by rw [List.length_cons]; omega, fun t ht => ?_, by rw [bitN_cons_ge]; exact h2, by rw [bitN_cons_ge]; exact h3⟩
        by_cases ht8 : t < 8
        · rw [bitN_cons_lt _ _ _ ht8, bitN_cons_lt _ _ _ ht8]
        · obtain ⟨t', rfl⟩ : ∃ t', t = t' + 8 := ⟨t - 8, by omega⟩
          rw [bitN_cons_ge, bitN_cons_ge]; exact h1 t' (by omega)
      · rintro ⟨c, hc, h1, h2, h3⟩
        by_cases hc8 : c < 8
        · rw [bitN_cons_lt _ _ _ hc8] at h2 h3; rw [h2] at h3; cases h3
        · obtain ⟨c', rfl⟩ : ∃ t', c = t' + 8 := ⟨c - 8, by omega⟩
          rw [bitN_cons_ge] at h2 h3
          refine ⟨c', by rw [List.length_cons] at hc; omega, fun t ht => ?_, h2, h3⟩
          have := h1 (t + 8) (by omega)
          rwa [bitN_cons_ge, bitN_cons_ge] at this
    · obtain ⟨l1, l2, l3, l4⟩ := lead_xor x y he
      have lb := lt_bit x y he
      have e : Lib.compareBytes (x :: p) (y :: q) < 0 ↔ x < y := by
        simp only [Lib.compareBytes]
        split
        · rename_i hxy; simp [hxy]
        · rename_i hxy
          constructor
          · intro h; exfalso; revert h
            split
            · simp
            · rename_i hyx
              exfalso; apply he; apply UInt8.toNat_inj.1
              rw [UInt8.lt_iff_toNat_lt] at hxy hyx; omega
          · intro h; exact absurd h hxy
      rw [e, lb]
      constructor
      · intro hb
        rw [hb] at l4
        refine ⟨8 - Lib.bitLen (x ^^^ y).toNat, by rw [List.length_cons]; omega, fun t ht => ?_, by rw [bitN_cons_lt _ _ _ l1]; exact hb, by rw [bitN_cons_lt _ _ _ l1]; simpa using l4.symm⟩
        rw [bitN_cons_lt _ _ _ (by omega), bitN_cons_lt _ _ _ (by omega)]; exact l3 t ht
      · rintro ⟨c, hc, h1, h2, h3⟩
        have hce : c = 8 - Lib.bitLen (x ^^^ y).toNat := by
          rcases Nat.lt_trichotomy c (8 - Lib.bitLen (x ^^^ y).toNat) with hl | he | hg
          · rw [bitN_cons_lt _ _ _ (by omega)] at h2 h3
            rw [l3 c hl, h3] at h2; cases h2
          · exact he
          · have := h1 _ hg
            rw [bitN_cons_lt _ _ _ l1, bitN_cons_lt _ _ _ l1] at this
            exact absurd this l4
        subst hce
        rwa [bitN_cons_lt _ _ _ l1] at h2
theorem cmp_ltB {p q : List UInt8} (hp : p.length = 32) (hq : q.length = 32) : Lib.compareBytes p q < 0 ↔ ltB p q := by
  rw [cmp_lt p q (by omega), hp]; rfl
theorem agree_all : ∀ p q : List UInt8, p.length = q.length → agree (8 * p.length) p q → p = q
  | [], [], _, _ => rfl
  | [], _ :: _, h, _ => by cases h
  | _ :: _, [], h, _ => by cases h
  | x :: p, y :: q, h, ha => by
    have hl : p.length = q.length := by simpa using h
    have e := agree_all p q hl fun t ht => by
      have := ha (t + 8) (by rw [List.length_cons]; omega)
      rwa [bitN_cons_ge, bitN_cons_ge] at this
    by_cases hx : x = y
    · rw [e, hx]
    · exfalso
      obtain ⟨l1, l2, l3, l4⟩ := lead_xor x y hx
      have := ha (8 - Lib.bitLen (x ^^^ y).toNat) (by rw [List.length_cons]; omega)
      rw [bitN_cons_lt _ _ _ l1, bitN_cons_lt _ _ _ l1] at this
      exact l4 this
theorem agree_eq {p q : List UInt8} (hp : p.length = 32) (hq : q.length = 32) (h : agree 256 p q) : p = q := agree_all p q (by omega) (by rw [hp]; exact h)
end Go.Proofs.Ythphhnkoilcofaa
/- Keys as ways down: the program's and the document's functions. -/
namespace Go.Proofs.Ythphhnkoilcofaa
open Go Go.RowKit
theorem e7w (d : Int) (h0 : 0 ≤ d) : (if (d % 8).toNat ≤ 8 then (d % 8).toNat else 8) = d.toNat % 8 := by split <;> omega
theorem e8w (d : Int) (h0 : 0 ≤ d) : (d / 8).toNat = d.toNat / 8 := by omega
theorem mask_v (d : Int) (h0 : 0 ≤ d) (h1 : d < 256) : VC Try.prog 112 [.v (.int .i64 d)] [] (.v (.int .u8 (128 / 2 ^ (d.toNat % 8)))) := by
  have e7 := e7w d h0
  refine mE Try.func112 ?_; intro N w0 a w hN hR H
  have hX := @e7
  have hY := @e7
  refine mW ?_; clear H; intro a w H
  refine wp_ret ?_; exact mEnd [] [] [.tmp 2] [_] hN hR H
set_option maxRecDepth 20000 in
theorem bit_v (p : List UInt8) (hp : p.length = 32) (d : Int) : VC Try.prog 66 [.ba p, .v (.int .i64 d)] [] (.v (.int .i64 (pbit p d))) := by
  refine mE Try.func66 ?_; intro N w0 a w hN hR H
  refine mW ?_; clear H; intro a w H
  by_cases h : 0 ≤ d ∧ d < 256
  · have hm := mask_v d h.1 h.2
    have e8 := e8w d h.1
    rw [pbit, if_pos h]
    have h1 := h.1; have h2 := h.2
    refine mC H (fun hb => ?_) (fun hb => ?_)
    · exfalso; simp at hb; omega
    · refine mS ?_; refine mD 1 [5] [0, 1, 2, 3] H ?_; clear H; intro gS H; refine mT ?_; clear H; intro a w H
      refine mCallT [] [] (hm) H ?_; clear H; intro a w H
      have hX := @e8
      have hY := @e8
      refine mT ?_; clear H; intro a w H
      refine v_drawNil H ?_; clear H; intro H
      rw [and_bit] at H
      have eb : bitAt (p.getD (d.toNat / 8) 0) (d.toNat % 8) = bitN p d.toNat := rfl
      rw [eb] at H
      refine mC H (fun hb => ?_) (fun hb => ?_)
      · rw [hb]
        refine mW ?_; clear H; intro a w H
        refine wp_ret ?_; exact mEnd [] [] [.tmp 4] [_] hN hR H
      · rw [hb]
        refine mW ?_; clear H; intro a w H
        refine wp_ret ?_; exact mEnd [] [] [.tmp 4] [_] hN hR H
  · rw [pbit, if_neg h]
    refine mC H (fun hb => ?_) (fun hb => ?_)
    · refine mW ?_; clear H; intro a w H
      refine wp_ret ?_; exact mEnd [] [] [.tmp 4] [_] hN hR H
    · exfalso; simp at hb; omega
theorem lz8_v (c : UInt8) : VC Try.prog 135 [.v (B8 c)] [] (.v (.int .i64 ((8 : Int) - (Lib.bitLen c.toNat : Int)))) := by
  have h1 := len8_v c
  have h2 := Lib.bitLen_le8 ⟨c.toNat, c.toNat_lt⟩
  simp only at h2
  refine mE Try.func135 ?_; intro N w0 a w hN hR H
  refine mW ?_; clear H; intro a w H
  refine mCall [] [] (h1) H ?_; clear H; intro a w H; try refine wpList_nil ?_
  refine mW ?_; clear H; intro a w H
  refine wp_ret ?_; exact mEnd [] [] [.tmp 2] [_] hN hR H
theorem xor8 (x y : UInt8) : bits .xor .u8 (x.toNat : Int) (y.toNat : Int) = (((x ^^^ y).toNat : Nat) : Int) := by
  rw [u8_xor_nat _ _ x.toNat_lt y.toNat_lt, UInt8.toNat_xor]
theorem bitN_at (p : List UInt8) (k t : Nat) (ht : t < 8) : bitN p (8 * k + t) = bitAt (p.getD k 0) t := by
  unfold bitN
  rw [show (8 * k + t) / 8 = k by omega, show (8 * k + t) % 8 = t by omega]
theorem com_byte (p q : List UInt8) (k : Nat) (h : agree (8 * k) p q) (he : p.getD k 0 = q.getD k 0) : agree (8 * (k + 1)) p q := fun t ht => by
  by_cases h1 : t < 8 * k
  · exact h t h1
  · rw [show t = 8 * k + (t - 8 * k) by omega, bitN_at _ _ _ (by omega), bitN_at _ _ _ (by omega), he]
theorem com_part (p q : List UInt8) (k : Nat) (hk : k < 32) (h : agree (8 * k) p q) (hn : p.getD k 0 ≠ q.getD k 0) : com p q = 8 * k + (8 - Lib.bitLen (p.getD k 0 ^^^ q.getD k 0).toNat) := by
  obtain ⟨l1, l2, l3, l4⟩ := lead_xor _ _ hn
  refine com_of (by omega) (fun t ht => ?_) fun _ => ?_
  · by_cases h1 : t < 8 * k
    · exact h t h1
    · rw [show t = 8 * k + (t - 8 * k) by omega, bitN_at _ _ _ (by omega), bitN_at _ _ _ (by omega)]
      exact l3 _ (by omega)
  · rw [bitN_at _ _ _ l1, bitN_at _ _ _ l1]; exact l4
set_option maxRecDepth 20000 in
theorem common_v (p q : List UInt8) (hp : p.length = 32) (hq : q.length = 32) : VC Try.prog 89 [.ba p, .ba q] [] (.v (.int .i64 (com p q))) := by
  refine mE Try.func89 ?_; intro N w0 a w hN hR H
  refine mW ?_; clear H; intro a w H
  refine mC H (fun hb => ?_) (fun hb => ?_)
  · have he : p = q := by simpa using hb
    subst he
    rw [com_self]
    refine mW ?_; clear H; intro a w H
    refine wp_ret ?_; exact mEnd [] [] [.tmp 4] [_] hN hR H
  · have hne : p ≠ q := by simpa using hb
    refine mW ?_; clear H; intro a w H
    refine v_loop (fun k : Nat => ⟨[(10, none, .v (.int .i64 (k : Int))), (4, none, .v (.int .i64 0)), (3, none, .ptr 1 []), (2, none, .ptr 0 [])], [(.ba 32, .ba p), (.ba 32, .ba q)], [], []⟩) (fun k => k ≤ 32 ∧ agree (8 * k) p q) (fun k => 32 - k) 0 ⟨Nat.zero_le _, fun t ht => by omega⟩ (H.to 2 0 ⟨Nat.le_trans hN (by decide), hR⟩ ⟨rfl, rfl, rfl, rfl, trivial⟩ rfl rfl rfl rfl rfl) ?_
    clear H
    rintro k a w ⟨hk, hag⟩ H
    refine mW ?_; clear H; intro a w H
    refine mC H (fun hb => ?_) (fun hb => ?_)
    · have hlt : k < 32 := by simp at hb; omega
      refine mW ?_; clear H; intro a w H
      refine mS ?_; refine mD 2 [] [] H ?_; clear H; intro gS H; refine mT ?_; clear H; intro a w H
      refine v_drawNil H ?_; clear H; intro H
      rw [xor8] at H
      have hlz := lz8_v (p.getD k 0 ^^^ q.getD k 0)
      have hc8 := (p.getD k 0 ^^^ q.getD k 0).toNat_lt
      refine mW ?_; clear H; intro a w H
      refine mC H (fun hb => ?_) (fun hb => ?_)
      · have hd : p.getD k 0 ≠ q.getD k 0 := fun e => by rw [e] at hb; simp at hb
        rw [com_part p q k hlt hag hd]
        have hl2 := (lead_xor _ _ hd).2.1
        refine mW ?_; clear H; intro a w H
        refine mCall [] [] (hlz) H ?_; clear H; intro a w H; try refine wpList_nil ?_
        refine mW ?_; clear H; intro a w H
        have e1 : (8 * (k : Int) + (8 - (Lib.bitLen (p.getD k 0 ^^^ q.getD k 0).toNat : Int))) = ((8 * k + (8 - Lib.bitLen (p.getD k 0 ^^^ q.getD k 0).toNat) : Nat) : Int) := by omega
        rw [e1] at H
        refine wp_ret ?_; exact mEnd [] [] [.tmp 4] [_] hN hR H
      · have hd : p.getD k 0 = q.getD k 0 := by
          refine UInt8.xor_eq_zero_iff.1 (UInt8.toNat_inj.1 ?_)
          simpa using hb
        refine mW ?_; clear H; intro a w H
        exact ⟨k + 1, ⟨hlt, com_byte p q k hag hd⟩, by omega, H.to 2 0 ⟨Nat.le_trans hN (by decide), hR⟩ ⟨rfl, rfl, rfl, rfl, trivial⟩ rfl rfl rfl rfl rfl⟩
    · have hge : k = 32 := by simp at hb; omega
      subst hge
      exact absurd (agree_eq hp hq hag) hne
end Go.Proofs.Ythphhnkoilcofaa
/- slices.SortFunc at entries: the program bears it; how it compares. -/
namespace Go.Proofs.Ythphhnkoilcofaa
open Go Go.RowKit
def srtR : Go.Shelf.Ren := ⟨fun | 6 => 133 | 15 => 140 | 14 => 167 | 28 => 178 | 29 => 179 | 20 => 205 | 21 => 206 | 22 => 207 | 23 => 208 | 24 => 209 | 25 => 210 | 26 => 211 | 27 => 212 | 46 => 234 | 47 => 230 | 48 => 231 | 49 => 235 | 50 => 236 | 57 => 241 | n => n, fun | 22 => 57 | 24 => 62 | 25 => 207 | 3 => 3 | 39 => 219 | 0 => 0 | 53 => 243 | 55 => 251 | 4 => 4 | 46 => 277 | 45 => 276 | 50 => 201 | 5 => 5 | 9 => 9 | 66 => 300 | 70 => 291 | 76 => 311 | 77 => 306 | n => n, fun x => x⟩
theorem srtL : SlLaysF0.n6 Try.prog srtR :=
  { mixed := by kernel_rfl,
    f6 := ⟨Try.f133.name, by decide, by kernel_rfl⟩,
    f15 := by kernel_rfl,
    f14 := ⟨Try.f167.name, by decide, by kernel_rfl⟩,
    f28 := by kernel_rfl,
    f29 := by kernel_rfl,
    f20 := ⟨Try.f205.name, by decide, by kernel_rfl⟩,
    f21 := ⟨Try.f206.name, by decide, by kernel_rfl⟩,
    f22 := ⟨Try.f207.name, by decide, by kernel_rfl⟩,
    f23 := ⟨Try.f208.name, by decide, by kernel_rfl⟩,
    f24 := ⟨Try.f209.name, by decide, by kernel_rfl⟩,
    f25 := ⟨Try.f210.name, by decide, by kernel_rfl⟩,
    f26 := ⟨Try.f211.name, by decide, by kernel_rfl⟩,
    f27 := ⟨Try.f212.name, by decide, by kernel_rfl⟩,
    f46 := ⟨Try.f234.name, by decide, by kernel_rfl⟩,
    f47 := by kernel_rfl,
    f48 := by kernel_rfl,
    f49 := ⟨Try.f235.name, by decide, by kernel_rfl⟩,
    f50 := ⟨Try.f236.name, by decide, by kernel_rfl⟩,
    f57 := ⟨Try.f241.name, by decide, by kernel_rfl⟩,
    t22 := Try.underlying57, a22 := Try.isAgg57, z22 := Try.sizeOf57, v22 := Try.zeroValue57,
    t25 := Try.underlying207, a25 := Try.isAgg207, z25 := Try.sizeOf207, v25 := Try.zeroValue207,
    t3 := Try.underlying3, a3 := Try.isAgg3, z3 := Try.sizeOf3, v3 := Try.zeroValue3,
    t39 := Try.underlying219, a39 := Try.isAgg219, z39 := Try.sizeOf219, v39 := Try.zeroValue219,
    t0 := Try.underlying0, a0 := Try.isAgg0, z0 := Try.sizeOf0, v0 := Try.zeroValue0,
    t53 := Try.underlying243, a53 := Try.isAgg243, z53 := Try.sizeOf243, v53 := Try.zeroValue243,
    t55 := Try.underlying251, a55 := Try.isAgg251, z55 := Try.sizeOf251, v55 := Try.zeroValue251,
    t4 := Try.underlying4, a4 := Try.isAgg4, z4 := Try.sizeOf4, v4 := Try.zeroValue4,
    t46 := Try.underlying277, a46 := Try.isAgg277, z46 := Try.sizeOf277, v46 := Try.zeroValue277,
    t45 := Try.underlying276, a45 := Try.isAgg276, z45 := Try.sizeOf276, v45 := Try.zeroValue276,
    t50 := Try.underlying201, a50 := Try.isAgg201, z50 := Try.sizeOf201, v50 := Try.zeroValue201,
    t5 := Try.underlying5, a5 := Try.isAgg5, z5 := Try.sizeOf5, v5 := Try.zeroValue5,
    t9 := Try.underlying9, a9 := Try.isAgg9, z9 := Try.sizeOf9, v9 := Try.zeroValue9,
    t66 := Try.underlying300, a66 := Try.isAgg300, z66 := Try.sizeOf300, v66 := Try.zeroValue300,
    t70 := Try.underlying291, a70 := Try.isAgg291, z70 := Try.sizeOf291, v70 := Try.zeroValue291,
    t76 := Try.underlying311, a76 := Try.isAgg311, z76 := Try.sizeOf311, v76 := Try.zeroValue311,
    t77 := Try.underlying306, a77 := Try.isAgg306, z77 := Try.sizeOf306, v77 := Try.zeroValue306 }
end Go.Proofs.Ythphhnkoilcofaa
/- Maps whose keys are arrays of bytes: made, looked up, put into. -/
namespace Go.Proofs.Ythphhnkoilcofaa
open Go Go.RowKit
theorem mapM_some {α β : Type} {f : α → Option β} : ∀ (l : List α), (∀ x ∈ l, ∃ y, f x = some y) → ∃ ys, l.mapM f = some ys
  | [], _ => ⟨[], rfl⟩
  | x :: l, h => by
    obtain ⟨y, hy⟩ := h x List.mem_cons_self
    obtain ⟨ys, hys⟩ := mapM_some l fun z hz => h z (List.mem_cons_of_mem _ hz)
    exact ⟨y :: ys, by simp [List.mapM_cons, hy, hys]⟩
/-- A type of keys. -/
structure KT (P : Program) (kt : TypeId) (n : Nat) : Prop where
  law : WideMaps.KeyLaw P kt
  key : ∀ l : List UInt8, l.length = n → ∃ q, keyOf P kt (.agg (l.map B8).toArray) = some q
theorem KT.of {P : Program} {kt e : TypeId} {n : Nat} (ha : P.underlying kt = some (.array n e)) (he : P.underlying e = some (.int .u8)) (hk : P.keyTypeAt 2 kt = true) (ht : P.tiled 2 kt = true) (hK : P.keyType kt = true) (hc : P.cellsOf kt = n) (hce : P.cellsOf e = 1) (hs : 1 ≤ P.types.size) : KT P kt n :=
  ⟨deep_law (m := 2) (by decide) hk ht (by rw [ha]), fun l hl => by
    obtain ⟨d, hd⟩ : ∃ d, P.types.size = d + 1 := ⟨P.types.size - 1, by omega⟩
    have hlen : (l.map B8).length = n := by simpa using hl
    obtain ⟨ys, hys⟩ := mapM_some (f := fun i => P.keyLits (P.types.size) e (((l.map B8).drop (i * P.cellsOf e)).take (P.cellsOf e))) (List.range n) fun i hi => by
      have hi' : i < l.length := by rw [hl]; exact List.mem_range.1 hi
      have e1 : (((l.map B8).drop (i * P.cellsOf e)).take (P.cellsOf e)) = [B8 l[i]] := by
        rw [hce, Nat.mul_one, List.drop_eq_getElem_cons (by simpa using hi')]
        simp
      rw [e1, hd]
      refine ⟨[.int .u8 (l[i].toNat : Int)], ?_⟩
      unfold Program.keyLits
      rw [he]
      have h1 : (Lit.int .u8 (l[i].toNat : Int)).wf = true := by
        have := l[i].toNat_lt
        simp [Lit.wf, IntKind.min, IntKind.max, IntKind.signed, IntKind.bits]; omega
      simp [B8, h1]
    refine ⟨.string (keyBytes ys.flatten), ?_⟩
    unfold keyOf
    rw [ha]
    have hf : (Value.agg (l.map B8).toArray).formed P kt = true := by simp [Value.formed, ha, hc, hl]
    have hkl : P.keyLits (P.types.size + 1) kt (l.map B8) = some ys.flatten := by
      unfold Program.keyLits
      rw [ha]
      simp only [hlen, hc, if_true]
      rw [hys]; rfl
    simp only [hK, hf, Bool.and_self, if_true, Value.cells, List.toList_toArray, hkl, Option.map_some]⟩
theorem new_at (w : World) (o : Obj) : (w.alloc o).heap[w.heap.size]? = some o := by show (w.heap.push o)[w.heap.size]? = some o; simp
section
variable {P : Program} {τ : Tab} {w0 w : World} {N : Gh} {g : Gh} {st : St} {nt : Nat} {a : Act}
theorem v_mkMap {ops : Array Oper} {Q : Exit → Act → World → Prop} {rest : List Oper} {o : Oper} {t : Nat} (K V : Ty) (H : Rel P w0 N nt st a w)
    (k : ∀ a w, Rel P w0 N nt ((⟨st.t, st.bx ++ [(.mp K V, .mp [] [])], st.fz, st.rw⟩ : St).put o.dst none (.mr st.bx.length)) a w → wpList P ops Q rest a w) (hgd : o.guard = none := by rfl) (ho : o.op = .makeMap t none := by rfl) (hd : okDst nt none o.dst = true := by rfl) : wpList P ops Q (o :: rest) a w := by
  obtain ⟨g, HI, hF⟩ := H
  obtain ⟨g', l1, I1, h1⟩ := HI.boxG (x := ⟨w.heap.size, 0, .mp K V, [], false, 0, 0, false, some (#[], 0)⟩) (a := .mp [] []) (w' := w.alloc (.map #[] 0)) rfl (grown_alloc w _) (fun _ => ⟨rfl, ⟨fun e => (by cases e), fun m e => (by injection e with e; subst e; exact new_at w _)⟩⟩) (fun e => by cases e) (fun _ => rfl)
    (.inr (.inr (.inr ⟨K, V, [], [], #[], 0, rfl, rfl, rfl, rfl, rfl, rfl, rfl, fun k h => absurd h (by simp)⟩)))
  refine wpList_plain hgd fun K' hK => ?_
  unfold Oper.wp
  have he : (execOp a.eval o).run P w = .ok (.value (.map (some w.heap.size))) (w.alloc (.map #[] 0)) := by
    obtain ⟨dst, op, ty, pos, after, gd⟩ := o
    dsimp only at ho
    subst ho
    rfl
  rw [he, Oper.upon_value]
  refine hK _ _ (k _ _ ⟨g', ?_, (hF.mono l1.1).put hd (fun _ => (RC.mr h1 rfl).rvp) rfl (fun h => absurd trivial h)⟩)
  cases o.dst <;> exact I1
/-- The entries of a map. -/
theorem map_at (HI : Inv P w0 N g st.bx st.fz st.rw w) {i n : Nat} {V : Ty} {ks : List (List UInt8)} {vs : List AV} (hb : st.bx[i]? = some (.mp (.ba n) V, .mp (ks.map .ba) vs)) : ∃ x es clk, g.bx[i]? = some x ∧ x.ty = .mp (.ba n) V ∧ x.off = false ∧ x.mp = some (es, clk) ∧ x.cells = [] ∧ w.heap[x.blk]? = some (.map es clk) ∧ ks.length = es.size ∧ vs.length = es.size ∧
    ∀ k (h : k < es.size) (h1 : k < ks.length) (h2 : k < vs.length), ks[k].length = n ∧ es[k].key = .agg (ks[k].map B8).toArray ∧ ∃ ds, RC g.base V vs[k] ds ∧ es[k].val = mkV V ds := by
  obtain ⟨x, hx, hty, hbc⟩ := HI.br.get hb
  rcases hbc with ⟨_, _, hrc⟩ | ⟨_, _, _, _, _, ⟨_, e, _⟩, _⟩ | ⟨_, _, _, ⟨_, e, _⟩, _⟩ | ⟨K, V', ks', vs', es, clk, e1, e2, ho, hm, hc, hk, hv, hall⟩
  · cases hrc
  · cases e
  · cases e
  · injection e1 with e1 e1'; subst e1 e1'
    injection e2 with e2 e2'; subst e2 e2'
    refine ⟨x, es, clk, hx, hty, ho, hm, hc, (HI.mem.bx i x hx ho).m _ hm, by simpa using hk, hv, fun k h h1 h2 => ?_⟩
    obtain ⟨cs, ds, q1, q2, q3, q4⟩ := hall k h (by simpa using h1) h2
    rw [List.getElem_map] at q1
    obtain ⟨q5, rfl⟩ := q1.ba_inv
    injection q5 with q5
    exact ⟨q5.symm, q2, ds, q3, q4⟩
theorem find_at {kt n : Nat} (hKT : KT P kt n) {ks : List (List UInt8)} {es : Array MapEntry} (hlen : ks.length = es.size) (hall : ∀ k (h : k < es.size) (h1 : k < ks.length), ks[k].length = n ∧ es[k].key = .agg (ks[k].map B8).toArray) {kl : List UInt8} (hl : kl.length = n) (w : World) :
    ((Instr.findKey kt (.agg (kl.map B8).toArray) es.toList).run P w = .ok none w ∧ kl ∉ ks) ∨ ∃ j, ∃ h : j < es.size, ks[j]? = some kl ∧ (Instr.findKey kt (.agg (kl.map B8).toArray) es.toList).run P w = .ok (some (j, es[j].val)) w := by
  have inj : ∀ x y : List UInt8, Value.agg (x.map B8).toArray = Value.agg (y.map B8).toArray → x = y := fun x y e => by
    injection e with e
    have e1 := congrArg Array.toList e
    simp only [List.toList_toArray] at e1
    exact (List.map_inj_right (f := B8) (fun u v h => by unfold B8 at h; injection h with _ h; exact UInt8.toNat_inj.1 (by omega))).1 e1
  obtain ⟨q, hq⟩ := hKT.key kl hl
  rcases hKT.law.find w hq es.toList (fun e he => by
    obtain ⟨j, hj, rfl⟩ := List.getElem_of_mem he
    have hj' : j < es.size := by simpa using hj
    obtain ⟨h1, h2⟩ := hall j hj' (by omega)
    rw [Array.getElem_toList, h2]
    exact hKT.key _ h1) with ⟨h1, h2⟩ | ⟨j, e, h1, h2, h3⟩
  · refine .inl ⟨h1, fun hm => ?_⟩
    obtain ⟨j, hj, e⟩ := List.getElem_of_mem hm
    have hj' : j < es.size := by omega
    obtain ⟨_, h4⟩ := hall j hj' hj
    exact h2 es[j] (by simp) (by rw [h4, e])
  · have hj : j < es.size := by have := (List.getElem?_eq_some_iff.1 h2).1; simpa using this
    have he : e = es[j] := by rw [Array.getElem?_toList, Array.getElem?_eq_getElem hj] at h2; injection h2 with h2; exact h2.symm
    subst he
    obtain ⟨_, h4⟩ := hall j hj (by omega)
    refine .inr ⟨j, hj, ?_, h1⟩
    rw [List.getElem?_eq_getElem (by omega)]
    congr 1
    exact inj _ _ (h4.symm.trans h3)
theorem v_look {ops : Array Oper} {Q : Exit → Act → World → Prop} {rest : List Oper} {o : Oper} {t kt et i n : Nat} {m kx : Operand} {V : Ty} {ks : List (List UInt8)} {vs : List AV} {kl : List UInt8} {z : AV} {zv : Value} (hKT : KT P kt n) (H : Rel P w0 N nt st a w)
    (ht : P.underlying t = some (.map kt et)) (hz : ∀ w, (zeroValue et).run P w = .ok zv w) (hzr : ∀ g, RV g z zv) (hl : kl.length = n)
    (k1 : kl ∉ ks → ∀ a w, Rel P w0 N nt (st.put o.dst none z) a w → wpList P ops Q rest a w) (k2 : ∀ (j : Nat) (v : AV), ks[j]? = some kl → vs[j]? = some v → ∀ a w, Rel P w0 N nt (st.put o.dst none v) a w → wpList P ops Q rest a w)
    (hgd : o.guard = none := by rfl) (ho : o.op = .lookup t m kx false := by rfl) (hd : okDst nt none o.dst = true := by rfl) (hm : st.ev none m = .mr i := by rfl) (hk : st.ev none kx = .ba kl := by rfl) (hb : st.bx[i]? = some (.mp (.ba n) V, .mp (ks.map .ba) vs) := by rfl) : wpList P ops Q (o :: rest) a w := by
  obtain ⟨g, HI, hF⟩ := H
  obtain ⟨x, es, clk, hx, hty, hoff, hmp, hc, hheap, hkl, hvl, hall⟩ := map_at HI hb
  have em := ev_sound hF (c := none) trivial m
  have ek := ev_sound hF (c := none) trivial kx
  rw [hm] at em; rw [hk] at ek
  have ek := ek.ba_inv
  have em2 : a.eval m = .map (some x.blk) := by
    have h3 := em.mr_inv
    generalize a.eval m = u at h3
    cases h3 with
    | mr h hT => rw [hx] at h; injection h with h; subst h; rfl
  have hget : (getObj x.blk).run P w = .ok (.map es clk) w := MapKept.run_getObj_map hheap
  have hchk : (Instr.checkKey es.isEmpty 10000 kt (a.eval kx)).run P w = .ok () w := by
    obtain ⟨q, hq⟩ := hKT.key kl hl
    rw [ek]; exact hKT.law.check w _ hq
  refine wpList_plain hgd fun K hK => ?_
  unfold Oper.wp
  have he : (execOp a.eval o).run P w = ((Instr.lookup t (a.eval m) (a.eval kx) false).run P w).andThen fun v w => .ok (.value v) w := by
    obtain ⟨dst, op, ty, pos, after, gd⟩ := o
    dsimp only at ho
    subst ho
    simp only [execOp, Sem.run_bind, Sem.run_pure]
  have hu : (underlying t).run P w = .ok (.map kt et) w := run_underlying ht w
  rw [he]
  rcases find_at hKT hkl (fun k h h1 => ⟨(hall k h h1 (by omega)).1, (hall k h h1 (by omega)).2.1⟩) hl w with ⟨h1, h2⟩ | ⟨j, hj, h1, h2⟩
  · have hr : (Instr.lookup t (a.eval m) (a.eval kx) false).run P w = .ok zv w := by
      rw [em2]
      unfold Instr.lookup
      simp only [Sem.run_bind, hu, Result.andThen_ok, hget, Sem.run_pure, hchk]
      rw [ek, h1]
      simp [hz]
    rw [hr]
    simp only [Result.andThen_ok, Oper.upon_value]
    refine hK _ _ (k1 h2 _ _ ⟨g, ?_, hF.put hd (fun _ => hzr g) rfl (fun h => absurd trivial h)⟩)
    cases o.dst <;> exact HI
  · have hr : (Instr.lookup t (a.eval m) (a.eval kx) false).run P w = .ok es[j].val w := by
      rw [em2]
      unfold Instr.lookup
      simp only [Sem.run_bind, hu, Result.andThen_ok, hget, Sem.run_pure, hchk]
      rw [ek, h2]
      simp
    rw [hr]
    simp only [Result.andThen_ok, Oper.upon_value]
    obtain ⟨_, _, ds, q1, q2⟩ := hall j hj (by omega) (by omega)
    refine hK _ _ (k2 j vs[j] h1 (List.getElem?_eq_getElem _) _ _ ⟨g, ?_, hF.put hd (fun _ => by rw [q2]; exact (q1.mono g.base_le).rv.rv') rfl (fun h => absurd trivial h)⟩)
    cases o.dst <;> exact HI
/-- A key that is none of a map's is put into it. -/
theorem v_mapNew {ops : Array Oper} {Q : Exit → Act → World → Prop} {rest : List Oper} {o : Oper} {t kt et i n : Nat} {m kx vx : Operand} {V : Ty} {ks : List (List UInt8)} {vs : List AV} {kl : List UInt8} {v : AV} (hKT : KT P kt n) (H : Rel P w0 N nt st a w)
    (ht : P.underlying t = some (.map kt et)) (hl : kl.length = n) (hn : kl ∉ ks)
    (k : ∀ a w, Rel P w0 N nt ((⟨st.t, st.bx.set i (.mp (.ba n) V, .mp (ks.map .ba ++ [.ba kl]) (vs ++ [strip 3 v])), st.fz, st.rw⟩ : St)) a w → wpList P ops Q rest a w)
    (hgd : o.guard = none := by rfl) (ho : o.op = .mapUpdate t m kx vx := by rfl) (hd : o.dst = none := by rfl) (hm : st.ev none m = .mr i := by rfl) (hk : st.ev none kx = .ba kl := by rfl) (hv : st.ev none vx = v := by rfl) (hb : st.bx[i]? = some (.mp (.ba n) V, .mp (ks.map .ba) vs) := by rfl) (hf : notIn i st.fz = true := by rfl) (hp : pure_ 3 v = true := by rfl) (hft : fit V v := by first | rfl | trivial) : wpList P ops Q (o :: rest) a w := by
  obtain ⟨g, HI, hF⟩ := H
  obtain ⟨x, es, clk, hx, hty, hoff, hmp, hc, hheap, hkl, hvl, hall⟩ := map_at HI hb
  have em := ev_sound hF (c := none) trivial m
  have ek := ev_sound hF (c := none) trivial kx
  have ev := ev_sound hF (c := none) trivial vx
  rw [hm] at em; rw [hk] at ek; rw [hv] at ev
  have ek := ek.ba_inv
  have em2 : a.eval m = .map (some x.blk) := by
    have h3 := em.mr_inv
    generalize a.eval m = u at h3
    cases h3 with
    | mr h hT => rw [hx] at h; injection h with h; subst h; rfl
  obtain ⟨ds, hds, hvd⟩ := ev.fit hft
  have hdb := hds.strip_ hp
  have hget : (getObj x.blk).run P w = .ok (.map es clk) w := MapKept.run_getObj_map hheap
  have hchk : (Instr.checkKey false 10000 kt (a.eval kx)).run P w = .ok () w := by
    obtain ⟨q, hq⟩ := hKT.key kl hl
    rw [ek]; exact hKT.law.check w _ hq
  have hu : (underlying t).run P w = .ok (.map kt et) w := run_underlying ht w
  have hfind : (Instr.findKey kt (a.eval kx) es.toList).run P w = .ok none w := by
    rw [ek]
    rcases find_at hKT hkl (fun k h h1 => ⟨(hall k h h1 (by omega)).1, (hall k h h1 (by omega)).2.1⟩) hl w with ⟨h1, h2⟩ | ⟨j, hj, h1, h2⟩
    · exact h1
    · exact absurd (List.mem_of_getElem? h1) hn
  let ne : MapEntry := { key := a.eval kx, val := a.eval vx, born := clk }
  have hr : (Instr.mapUpdate t (a.eval m) (a.eval kx) (a.eval vx)).run P w = (setObj x.blk (.map (es.push ne) (clk + 1))).run P w := by
    rw [em2]
    unfold Instr.mapUpdate
    simp only [Sem.run_bind, hu, Result.andThen_ok, hget, hchk, hfind]
    rfl
  let w' : World := { w with heap := w.heap.setIfInBounds x.blk (.map (es.push ne) (clk + 1)) }
  have hlt : x.blk < w.heap.size := (Array.getElem?_eq_some_iff.1 hheap).1
  have hset : (setObj x.blk (.map (es.push ne) (clk + 1))).run P w = .ok () w' := MapKept.run_setObj_map _ hheap
  have hxf : x.fz = false := by cases e : x.fz with | false => rfl | true => exact absurd (HI.fz i x hx e) (notIn_ok hf)
  obtain ⟨g', h1, h2, _⟩ := HI.upd (x' := { x with mp := some (es.push ne, clk + 1) }) (w' := w') (a := .mp (ks.map .ba ++ [.ba kl]) (vs ++ [strip 3 v])) hx (notIn_ok hf)
    (by unfold Bx.own; rw [hoff]; exact ⟨rfl, rfl, rfl, by simp [w'], fun k hk hne => by
      show (w.heap.setIfInBounds x.blk _)[k]? = _
      rw [Array.getElem?_setIfInBounds_ne (fun e => hne (by rw [e]; rfl))]⟩) rfl hxf (Nat.le_refl _) (fun _ => ⟨rfl, rfl, rfl⟩)
    (fun _ => ⟨⟨fun e => (by cases e), fun m e => by
      injection e with e; subst e
      show (w.heap.setIfInBounds x.blk _)[x.blk]? = _
      rw [Array.getElem?_setIfInBounds_self_of_lt hlt]⟩, .inr ⟨hoff, rfl⟩⟩) (fun e => by rw [show ({ x with mp := some (es.push ne, clk + 1) } : Bx).off = x.off from rfl, hoff] at e; cases e) (fun _ => hc)
    (by
      rw [hty]
      refine .inr (.inr (.inr ⟨.ba n, V, _, _, es.push ne, clk + 1, rfl, rfl, hoff, rfl, hc, by simp [hkl], by simp [hvl], fun j hj q1 q2 => ?_⟩))
      by_cases hj2 : j < es.size
      · obtain ⟨r1, r2, ds2, r3, r4⟩ := hall j hj2 (by omega) (by omega)
        refine ⟨ks[j].map B8, ds2, ?_, ?_, ?_, ?_⟩
        · rw [List.getElem_append_left (by simp; omega), List.getElem_map]; exact .ba r1
        · rw [Array.getElem_push_lt hj2, r2]; rfl
        · rw [List.getElem_append_left (by omega)]; exact r3
        · rw [Array.getElem_push_lt hj2, r4]
      · have hje : j = es.size := by simp at hj; omega
        subst hje
        refine ⟨kl.map B8, ds, ?_, ?_, ?_, ?_⟩
        · rw [List.getElem_append_right (by simp; omega)]; simp [hkl]; exact .ba hl
        · rw [Array.getElem_push_eq]; exact ek
        · rw [List.getElem_append_right (by omega)]; simp [hvl]; exact hdb
        · rw [Array.getElem_push_eq]; exact hvd)
  rw [hty] at h2
  refine wpList_plain hgd fun K hK => ?_
  unfold Oper.wp
  have he : (execOp a.eval o).run P w = .ok .skip w' := by
    obtain ⟨dst, op, ty, pos, after, gd⟩ := o
    dsimp only at ho
    subst ho
    simp only [execOp, Sem.run_bind, Sem.run_pure, hr, hset, Result.andThen_ok]
  rw [he, Oper.upon_skip]
  have e8 : a.put o.dst undef = a := by rw [hd]; rfl
  rw [e8]
  exact hK _ _ (k _ _ ⟨g', h2, ⟨hF.sz, hF.df, fun p hp hg => (hF.t p hp hg).mono h1, hF.u⟩⟩)
end
end Go.Proofs.Ythphhnkoilcofaa
/- Entries sorted: how two are compared. -/
namespace Go.Proofs.Ythphhnkoilcofaa
open Go Go.RowKit
theorem cell_new (w : World) (cs : Array Value) (t : TypeId) (j : Nat) : (w.alloc (.cells cs t)).cell? ⟨w.heap.size, j, none⟩ = cs[j]? := by
  unfold World.cell?
  rw [show (w.alloc (.cells cs t)).heap[(⟨w.heap.size, j, none⟩ : Addr).block]? = some (.cells cs t) from new_at w _]
  rfl
theorem size_alloc (w : World) (o : Obj) : (w.alloc o).heap.size = w.heap.size + 1 := by show (w.heap.push o).size = _; simp
theorem cmpT_any (a b : ByteArray) (w : World) : Calls Try.prog 124 #[.string a, .string b] w fun e w' => e = .returned (.int .i64 (Lib.compareBytes a.data.toList b.data.toList)) ∧ w' = w := by
  go_enter Try.func124, Try.ntmps124
  go_wp2_with (first | (go_at_call 160; refine (cmp_any _ _ _).mono ?_; rintro e w' ⟨rfl, rfl⟩))
  go_ret
  exact ⟨rfl, rfl⟩
theorem ocmp_any (x y : List UInt8) (B : Nat) (A1 A2 : Option Addr) (c1 c2 : Nat) (w : World) (h1 : Rd byteE w B A1 x) (h2 : Rd byteE w B A2 y) : Calls Try.prog 79 #[.slice A1 x.length c1, .slice A2 y.length c2] w fun e w' => e = .returned (.int .i64 (Lib.compareBytes x y)) ∧ w' = w := by
  have r1 := run_str h1 x.length c1 rfl
  have r2 := run_str h2 y.length c2 rfl
  have hc := cmpT_any (strOf x) (strOf y) w
  have e1 : (strOf x).data.toList = x := rfl
  have e2 : (strOf y).data.toList = y := rfl
  rw [e1, e2] at hc
  generalize strOf x = s1 at *
  generalize strOf y = s2 at *
  go_enter Try.func79, Try.ntmps79
  go_wp2_with (first | (go_at_call 124; refine hc.mono ?_; rintro e w' ⟨rfl, rfl⟩))
  go_ret
  exact ⟨rfl, rfl⟩
set_option maxHeartbeats 1000000 in
set_option maxRecDepth 100000 in
theorem pcmp_any (x y : List UInt8) (hx : x.length = 32) (hy : y.length = 32) (W : World) : Calls Try.prog 22 #[.agg (x.map B8).toArray, .agg (y.map B8).toArray] W fun e w' => e = .returned (.int .i64 (Lib.compareBytes x y)) ∧ ∃ q os', w' = Sort.grow (W.drewN q) os' := by
  have mixed : Try.prog.follows .mixedOrders = true := by kernel_rfl
  have hcon : ∀ n os, Calls Try.prog 79 #[.slice (some ⟨W.heap.size, 0, none⟩) 32 32, .slice (some ⟨W.heap.size + 1, 0, none⟩) 32 32] (Sort.grow ((((W.alloc (.cells (x.map B8).toArray 37)).alloc (.cells (y.map B8).toArray 37))).drewN n) os) fun e w' => e = .returned (.int .i64 (Lib.compareBytes x y)) ∧ ∃ p : GrownBy, w' = Sort.grow ((((W.alloc (.cells (x.map B8).toArray 37)).alloc (.cells (y.map B8).toArray 37))).drewN p.n) p.os := fun n os => by
    have h1 : Rd byteE (Sort.grow ((((W.alloc (.cells (x.map B8).toArray 37)).alloc (.cells (y.map B8).toArray 37))).drewN n) os) (W.heap.size + 2) (some ⟨W.heap.size, 0, none⟩) x := .inr ⟨_, _, rfl, by omega, fun j u hj => by
      refine cell_grown (by simp; omega) ?_ n os
      rw [byteE_all] at hj
      refine Lib.cell?_alloc_some _ ?_
      rw [Nat.zero_add, cell_new, List.getElem?_toArray]
      exact hj⟩
    have h2 : Rd byteE (Sort.grow ((((W.alloc (.cells (x.map B8).toArray 37)).alloc (.cells (y.map B8).toArray 37))).drewN n) os) (W.heap.size + 2) (some ⟨W.heap.size + 1, 0, none⟩) y := .inr ⟨_, _, rfl, by omega, fun j u hj => by
      refine cell_grown (by simp) ?_ n os
      rw [byteE_all] at hj
      have := cell_new (W.alloc (.cells (x.map B8).toArray 37)) (y.map B8).toArray 37 j
      rw [size_alloc] at this
      rw [Nat.zero_add, this, List.getElem?_toArray]
      exact hj⟩
    have h := ocmp_any x y _ _ _ 32 32 _ h1 h2
    rw [hx, hy] at h
    exact h.mono fun e w' ⟨he, hw⟩ => ⟨he, ⟨n, os⟩, hw⟩
  go_enter Try.func22, Try.ntmps22
  go_wp2
  generalize hw2 : (W.alloc (.cells (x.map B8).toArray 37)).alloc (.cells (y.map B8).toArray 37) = W2 at hcon ⊢
  go_quiet_grown (first | (go_at_call 79; exact hcon _ _))
  go_wp2
  go_ret
  refine ⟨rfl, nq, #[.cells (x.map B8).toArray 37, .cells (y.map B8).toArray 37] ++ osq, ?_⟩
  rw [← hw2, Sort.alloc_eq_grow, Sort.alloc_eq_grow, Sort.grow_grow]
  show Sort.grow (Sort.grow (W.drewN nq) _) osq = _
  rw [Sort.grow_grow]; rfl
/-- An entry's cells. -/
abbrev Cel := {p : List UInt8 × Value // p.1.length = 32 ∧ p.2.oneCell' = true}
instance : Inhabited Cel := ⟨⟨(List.replicate 32 0, .int .i64 0), by decide, rfl⟩⟩
def encC (x : Cel) : List Value := x.1.1.map B8 ++ [x.1.2]
theorem encC_len (x : Cel) : (encC x).length = 33 := by simp [encC, x.2.1]
theorem encC_one (x : Cel) : ∀ v ∈ encC x, v.oneCell' = true := fun v hv => by
  unfold encC at hv
  rcases List.mem_append.1 hv with h | h
  · obtain ⟨u, _, rfl⟩ := List.mem_map.1 h; rfl
  · rw [List.mem_singleton.1 h]; exact x.2.2
def cfC (x y : Cel) : Int := Lib.compareBytes x.1.1 y.1.1
theorem op_ld {P : Program} {o : Oper} {a : Act} {w : World} {K : Act → World → Prop} {Q : Exit → Act → World → Prop} {t : TypeId} {p : Operand} {b : Nat} {v : Value} (hl : (loadVar t ⟨b, 0, none⟩).run P w = .ok v w) (ho : o.op = .load t p) (hp : a.eval p = .pointer (some ⟨b, 0, none⟩)) (k : K (a.put o.dst v) w) : Oper.wp P o a w K Q := by
  unfold Oper.wp
  have he : (execOp a.eval o).run P w = .ok (.value v) w := by
    obtain ⟨dst, op, ty, pos, after, gd⟩ := o
    dsimp only at ho
    subst ho
    simp [execOp, Instr.loadAt, Instr.sureAddr, hp, hl]
  rw [he, Oper.upon_value]
  exact k
set_option maxHeartbeats 1000000 in
set_option maxRecDepth 100000 in
theorem srt_cmp (x y : Cel) (W : World) : Calls Try.prog 134 #[.agg (encC x).toArray, .agg (encC y).toArray] W fun e w' => e = .returned (.int .i64 (cfC x y)) ∧ ∃ q os', w' = Sort.grow (W.drewN q) os' := by
  have hc := fun W' => pcmp_any x.1.1 y.1.1 x.2.1 y.2.1 W'
  have ld : ∀ (z : Cel) (b : Nat) (W' : World), W'.heap[b]? = some (.cells (encC z).toArray 62) → (loadVar 37 ⟨b, 0, none⟩).run Try.prog W' = .ok (.agg (z.1.1.map B8).toArray) W' := fun z b W' hb => by
    refine run_loadV (g := ⟨fun _ _ => none, [], []⟩) (Tab.get_ok tab_ok (t := 37) (i := ti37) rfl) (a := .ba z.1.1) (.ba z.2.1) fun j u hu => ?_
    unfold World.cell?
    rw [show W'.heap[(⟨b, 0 + j, none⟩ : Addr).block]? = _ from hb]
    show (encC z).toArray[0 + j]? = some u
    rw [Nat.zero_add, List.getElem?_toArray, encC, List.getElem?_append_left (by have := (List.getElem?_eq_some_iff.1 hu).1; exact this)]
    exact hu
  have b1 : ((W.alloc (.cells (encC x).toArray 62)).alloc (.cells (encC y).toArray 62)).heap[W.heap.size]? = some (.cells (encC x).toArray 62) := by
    have h := new_at W (.cells (encC x).toArray 62)
    have hs := size_alloc W (.cells (encC x).toArray 62)
    show ((W.alloc _).heap.push _)[W.heap.size]? = _
    rw [Array.getElem?_push_lt (by omega)]
    rw [Array.getElem?_eq_getElem (by omega)] at h
    exact h
  have b2 : ((W.alloc (.cells (encC x).toArray 62)).alloc (.cells (encC y).toArray 62)).heap[W.heap.size + 1]? = some (.cells (encC y).toArray 62) := by
    have h := new_at (W.alloc (.cells (encC x).toArray 62)) (.cells (encC y).toArray 62)
    rw [size_alloc] at h
    exact h
  go_enter Try.func134, Try.ntmps134
  iterate 21 go_step
  refine op_ld (ld x _ _ b1) rfl rfl ?_
  iterate 5 go_step
  refine op_ld (ld y _ _ b2) rfl rfl ?_
  go_wp2_with (first | (go_at_call 22; refine (hc _).mono ?_; rintro e w' ⟨rfl, q, os, rfl⟩))
  go_ret
  exact ⟨rfl, q, _, by rw [Sort.alloc_eq_grow, Sort.alloc_eq_grow, Sort.grow_grow]; show Sort.grow (Sort.grow (W.drewN q) _) os = _; rw [Sort.grow_grow]⟩
end Go.Proofs.Ythphhnkoilcofaa
/- Entries sorted in their block. -/
namespace Go.Proofs.Ythphhnkoilcofaa
open Go Go.RowKit
theorem flat_cel (cs : List Cel) : cs.flatMap encC = (List.range cs.length).flatMap fun k => encC cs[k]! := by
  have h : ∀ (l : List Cel), l = (List.range l.length).map fun k => l[k]! := fun l => by
    apply List.ext_getElem?
    intro i
    rw [List.getElem?_map]
    by_cases hi : i < l.length
    · rw [List.getElem?_range hi, List.getElem?_eq_getElem hi]; simp [hi]
    · rw [List.getElem?_eq_none (by omega), List.getElem?_eq_none (by simpa using hi)]; rfl
  conv => lhs; rw [h cs]
  rw [List.flatMap_map]
theorem flatK_cel (cs : List Cel) : Go.Sort.flatK encC 33 cs.toArray = (cs.flatMap encC).toArray := by
  have hl : (cs.flatMap encC).length = cs.length * 33 := by rw [flat_cel]; exact flat_len _ fun k _ => encC_len _
  apply Array.ext_getElem?
  intro j
  by_cases hj : j < cs.length * 33
  · have h1 : j / 33 < cs.length := by omega
    have hx : (encC cs[j / 33]!)[j % 33]? = some ((encC cs[j / 33]!)[j % 33]'(by rw [encC_len]; omega)) := List.getElem?_eq_getElem _
    have := flat_get (F := fun k => encC cs[k]!) (s := 33) cs.length (fun k _ => encC_len _) (j / 33) (j % 33) _ h1 hx
    rw [show j / 33 * 33 + j % 33 = j by omega, ← flat_cel] at this
    have eR : (cs.flatMap encC).toArray[j]? = some ((encC cs[j / 33]!)[j % 33]'(by rw [encC_len]; omega)) := by rw [List.getElem?_toArray]; exact this
    have e := Go.Sort.get_flatK encC 33 cs.toArray j (by simpa using hj)
    rw [eR, Array.getElem?_eq_getElem (by simpa using hj)]
    congr 1
    rw [getElem!_pos (Go.Sort.flatK encC 33 cs.toArray) j (by simpa using hj)] at e
    rw [e]
    have e2 : (cs.toArray)[j / 33]! = cs[j / 33]! := by simp [h1]
    rw [e2, getElem!_pos (encC cs[j / 33]!) (j % 33) (by rw [encC_len]; omega)]
  · rw [Array.getElem?_eq_none (by simpa using hj), Array.getElem?_eq_none (by simp [hl]; omega)]
theorem swo_C : Go.Sort.SWO (ltOf cfC) := by
  have tot : ∀ p q : List UInt8, p.length = 32 → q.length = 32 → p = q ∨ ltB p q ∨ ltB q p := fun p q hp hq => by
    by_cases h : com p q < 256
    · have h1 := com_agree p q; have h2 := com_ne p q h
      cases hb : bitN p (com p q) with
      | false => exact .inr (.inl ⟨_, h, h1, hb, by rw [hb] at h2; simpa using h2.symm⟩)
      | true => exact .inr (.inr ⟨_, h, h1.symm, by rw [hb] at h2; simpa using h2.symm, hb⟩)
    · exact .inl (agree_eq hp hq fun t ht => com_agree p q t (by omega))
  have e : ∀ x y : Cel, ltOf cfC x y = true ↔ ltB x.1.1 y.1.1 := fun x y => by
    unfold ltOf cfC; rw [decide_eq_true_eq]; exact cmp_ltB x.2.1 y.2.1
  have en : ∀ x y : Cel, ltOf cfC x y = false ↔ ¬ ltB x.1.1 y.1.1 := fun x y => by rw [← e, Bool.not_eq_true]
  refine ⟨fun x => (en x x).2 fun h => h.irr, fun x y z h1 h2 => (e x z).2 (((e x y).1 h1).trans ((e y z).1 h2)), fun x y z h1 h2 => (en x z).2 fun h => ?_⟩
  have h1 := (en x y).1 h1; have h2 := (en y z).1 h2
  rcases tot x.1.1 y.1.1 x.2.1 y.2.1 with q | q | q
  · rw [q] at h; exact h2 h
  · exact h1 q
  · exact h2 (q.trans h)
theorem srt_blk (cs : List Cel) (sp : List Value) (b cap : Nat) {t : TypeId} (w : World) (hb : Blk w b t (cs.flatMap encC ++ sp).toArray) (hsz : cs.length < 4611686018427387904) :
    Calls Try.prog 133 #[.slice (some ⟨b, 0, none⟩) cs.length cap, .func (.func 134) #[] #[]] w fun e w' => e = .returned (.tuple #[]) ∧
      ∃ ds : List Cel, ds.Perm cs ∧ (∀ i j, i < j → j < ds.length → ltOf cfC ds[j]! ds[i]! = false) ∧ Blk w' b t (ds.flatMap encC ++ sp).toArray ∧ (∀ j, j < w.heap.size → j ≠ b → w'.heap[j]? = w.heap[j]?) ∧ w.heap.size ≤ w'.heap.size ∧ w'.os = w.os ∧ w'.tape = w.tape ∧ w'.output = w.output := by
  have hl : (cs.flatMap encC).length = cs.length * 33 := by rw [flat_cel]; exact flat_len _ fun k _ => encC_len _
  have hH : Go.Sort.HoldsK encC 33 w b 0 cs.toArray := fun j hj => by
    have hj' : j < cs.length * 33 := by simpa using hj
    refine ⟨?_, frozen_of_row w b (0 + j) _ t hb⟩
    rw [hb.cell, Nat.zero_add, List.getElem?_toArray, List.getElem?_append_left (by omega), flatK_cel]
    rw [List.getElem?_eq_getElem (by omega)]
    simp [hl, hj', getElem!_pos]
  have h := AnyQ.slices_SortFunc srtL 33 Try.isAgg62 Try.sizeOf62 encC encC_len encC_one cfC swo_C 134 #[] b 0 cap cs.toArray w (enters_of Try.func134 (by kernel_rfl) rfl) (fun _ _ _ _ x y => srt_cmp x y _) hH hb.lt (by simpa using hsz)
  refine h.mono ?_
  rintro e w' ⟨rfl, d', n, os, ⟨p1, _, p3⟩, hs, rfl⟩
  have hsz' : d'.size = cs.length := by simpa using p1
  refine ⟨rfl, d'.toList, ?_, fun i j hij hj => ?_, ?_, fun j hj hne => ?_, ?_, rfl, rfl, rfl⟩
  · have e1 : (d'.extract 0 cs.toArray.size) = d' := by rw [← p1, Array.extract_size]
    have e2 : (cs.toArray.extract 0 cs.toArray.size) = cs.toArray := by rw [Array.extract_size]
    rw [e1, e2] at p3
    exact p3
  · have := hs i j (Nat.zero_le _) hij (by simp at hj ⊢; omega)
    rw [getElem!_pos d'.toList j hj, getElem!_pos d'.toList i (by omega)]
    rw [getElem!_pos d' j (by simpa using hj), getElem!_pos d' i (by simp at hj; omega)] at this
    simpa using this
  · have hsz2 : (d'.toList.flatMap encC).length = cs.length * 33 := by rw [flat_cel, flat_len _ fun k _ => encC_len _]; simp [hsz']
    have hblt := hb.lt
    unfold Blk at hb ⊢
    simp only [sortWorldK, Go.Sort.putRowK, Go.Sort.grow, Go.Sort.putRow, Go.Sort.mapBlock, Go.Sort.ahead]
    rw [Array.getElem?_append_left (by simpa using hblt), Array.getElem?_modify, if_pos rfl, hb]
    simp only [Option.map_some, Go.Sort.onCells]
    congr 2
    have ef := flatK_cel d'.toList
    rw [Array.toArray_toList] at ef
    apply Array.ext_getElem?
    intro j
    simp only [Go.Sort.putCells, Array.getElem?_mapIdx, List.getElem?_toArray, Nat.zero_le, true_and, Nat.zero_add, Nat.sub_zero, List.size_toArray]
    rw [ef]
    by_cases hj : j < cs.length * 33
    · rw [List.getElem?_append_left (by omega), List.getElem?_append_left (by omega)]
      simp [hj, getElem!_pos, hl, hsz2]
    · rw [List.getElem?_append_right (by omega), List.getElem?_append_right (by omega), hl, hsz2]
      simp only [List.size_toArray, hsz2]
      cases sp[j - cs.length * 33]? with
      | none => rfl
      | some x => simp [hj]
  · simp only [sortWorldK, Go.Sort.putRowK, Go.Sort.grow, Go.Sort.putRow, Go.Sort.mapBlock, Go.Sort.ahead]
    rw [Array.getElem?_append_left (by simpa using hj), Array.getElem?_modify, if_neg (fun e => hne e.symm)]
  · simp [sortWorldK, Go.Sort.putRowK, Go.Sort.grow, Go.Sort.putRow, Go.Sort.mapBlock, Go.Sort.ahead]
end Go.Proofs.Ythphhnkoilcofaa
/- Entries by rising key; slices.SortFunc in values. -/
namespace Go.Proofs.Ythphhnkoilcofaa
open Go Go.RowKit
abbrev Pr := List UInt8 × List UInt8
abbrev prT : Ty := .cn (.ba 32) (.cn .sc .nl)
def prA (p : Pr) : AV := .st [.ba p.1, .bs p.2 none]
def K32 (l : List Pr) : Prop := ∀ x ∈ l, x.1.length = 32
def Dis (l : List Pr) : Prop := l.Pairwise fun x y => x.1 ≠ y.1
def Ris (l : List Pr) : Prop := l.Pairwise fun x y => ltB x.1 y.1
theorem ltB_tot {p q : List UInt8} (hp : p.length = 32) (hq : q.length = 32) : p = q ∨ ltB p q ∨ ltB q p := by
  by_cases h : com p q < 256
  · have h1 := com_agree p q; have h2 := com_ne p q h
    cases hb : bitN p (com p q) with
    | false => exact .inr (.inl ⟨_, h, h1, hb, by rw [hb] at h2; simpa using h2.symm⟩)
    | true => exact .inr (.inr ⟨_, h, h1.symm, by rw [hb] at h2; simpa using h2.symm, hb⟩)
  · exact .inl (agree_eq hp hq fun t ht => com_agree p q t (by omega))
def ins (p : Pr) : List Pr → List Pr
  | [] => [p]
  | q :: l => if Lib.compareBytes p.1 q.1 < 0 then p :: q :: l else q :: ins p l
theorem ins_perm (p : Pr) : ∀ l, (ins p l).Perm (p :: l)
  | [] => .refl _
  | q :: l => by
    unfold ins
    split
    · exact .refl _
    · exact ((ins_perm p l).cons q).trans (.swap p q l)
def srt (l : List Pr) : List Pr := l.foldr ins []
theorem srt_perm : ∀ l, (srt l).Perm l
  | [] => .refl _
  | p :: l => (ins_perm p (srt l)).trans ((srt_perm l).cons p)
theorem ins_ris (p : Pr) (hp : p.1.length = 32) : ∀ l, K32 l → Ris l → (∀ x ∈ l, p.1 ≠ x.1) → Ris (ins p l)
  | [], _, _, _ => by unfold ins Ris; simp
  | q :: l, hk, hr, hn => by
    obtain ⟨h1, h2⟩ := List.pairwise_cons.1 hr
    have hq := hk q List.mem_cons_self
    have hc : Lib.compareBytes p.1 q.1 < 0 ↔ ltB p.1 q.1 := cmp_ltB hp hq
    unfold ins
    split
    · rename_i hlt
      refine List.pairwise_cons.2 ⟨fun y hy => ?_, hr⟩
      rcases List.mem_cons.1 hy with rfl | hy
      · exact hc.1 hlt
      · exact (hc.1 hlt).trans (h1 y hy)
    · rename_i hlt
      refine List.pairwise_cons.2 ⟨fun y hy => ?_, ins_ris p hp l (fun x hx => hk x (List.mem_cons_of_mem _ hx)) h2 fun x hx => hn x (List.mem_cons_of_mem _ hx)⟩
      rcases List.mem_cons.1 ((ins_perm p l).mem_iff.1 hy) with rfl | hy
      · rcases ltB_tot hp hq with e | e | e
        · exact absurd e (hn q List.mem_cons_self)
        · exact absurd (hc.2 e) hlt
        · exact e
      · exact h1 y hy
theorem K32.perm {l m : List Pr} (h : K32 l) (hp : m.Perm l) : K32 m := fun x hx => h x (hp.mem_iff.1 hx)
theorem srt_ris : ∀ l, K32 l → Dis l → Ris (srt l)
  | [], _, _ => List.Pairwise.nil
  | p :: l, hk, hd => by
    obtain ⟨h1, h2⟩ := List.pairwise_cons.1 hd
    have hk2 : K32 l := fun x hx => hk x (List.mem_cons_of_mem _ hx)
    exact ins_ris p (hk p List.mem_cons_self) (srt l) (hk2.perm (srt_perm l)) (srt_ris l hk2 h2) fun x hx => h1 x ((srt_perm l).mem_iff.1 hx)
theorem ris_uniq : ∀ l m : List Pr, Ris l → Ris m → l.Perm m → l = m
  | [], m, _, _, h => (List.nil_perm.1 h).symm
  | a :: l, [], _, _, h => absurd h.length_eq (by simp)
  | a :: l, b :: m, h1, h2, h => by
    obtain ⟨a1, a2⟩ := List.pairwise_cons.1 h1
    obtain ⟨b1, b2⟩ := List.pairwise_cons.1 h2
    have e : a = b := by
      rcases List.mem_cons.1 (h.mem_iff.1 List.mem_cons_self) with e | e
      · exact e
      · rcases List.mem_cons.1 (h.symm.mem_iff.1 List.mem_cons_self) with e2 | e2
        · exact e2.symm
        · exact ((a1 b e2).trans (b1 a e)).irr.elim
    subst e
    rw [ris_uniq l m a2 b2 (List.Perm.cons_inv h)]
theorem perm_lift {α β : Type} {f : α → β} {cs ds : List β} (h : cs.Perm ds) : ∀ z : List α, z.map f = cs → ∃ z', z.Perm z' ∧ z'.map f = ds := by
  induction h with
  | nil => intro z hz; exact ⟨z, .refl _, hz⟩
  | cons x h ih =>
    intro z hz
    cases z with
    | nil => cases hz
    | cons y z =>
      simp only [List.map_cons, List.cons.injEq] at hz
      obtain ⟨z', h1, h2⟩ := ih z hz.2
      exact ⟨y :: z', h1.cons y, by simp [hz.1, h2]⟩
  | swap x y l =>
    intro z hz
    match z, hz with
    | a :: b :: z, hz =>
      simp only [List.map_cons, List.cons.injEq] at hz
      exact ⟨b :: a :: z, .swap b a z, by simp [hz.1, hz.2.1, hz.2.2]⟩
  | trans h1 h2 ih1 ih2 =>
    intro z hz
    obtain ⟨z', k1, k2⟩ := ih1 z hz
    obtain ⟨z'', k3, k4⟩ := ih2 z' k2
    exact ⟨z'', k1.trans k3, k4⟩
/-- What the sort leaves is the sorted list, entry by entry. -/
theorem srt_of (zs : List (Pr × Cel)) (hz : ∀ z ∈ zs, z.2.1.1 = z.1.1) (hd : Dis (zs.map (·.1))) {ds : List Cel} (hp : ds.Perm (zs.map (·.2))) (hs : ∀ i j, i < j → j < ds.length → ltOf cfC ds[j]! ds[i]! = false) :
    ∃ z' : List (Pr × Cel), z'.Perm zs ∧ z'.map (·.2) = ds ∧ z'.map (·.1) = srt (zs.map (·.1)) := by
  obtain ⟨z', h1, h2⟩ := perm_lift hp.symm zs rfl
  refine ⟨z', h1.symm, h2, ?_⟩
  have hk : K32 (zs.map (·.1)) := fun x hx => by
    obtain ⟨z, hz1, rfl⟩ := List.mem_map.1 hx
    rw [← hz z hz1]; exact z.2.2.1
  have hpm : (z'.map (·.1)).Perm (zs.map (·.1)) := (h1.map _).symm
  refine ris_uniq _ _ ?_ (srt_ris _ hk hd) (hpm.trans (srt_perm _).symm)
  have hd' : Dis (z'.map (·.1)) := (hpm.pairwise_iff (fun h => h.symm)).2 hd
  unfold Ris
  rw [List.pairwise_iff_getElem]
  intro i j hi hj hij
  have hj' : j < z'.length := by simpa using hj
  have hi' : i < z'.length := by omega
  have hne := (List.pairwise_iff_getElem.1 hd') i j hi hj hij
  rw [List.getElem_map, List.getElem_map] at hne ⊢
  have hzi : z'[i].2.1.1 = z'[i].1.1 := hz _ (h1.symm.mem_iff.1 (List.getElem_mem hi'))
  have hzj : z'[j].2.1.1 = z'[j].1.1 := hz _ (h1.symm.mem_iff.1 (List.getElem_mem hj'))
  have hs' := hs i j hij (by rw [← h2]; simpa using hj')
  have ei : ds[i]! = z'[i].2 := by rw [← h2]; simp [hi']
  have ej : ds[j]! = z'[j].2 := by rw [← h2]; simp [hj']
  rw [ei, ej] at hs'
  unfold ltOf cfC at hs'
  rw [decide_eq_false_iff_not, cmp_ltB z'[j].2.2.1 z'[i].2.2.1, hzi, hzj] at hs'
  have l1 : z'[i].1.1.length = 32 := by rw [← hzi]; exact z'[i].2.2.1
  have l2 : z'[j].1.1.length = 32 := by rw [← hzj]; exact z'[j].2.2.1
  rcases ltB_tot l1 l2 with e | e | e
  · exact absurd e hne
  · exact e
  · exact absurd e hs'
end Go.Proofs.Ythphhnkoilcofaa
/- slices.SortFunc in values: a box that grows holds the entries sorted. -/
namespace Go.Proofs.Ythphhnkoilcofaa
open Go Go.RowKit
theorem pr_cel {g : Gh} {p : Pr} {cs : List Value} (h : RC g prT (prA p) cs) : ∃ c : Cel, c.1.1 = p.1 ∧ cs = encC c := by
  unfold prA at h
  obtain ⟨c, d, rfl, h1, h2⟩ := h.st_inv
  obtain ⟨c2, d2, rfl, h3, h4⟩ := h2.st_inv
  obtain ⟨e1, rfl⟩ := h1.ba_inv
  injection e1 with e1
  obtain ⟨_, A, c, rfl, _⟩ := h3.bs_inv
  cases h4
  exact ⟨⟨(p.1, .slice A p.2.length c), e1.symm, rfl⟩, rfl, by simp [encC]⟩
theorem zip_of {g : Gh} {F : Nat → List Value} : ∀ (l : List Pr) (s : Nat), (∀ k (h : k < l.length), RC g prT (prA l[k]) (F (s + k))) → ∃ zs : List (Pr × Cel), zs.map (·.1) = l ∧ (∀ z ∈ zs, z.2.1.1 = z.1.1 ∧ RC g prT (prA z.1) (encC z.2)) ∧ (List.range l.length).flatMap (fun k => F (s + k)) = (zs.map (·.2)).flatMap encC
  | [], _, _ => ⟨[], rfl, (fun z hz => (by cases hz)), rfl⟩
  | p :: l, s, h => by
    obtain ⟨zs, h1, h2, h3⟩ := zip_of l (s + 1) fun k hk => by
      have := h (k + 1) (by simpa using hk)
      rw [show s + 1 + k = s + (k + 1) by omega]
      simpa using this
    have h0 := h 0 (by simp)
    simp only [List.getElem_cons_zero, Nat.add_zero] at h0
    obtain ⟨c, hc1, hc2⟩ := pr_cel h0
    refine ⟨(p, c) :: zs, by simp [h1], fun z hz => ?_, ?_⟩
    · rcases List.mem_cons.1 hz with rfl | hz
      · exact ⟨hc1, by rw [← hc2]; exact h0⟩
      · exact h2 z hz
    · rw [List.length_cons, List.range_succ_eq_map, List.flatMap_cons, List.flatMap_map, Nat.add_zero, hc2]
      simp only [List.map_cons, List.flatMap_cons]
      congr 1
      rw [← h3]
      congr 1
      funext k
      show F (s + (k + 1)) = F (s + 1 + k)
      congr 1; omega
theorem sort_v (l : List Pr) (γ : Nat) (hd : Dis l) (hn : l.length ≤ 4294967296) : VX Try.prog 133 [(.vc 62 prT, .vc γ (l.map prA))] [] [] [.vw 0 γ l.length, .v (.func (.func 134) #[] #[])]
    [(.vc 62 prT, .vc γ ((srt l).map prA))] [] [] (.tup []) := by
  refine ⟨⟨Try.f133, Try.func133, by kernel_rfl, by kernel_rfl⟩, fun w N vs HI hlen hv => ?_⟩
  obtain ⟨v, u, rfl⟩ : ∃ v u, vs = [v, u] := by
    match vs, hlen with
    | [v, u], _ => exact ⟨v, u, rfl⟩
  have h0 := hv 0 _ v rfl rfl
  have hu := (hv 1 _ u rfl rfl).v_inv
  subst hu
  obtain ⟨_, y, e9, T9, A, c, e1, hy, hty, hle, hnc, hm, hxx⟩ := h0.vw_inv.vw_inv
  injection e1 with e1; subst e1
  obtain ⟨y', hy', hyT, hbc⟩ := HI.br.at_ 0 _ _ (by rfl)
  rw [hy] at hy'; injection hy' with hy'; subst hy'
  obtain ⟨T2, F, sp, ⟨e4, he4, htid⟩, hmp, hgen, hT0, hcm, hcs, hcl, hsp, hFk⟩ := hbc.vc_inv
  injection he4 with he40 he41; subst he40 he41
  obtain ⟨hcc, hA⟩ := hxx hgen
  have hlm : (l.map prA).length = l.length := List.length_map ..
  obtain ⟨zs, z1, z2, z3⟩ := zip_of (g := N.base) (F := F) l 0 fun k hk => by
    have := hFk k (by rw [hlm]; exact hk)
    rw [List.getElem_map] at this
    rw [Nat.zero_add]; exact this
  simp only [Nat.zero_add] at z3
  have hzl : zs.length = l.length := by rw [← z1, List.length_map]
  have hfz : y.fz = false := by
    cases e : y.fz with
    | false => rfl
    | true => exact absurd (HI.fz 0 y hy e) (by simp)
  rw [hlm] at hcs
  rcases hA with ⟨ho, rfl⟩ | ⟨ho, rfl⟩
  · have hc0 := hcm.2 ho
    have hl0 : l = [] := List.length_eq_zero_iff.1 (by omega)
    subst hl0
    refine (AnyF.slices_SortFunc_none srtL none c _ w).mono ?_
    rintro e w' ⟨rfl, rfl⟩
    exact ⟨N, _, rfl, HI, ⟨[], rfl, rfl, fun i a u ha _ => by simp at ha⟩⟩
  · have hblk := (HI.mem.bx 0 y hy ho).c hmp
    rw [htid, hcs, z3] at hblk
    have hsb := srt_blk (zs.map (·.2)) sp y.blk c w hblk (by rw [List.length_map]; omega)
    rw [List.length_map, hzl] at hsb
    refine hsb.mono ?_
    rintro e w' ⟨rfl, ds, hp, hs, hb2, hold, hsz, ho2, ht2, hu2⟩
    obtain ⟨z', p1, p2, p3⟩ := srt_of zs (fun z hz => (z2 z hz).1) (by rw [z1]; exact hd) hp hs
    rw [z1] at p3
    have hz'l : z'.length = l.length := by rw [← hzl]; exact p1.length_eq
    have hsl : (srt l).length = l.length := (srt_perm l).length_eq
    have hds : ds.flatMap encC = (List.range l.length).flatMap fun k => encC ds[k]! := by
      rw [flat_cel, show ds.length = l.length by rw [← p2, List.length_map, hz'l]]
    have hF2 : ∀ k, k < l.length → RC N.base prT (prA ((srt l)[k]!)) (encC ds[k]!) := fun k hk => by
      have hk' : k < z'.length := by omega
      have e1 : ds[k]! = z'[k].2 := by rw [← p2]; simp [hk']
      have e2 : (srt l)[k]! = z'[k].1 := by rw [← p3]; simp [hk']
      rw [e1, e2]
      exact (z2 _ (p1.mem_iff.1 (List.getElem_mem hk'))).2
    have hlen2 : (ds.flatMap encC).length = (zs.map (·.2)).length * 33 := by rw [hds, flat_len _ fun k _ => encC_len _, List.length_map, hzl]
    have hlen1 : ((zs.map (·.2)).flatMap encC).length = (zs.map (·.2)).length * 33 := by rw [flat_cel, flat_len _ fun k _ => encC_len _]
    obtain ⟨g', h1, h2, h3⟩ := HI.upd (x' := { y with cells := ds.flatMap encC ++ sp }) (w' := w') (a := .vc γ ((srt l).map prA)) hy (by simp)
      (by unfold Bx.own; rw [ho]; exact ⟨ho2, ht2, hu2, hsz, fun k hk hne => hold k hk (fun e => hne (by rw [e]; rfl))⟩) rfl hfz (Nat.le_refl _) (fun _ => ⟨rfl, rfl, rfl⟩)
      (fun _ => ⟨.of hmp (by show Blk w' y.blk y.tid _; rw [htid]; exact hb2), .inr ⟨ho, rfl⟩⟩) (fun e => by rw [show ({ y with cells := ds.flatMap encC ++ sp } : Bx).off = y.off from rfl, ho] at e; cases e) (fun e => by rw [show ({ y with cells := ds.flatMap encC ++ sp } : Bx).mp = y.mp from rfl, hmp] at e; cases e)
      (by
        rw [hyT]
        refine .inr (.inl ⟨prT, γ, (srt l).map prA, fun k => encC ds[k]!, sp, ⟨_, rfl, htid⟩, rfl, hmp, hgen, hT0, hcm, ?_, ?_, hsp, fun k hk => ?_⟩)
        · show ds.flatMap encC ++ sp = _
          rw [hds, List.length_map, hsl]
        · show (ds.flatMap encC ++ sp).length = _
          rw [← hcl, hcs, z3, List.length_append, List.length_append, hlen2, hlen1]
        · rw [List.length_map] at hk
          rw [List.getElem_map]
          have := hF2 k (by omega)
          rw [getElem!_pos (srt l) k hk] at this
          exact this)
    rw [hyT] at h2
    exact ⟨g', _, rfl, h2, ⟨[], rfl, rfl, fun i a u ha _ => by simp at ha⟩⟩
end Go.Proofs.Ythphhnkoilcofaa
/- The arguments of a statement, as values; what a statement's form asks for, out of a contract in values. -/
namespace Go.Proofs.Ythphhnkoilcofaa
open Go Go.RowKit
theorem bulk_part {H : Type} {d : DataW H} : ∀ {l : List (DataW H)}, d ∈ l → Rows.uptoBulk d ≤ Rows.uptoBulkAll l
  | x :: l, h => by
    rcases List.mem_cons.1 h with e | e
    · subst e; simp only [Rows.uptoBulkAll]; omega
    · have := bulk_part e; simp only [Rows.uptoBulkAll]; omega
theorem bulk_one {H : Type} (d : DataW H) : 1 ≤ Rows.uptoBulk d := by
  cases d with
  | lit l => cases l <;> simp [Rows.uptoBulk]
  | _ => simp [Rows.uptoBulk]
theorem bulk_len {H : Type} : ∀ l : List (DataW H), l.length ≤ Rows.uptoBulkAll l
  | [] => by simp
  | x :: l => by have := bulk_one x; have := bulk_len l; simp only [Rows.uptoBulkAll, List.length_cons]; omega
def isU8 (τ : Tab) (e : Nat) : Bool := match Tab.get e τ with
  | some j => (match j.d with | .int .u8 => true | _ => false)
  | none => false
def tyOf (τ : Tab) (e : Nat) : Ty := match Tab.get e τ with
  | some j => j.ty
  | none => .sc
def ShL (f : Nat → AV → Prop) : List Nat → List AV → Prop
  | [], [] => True
  | t :: ts, a :: az => f t a ∧ ShL f ts az
  | _, _ => False
/-- The values that a type may have: each stretch no longer than M. -/
def Sh (τ : Tab) (M : Nat) : Nat → Nat → AV → Prop
  | 0, _, _ => False
  | d + 1, t, a => match (Tab.get t τ).map TI.d with
    | some (.int k) => ∃ n, a = .v (.int k n) ∧ ilo k ≤ n ∧ n ≤ ihi k
    | some .bool => ∃ b, a = .v (.bool b)
    | some .str => ∃ s : ByteArray, a = .v (.string s) ∧ s.size ≤ M
    | some (.slc e) => if isU8 τ e then ∃ l, a = .bs l none ∧ l.length ≤ M else ∃ es, a = .sl (tyOf τ e) es none ∧ es.length ≤ M ∧ ∀ x ∈ es, Sh τ M d e x
    | some (.arr n _) => ∃ l, a = .ba l ∧ l.length = n
    | some (.rcd fs) => ∃ az, a = .st az ∧ ShL (Sh τ M d) (fs.map (·.2)) az
    | _ => False
def lay (τ : Tab) : List (Nat × Nat) → Nat → Ty → Bool
  | [], _, .nl => true
  | (o, t) :: fs, off, .cn T Ts => o == off && (Tab.get t τ).isSome && tyOf τ t == T && lay τ fs (off + T.size) Ts
  | _, _, _ => false
def okT (τ : Tab) : Nat → Nat → Bool
  | 0, _ => false
  | d + 1, t => match Tab.get t τ with
    | some i => (match i.d with
      | .int _ => i.ty == .sc
      | .bool => i.ty == .sc
      | .str => i.ty == .sc
      | .slc e => i.ty == .sc && (Tab.get e τ).isSome && decide (0 < (tyOf τ e).size) && (isU8 τ e && tyOf τ e == .sc || !isU8 τ e && okT τ d e)
      | .arr n e => isU8 τ e && i.ty == .ba n && tyOf τ e == .sc
      | .rcd fs => lay τ fs 0 i.ty && i.ty.agg && fs.all fun f => okT τ d f.2
      | _ => false)
    | none => false
section
variable {τ : Tab} {M d t : Nat} {a : AV} {i : TI}
theorem Sh.int {k : IntKind} (ht : Tab.get t τ = some i) (hd : i.d = .int k) (h : Sh τ M (d + 1) t a) : ∃ n, a = .v (.int k n) ∧ ilo k ≤ n ∧ n ≤ ihi k := by
  unfold Sh at h; simp only [ht, Option.map_some, hd] at h; exact h
theorem Sh.bool (ht : Tab.get t τ = some i) (hd : i.d = .bool) (h : Sh τ M (d + 1) t a) : ∃ b, a = .v (.bool b) := by
  unfold Sh at h; simp only [ht, Option.map_some, hd] at h; exact h
theorem Sh.str (ht : Tab.get t τ = some i) (hd : i.d = .str) (h : Sh τ M (d + 1) t a) : ∃ s : ByteArray, a = .v (.string s) ∧ s.size ≤ M := by
  unfold Sh at h; simp only [ht, Option.map_some, hd] at h; exact h
theorem Sh.bytes {e : Nat} (ht : Tab.get t τ = some i) (hd : i.d = .slc e) (hu : isU8 τ e = true) (h : Sh τ M (d + 1) t a) : ∃ l, a = .bs l none ∧ l.length ≤ M := by
  unfold Sh at h; simp only [ht, Option.map_some, hd, hu, if_true] at h; exact h
theorem Sh.slc {e : Nat} (ht : Tab.get t τ = some i) (hd : i.d = .slc e) (hu : isU8 τ e = false) (h : Sh τ M (d + 1) t a) : ∃ es, a = .sl (tyOf τ e) es none ∧ es.length ≤ M ∧ ∀ x ∈ es, Sh τ M d e x := by
  unfold Sh at h; simp only [ht, Option.map_some, hd, hu, Bool.false_eq_true, if_false] at h; exact h
theorem Sh.arr {n e : Nat} (ht : Tab.get t τ = some i) (hd : i.d = .arr n e) (h : Sh τ M (d + 1) t a) : ∃ l, a = .ba l ∧ l.length = n := by
  unfold Sh at h; simp only [ht, Option.map_some, hd] at h; exact h
theorem Sh.rcd {fs : List (Nat × Nat)} (ht : Tab.get t τ = some i) (hd : i.d = .rcd fs) (h : Sh τ M (d + 1) t a) : ∃ az, a = .st az ∧ ShL (Sh τ M d) (fs.map (·.2)) az := by
  unfold Sh at h; simp only [ht, Option.map_some, hd] at h; exact h
theorem shl_nil {f : Nat → AV → Prop} {az : List AV} (h : ShL f [] az) : az = [] := by
  cases az with
  | nil => rfl
  | cons _ _ => exact h.elim
theorem shl_cons {f : Nat → AV → Prop} {t : Nat} {ts : List Nat} {az : List AV} (h : ShL f (t :: ts) az) : ∃ a r, az = a :: r ∧ f t a ∧ ShL f ts r := by
  cases az with
  | nil => exact h.elim
  | cons a r => exact ⟨a, r, rfl, h.1, h.2⟩
/-- Elements, each of a form. -/
theorem sh_list {α : Type} {p : AV → Prop} {q : α → Prop} {f : α → AV} (hp : ∀ x, p x → ∃ y, x = f y ∧ q y) : ∀ {es : List AV}, (∀ x ∈ es, p x) → ∃ ys : List α, es = ys.map f ∧ ∀ y ∈ ys, q y
  | [], _ => ⟨[], rfl, fun y h => by cases h⟩
  | x :: es, h => by
    obtain ⟨y, rfl, hy⟩ := hp x (h x List.mem_cons_self)
    obtain ⟨ys, rfl, hys⟩ := sh_list hp (es := es) fun x hx => h x (List.mem_cons_of_mem _ hx)
    exact ⟨y :: ys, rfl, fun z hz => by rcases List.mem_cons.1 hz with e | e; (subst e; exact hy); exact hys z e⟩
end
/-- All cells of a memory. -/
def allOf (w : World) : Gh := ⟨fun b o => w.cell? ⟨b, o, none⟩, [], []⟩
section
variable {H : Type} {enc : TypeId × Value → H} {P : Program} {τ : Tab} {w : World} {sp : Nat → Bool} {held : Bool} {M : Nat}
theorem wf_lohi {k : IntKind} {n : Int} (h : (Lit.int k n).wf = true) : ilo k ≤ n ∧ n ≤ ihi k := by
  cases k <;> simp [Lit.wf, IntKind.min, IntKind.max, IntKind.signed, IntKind.bits] at h <;> simp only [ilo, ihi] <;> omega
theorem isU8_ok (hτ : τ.ok P) {e : Nat} (h : isU8 τ e = true) : P.underlying e = some (.int .u8) := by
  unfold isU8 at h
  split at h
  · rename_i j hj
    have hok := (Tab.get_ok hτ hj).d
    split at h
    · rename_i hd; rw [hd] at hok; exact hok
    · cases h
  · cases h
theorem cells_ty (hτ : τ.ok P) {e : Nat} (h : (Tab.get e τ).isSome = true) : P.cellsOf e = (tyOf τ e).size := by
  unfold tyOf
  cases hj : Tab.get e τ with
  | none => rw [hj] at h; cases h
  | some j =>
    obtain ⟨inf, z, h1, h2, _⟩ := (Tab.get_ok hτ hj).info
    simp [Program.cellsOf, h1, h2]
theorem isU8_some {e : Nat} (h : isU8 τ e = true) : (Tab.get e τ).isSome = true := by
  unfold isU8 at h
  split at h
  · rename_i j hj; rw [hj]; rfl
  · cases h
theorem B8_of {n : Int} (h : 0 ≤ n ∧ n ≤ 255) : B8 (UInt8.ofNat n.toNat) = .int .u8 n := by
  simp only [B8, UInt8.toNat_ofNat']
  congr 1; omega
theorem trod_rc (hτ : τ.ok P) : ∀ (d : Nat) {t fuel : Nat} {cs : List Value} {x : DataW H × List MemPlace}, okT τ d t = true → DataW.trod enc P w 0 sp held fuel t cs = some x → Rows.uptoBulk x.1 ≤ M →
    ∃ a, Sh τ M d t a ∧ RC (allOf w) (tyOf τ t) a cs := by
  intro d
  induction d with
  | zero => intro t fuel cs x h; cases h
  | succ d ih =>
    intro t fuel cs x hok hx hM
    unfold okT at hok
    cases hg : Tab.get t τ with
    | none => rw [hg] at hok; cases hok
    | some i =>
    rw [hg] at hok
    have hi := Tab.get_ok hτ hg
    have hty : tyOf τ t = i.ty := by unfold tyOf; rw [hg]
    have hdd := hi.d
    have hsz : P.cellsOf t = i.ty.size := by rw [← hty]; exact cells_ty hτ (by rw [hg]; rfl)
    rw [hty]
    dsimp only at hok
    have sh : ∀ a, (match some i.d with
      | some (.int k) => ∃ n, a = AV.v (.int k n) ∧ ilo k ≤ n ∧ n ≤ ihi k
      | some .bool => ∃ b, a = .v (.bool b)
      | some .str => ∃ s : ByteArray, a = .v (.string s) ∧ s.size ≤ M
      | some (.slc e) => if isU8 τ e then ∃ l, a = .bs l none ∧ l.length ≤ M else ∃ es, a = .sl (tyOf τ e) es none ∧ es.length ≤ M ∧ ∀ x ∈ es, Sh τ M d e x
      | some (.arr n _) => ∃ l, a = .ba l ∧ l.length = n
      | some (.rcd fs) => ∃ az, a = .st az ∧ ShL (Sh τ M d) (fs.map (·.2)) az
      | _ => False) → Sh τ M (d + 1) t a := fun a h => by unfold Sh; rw [hg]; exact h
    generalize hdi : i.d = D' at hok hdd sh
    cases D' with
    | int k =>
      obtain ⟨n, rfl, rfl, hw⟩ := DataW.trod_int hdd hx
      rw [eq_of_beq hok]
      exact ⟨.v (.int k n), sh _ ⟨n, rfl, wf_lohi hw⟩, .v rfl⟩
    | bool =>
      obtain ⟨b, rfl, rfl⟩ := DataW.trod_bool hdd hx
      rw [eq_of_beq hok]
      exact ⟨.v (.bool b), sh _ ⟨b, rfl⟩, .v rfl⟩
    | str =>
      obtain ⟨s, rfl, rfl, hs⟩ := DataW.trod_string hdd hx
      rw [eq_of_beq hok]
      refine ⟨.v (.string s), sh _ ⟨s, rfl, ?_⟩, .v rfl⟩
      simp only [Rows.uptoBulk] at hM
      have : s.data.toList.length = s.size := by rw [Array.length_toList]; rfl
      omega
    | slc e =>
      simp only [Bool.and_eq_true, Bool.or_eq_true, Bool.not_eq_true', decide_eq_true_eq] at hok
      obtain ⟨⟨⟨h1, h2⟩, h3⟩, h4⟩ := hok
      have hce := cells_ty hτ h2
      rw [eq_of_beq h1]
      by_cases hu : isU8 τ e = true
      · have hu1 : tyOf τ e = .sc := by rcases h4 with h4 | h4; exact eq_of_beq h4.2; rw [h4.1] at hu; cases hu
        have hs0 : P.cellsOf e = 1 := by rw [hce, hu1]; rfl
        rcases ChangeShapes.open_ints hdd (isU8_ok hτ hu) hs0 hx with ⟨rfl, rfl⟩ | ⟨A, len, cap, zs, rfl, _, hl, hm, hz, rfl, hc, hw⟩
        · refine ⟨.bs [] none, sh _ ?_, RC.nil1 rfl⟩
          show ite _ _ _
          rw [if_pos hu]; exact ⟨[], rfl, Nat.zero_le _⟩
        · have hlz : len ≤ zs.length := by rw [hz]; split <;> omega
          have hll : ((zs.take len).map fun n => UInt8.ofNat n.toNat).length = len := by simp [hlz]
          refine ⟨.bs ((zs.take len).map fun n => UInt8.ofNat n.toNat) none, sh _ ?_, ?_⟩
          · show ite _ _ _
            rw [if_pos hu]
            refine ⟨_, rfl, ?_⟩
            rw [hll]
            simp only [Rows.uptoBulk] at hM
            have h5 := bulk_len (ChangeShapes.lits (H := H) .u8 (zs.take len))
            have h6 : (ChangeShapes.lits (H := H) .u8 (zs.take len)).length = len := by simp [ChangeShapes.lits, hlz]
            omega
          · have := RC.bs (g := allOf w) (l := (zs.take len).map fun n => UInt8.ofNat n.toNat) (tok := none) (A := some A) (c := cap) (by rw [hll]; exact hl) hm ?_ (fun i hi => by cases hi)
            · rw [hll] at this; exact this
            · rcases Nat.eq_zero_or_pos len with h0 | h0
              · left; rw [h0]; rfl
              · right
                obtain ⟨b, o, rfl, hcc⟩ := ints_at hc (by omega)
                refine ⟨b, o, rfl, fun j hj => ?_⟩
                rw [hll] at hj
                have h7 := hcc j (by omega)
                show w.cell? _ = _
                rw [h7]
                have h8 : zs.getD j 0 = zs[j]'(by omega) := by simp [List.getD, show j < zs.length by omega]
                have h9 := wf_lohi (hw _ (List.getElem_mem (show j < zs.length by omega)))
                simp only [ilo, ihi] at h9
                rw [h8]
                simp only [List.getElem_map, List.getElem_take]
                rw [B8_of h9]
      · have h4' : okT τ d e = true := by rcases h4 with h4 | h4; exact absurd h4.1 hu; exact h4.2
        rcases DataW.trod_slice hdd hx with ⟨rfl, rfl⟩ | ⟨A, len, cap, elems, rest, n, _, rfl, rfl, _, hl, hm, hlen, hel, _, _⟩
        · refine ⟨.sl (tyOf τ e) [] none, sh _ ?_, RC.nil2 rfl⟩
          show ite _ _ _
          rw [if_neg hu]; exact ⟨[], rfl, Nat.zero_le _, fun x hx => by cases hx⟩
        · simp only [Rows.uptoBulk] at hM
          have hb1 := bulk_len (elems.map (·.1))
          rw [List.length_map, hlen] at hb1
          have each : ∀ k, ∃ p : List Value × AV, k < len → w.cells? 0 (A.add (k * P.cellsOf e)) (P.cellsOf e) = some p.1 ∧ Sh τ M d e p.2 ∧ RC (allOf w) (tyOf τ e) p.2 p.1 := fun k => by
            by_cases hk : k < len
            · have h5 := hel k hk
              rw [List.getElem?_eq_getElem (by omega)] at h5
              obtain ⟨cs', h6, h7⟩ := Option.bind_eq_some_iff.1 h5
              have h8 : Rows.uptoBulk (elems[k]'(by omega)).1 ≤ M := by
                have := bulk_part (List.mem_map_of_mem (f := (·.1)) (List.getElem_mem (show k < elems.length by omega)))
                omega
              obtain ⟨a, ha1, ha2⟩ := ih h4' h7 h8
              exact ⟨(cs', a), fun _ => ⟨h6, ha1, ha2⟩⟩
            · exact ⟨([], .any), fun h => absurd h hk⟩
          obtain ⟨f, hf⟩ := Classical.axiomOfChoice each
          have hll : ((List.range len).map fun k => (f k).2).length = len := by simp
          refine ⟨.sl (tyOf τ e) ((List.range len).map fun k => (f k).2) none, sh _ ?_, ?_⟩
          · show ite _ _ _
            rw [if_neg hu]
            refine ⟨_, rfl, by rw [hll]; omega, fun x hx => ?_⟩
            obtain ⟨k, hk, rfl⟩ := List.mem_map.1 hx
            exact (hf k (List.mem_range.1 hk)).2.1
          · have := RC.sl (g := allOf w) (T := tyOf τ e) (es := (List.range len).map fun k => (f k).2) (tok := none) (A := some A) (c := cap) (by rw [hll]; exact hl) hm (fun k => (f k).1) ?_ (fun k hk => ?_) (fun i hi => by cases hi)
            · rw [hll] at this; exact this
            · rcases Nat.eq_zero_or_pos len with h0 | h0
              · left; rw [h0]; rfl
              · right
                obtain ⟨b, o, spot⟩ := A
                have hs0 : spot = none := by
                  obtain ⟨_, h6, h7⟩ := World.cells?_some (hf 0 h0).1
                  have h8 := h7 0 (by omega)
                  have : 0 < (f 0).1.length := by omega
                  rw [List.getElem?_eq_getElem this] at h8
                  have := World.cell?_spot h8
                  simpa [Addr.add] using this
                subst hs0
                refine ⟨b, o, rfl, fun k hk j u hu => ?_⟩
                rw [hll] at hk
                obtain ⟨_, h6, h7⟩ := World.cells?_some (hf k hk).1
                have hj := (List.getElem?_eq_some_iff.1 hu).1
                have h8 := h7 j (by omega)
                rw [hu, addr_add, addr_add, hce] at h8
                exact h8
            · have hk' : k < len := by rw [hll] at hk; exact hk
              simp only [List.getElem_map, List.getElem_range]
              exact (hf k hk').2.2
    | arr n e =>
      simp only [Bool.and_eq_true] at hok
      obtain ⟨⟨h1, h2⟩, h3⟩ := hok
      have hce : P.cellsOf e = 1 := by rw [cells_ty hτ (isU8_some h1), eq_of_beq h3]; rfl
      obtain ⟨xs, m, _, rfl, hcl, hxl, hx1⟩ := DataW.trod_array hdd.1 hx
      rw [eq_of_beq h2]
      have hn : cs.length = n := by rw [hcl, hsz, eq_of_beq h2]; rfl
      have key : ∀ k (hk : k < cs.length), ∃ q : Int, cs[k] = .int .u8 q ∧ 0 ≤ q ∧ q ≤ 255 := fun k hk => by
        have h5 := hx1 k (by omega)
        rw [List.getElem?_eq_getElem (by omega)] at h5
        obtain ⟨q, h6, _, h7⟩ := DataW.trod_int (isU8_ok hτ h1) h5
        rw [hce, Nat.mul_one] at h6
        have h8 : ((cs.drop k).take 1)[0]? = some (.int .u8 q) := by rw [h6]; rfl
        rw [List.getElem?_take, if_pos (by decide), List.getElem?_drop, Nat.add_zero, List.getElem?_eq_getElem hk] at h8
        injection h8 with h8
        have := wf_lohi h7
        exact ⟨q, h8, this⟩
      have hcs : cs = (cs.map fun v => match v with | .int _ q => UInt8.ofNat q.toNat | _ => 0).map B8 := by
        apply List.ext_getElem
        · simp
        · intro k hk _
          obtain ⟨q, h5, h6⟩ := key k hk
          simp only [List.getElem_map, h5]
          exact (B8_of h6).symm
      obtain ⟨l, hl⟩ : ∃ l : List UInt8, cs = l.map B8 := ⟨_, hcs⟩
      subst hl
      exact ⟨.ba l, sh _ ⟨l, rfl, by simpa using hn⟩, .ba (by simpa using hn)⟩
    | rcd fs =>
      simp only [Bool.and_eq_true, List.all_eq_true] at hok
      obtain ⟨⟨h1, h2⟩, h3⟩ := hok
      obtain ⟨F, hu, hF, _⟩ := hdd
      obtain ⟨xs, m, _, rfl, hcl, hxl, hx1⟩ := DataW.trod_struct hu hx
      simp only [Rows.uptoBulk] at hM
      rw [hsz] at hcl
      have key : ∀ (L : List (Nat × Nat)) (off : Nat) (T : Ty) (k : Nat), fs.drop k = L → lay τ L off T = true → cs.length = off + T.size → ∃ az, ShL (Sh τ M d) (L.map (·.2)) az ∧ RC (allOf w) T (.st az) (cs.drop off) := by
        intro L
        induction L with
        | nil =>
          intro off T k _ hlay hc
          cases T with
          | nl => rw [show cs.drop off = [] from List.drop_eq_nil_of_le (by rw [hc]; exact Nat.le_refl _)]; exact ⟨[], trivial, .nl⟩
          | _ => cases hlay
        | cons p L ihL =>
          intro off T k hk hlay hc
          cases T with
          | cn T Ts =>
            obtain ⟨o, ft⟩ := p
            simp only [lay, Bool.and_eq_true] at hlay
            obtain ⟨⟨⟨h4, h5⟩, h6⟩, h7⟩ := hlay
            obtain rfl := eq_of_beq h4
            obtain rfl := eq_of_beq h6
            have hfk : fs[k]? = some (o, ft) := by
              have : (fs.drop k)[0]? = some (o, ft) := by rw [hk]; rfl
              rw [List.getElem?_drop, Nat.add_zero] at this; exact this
            have hFk : ∃ fl, F[k]? = some fl ∧ fl.offset = o ∧ fl.type = ft := by
              rw [← hF, List.getElem?_map] at hfk
              obtain ⟨fl, h8, h9⟩ := Option.map_eq_some_iff.1 hfk
              simp only [Prod.mk.injEq] at h9
              exact ⟨fl, by simpa using h8, h9.1, h9.2⟩
            obtain ⟨fl, hfl, rfl, rfl⟩ := hFk
            have h8 := hx1 k fl hfl
            have hkx : k < xs.length := by rw [hxl]; have := (Array.getElem?_eq_some_iff.1 hfl).1; exact this
            rw [List.getElem?_eq_getElem hkx] at h8
            have h9 : Rows.uptoBulk xs[k].1 ≤ M := by
              have := bulk_part (List.mem_map_of_mem (f := (·.1)) (List.getElem_mem hkx))
              omega
            obtain ⟨a, ha1, ha2⟩ := ih (h3 _ (List.mem_of_getElem? hfk)) h8 h9
            obtain ⟨az, hz1, hz2⟩ := ihL (fl.offset + (tyOf τ fl.type).size) Ts (k + 1) (by rw [← List.drop_drop, hk]; rfl) h7 (by rw [hc]; simp only [Ty.size]; omega)
            refine ⟨a :: az, ⟨ha1, hz1⟩, ?_⟩
            have := RC.cn ha2 hz2
            rw [cells_ty hτ h5, ← List.drop_drop, List.take_append_drop] at this
            exact this
          | _ => cases hlay
      obtain ⟨az, hz1, hz2⟩ := key fs 0 i.ty 0 rfl h1 (by rw [hcl]; omega)
      exact ⟨.st az, sh _ ⟨az, rfl, hz1⟩, hz2⟩
    | _ => cases hok
theorem arg_rv (hτ : τ.ok P) {d t b0 : Nat} {r : Reach} {v : Value} {x : DataW H} {ps : List MemPlace} (hok : okT τ d t = true) (hval : Value.okWide P w r b0 t v) (hx : DataW.Trod enc P w 0 sp held t v x ps) (hM : Rows.uptoBulk x ≤ M) :
    ∃ a, Sh τ M d t a ∧ RV (allOf w) a v := by
  obtain ⟨fuel, hf⟩ := hx
  obtain ⟨a, h1, h2⟩ := trod_rc hτ d hok hf hM
  refine ⟨a, h1, ?_⟩
  cases d with
  | zero => cases hok
  | succ d =>
  unfold okT at hok
  cases hg : Tab.get t τ with
  | none => rw [hg] at hok; cases hok
  | some i =>
  rw [hg] at hok
  have hdd := (Tab.get_ok hτ hg).d
  have hty : tyOf τ t = i.ty := by unfold tyOf; rw [hg]
  rw [hty] at h2
  dsimp only at hok
  have hag : i.ty.agg = true → (∃ cs, v = .agg cs) → RV (allOf w) a v := fun h3 ⟨cs, hv⟩ => by
    subst hv
    refine (show RV1 (allOf w) a (.agg cs) from .inl ⟨i.ty, cs.toList, h3, h2, rfl⟩).rv
  have hsc : i.ty = .sc → v.cells.toList = [v] → RV (allOf w) a v := fun h3 hv => by
    rw [h3, hv] at h2; exact h2.rvp
  generalize i.d = D' at hok hdd
  cases D' with
  | int k => obtain ⟨n, rfl⟩ := WideShapes.okWide_int hdd hval; exact hsc (eq_of_beq hok) rfl
  | bool => obtain ⟨n, rfl⟩ := WideShapes.okWide_bool hdd hval; exact hsc (eq_of_beq hok) rfl
  | str => obtain ⟨n, rfl⟩ := WideShapes.okWide_string hdd hval; exact hsc (eq_of_beq hok) rfl
  | slc e =>
    obtain ⟨A, len, cap, rfl⟩ := WideShapes.okWide_slice hdd hval
    simp only [Bool.and_eq_true] at hok
    exact hsc (eq_of_beq hok.1.1.1) rfl
  | arr n e =>
    simp only [Bool.and_eq_true] at hok
    have hu := hdd.1
    simp only [Value.okWide, hu] at hval
    obtain ⟨cs, rfl, _⟩ := hval
    exact hag (by rw [eq_of_beq hok.1.2]; rfl) ⟨cs, rfl⟩
  | rcd fs =>
    simp only [Bool.and_eq_true] at hok
    obtain ⟨F, hu, _⟩ := hdd
    obtain ⟨cs, rfl, _⟩ := WideShapes.okWide_struct hu hval
    exact hag hok.1.2 ⟨cs, rfl⟩
  | _ => cases hok
/-- All arguments. -/
theorem args_rv (hτ : τ.ok P) {d b0 : Nat} {r : Reach} : ∀ {ts : List TypeId} {vs : List Value} {ds : List (DataW H)} {ps : List MemPlace}, (ts.all fun t => okT τ d t) = true → DataW.TrodAll enc P w 0 sp held ts vs ds ps →
    (∀ (j : Nat) t v, ts[j]? = some t → vs[j]? = some v → Value.okWide P w r b0 t v) → Rows.uptoBulkAll ds ≤ M →
    ∃ az, ShL (Sh τ M d) ts az ∧ vs.length = az.length ∧ ∀ (i : Nat) x v, az[i]? = some x → vs[i]? = some v → RV (allOf w) x v
  | [], [], [], _, _, _, _, _ => ⟨[], trivial, rfl, fun i x v h => by simp at h⟩
  | t :: ts, v :: vs, x :: ds, _, hok, h, hval, hM => by
    obtain ⟨p, q, h1, h2, _⟩ := h
    simp only [List.all_cons, Bool.and_eq_true] at hok
    simp only [Rows.uptoBulkAll] at hM
    obtain ⟨a, ha1, ha2⟩ := arg_rv (M := M) hτ hok.1 (hval 0 t v rfl rfl) h1 (by omega)
    obtain ⟨az, hz1, hz2, hz3⟩ := args_rv hτ hok.2 h2 (fun j t v hj hv => hval (j + 1) t v hj hv) (by omega)
    refine ⟨a :: az, ⟨ha1, hz1⟩, by simp [hz2], fun i y u hy hu => ?_⟩
    cases i with
    | zero =>
      simp only [List.getElem?_cons_zero, Option.some.injEq] at hy hu
      subst hy hu; exact ha2
    | succ i => exact hz3 i y u (by simpa using hy) (by simpa using hu)
  | [], _ :: _, _, _, _, h, _, _ => by cases h
  | [], [], _ :: _, _, _, h, _, _ => by cases h
  | _ :: _, [], _, _, _, h, _, _ => by cases h
  | _ :: _, _ :: _, [], _, _, h, _, _ => by cases h
theorem allOf_inv (P : Program) (w : World) : Inv P w (allOf w) (allOf w) [] [] [] w := by
  have nb : ∀ (i : Nat) (x : Bx), (allOf w).bx[i]? = some x → False := fun i x h => by simp [allOf] at h
  have nr : ∀ (i : Nat) (x : Rw), (allOf w).rw[i]? = some x → False := fun i x h => by simp [allOf] at h
  refine ⟨⟨fun b o u h => h, fun i x hx => (nb i x hx).elim, fun i x hx => (nb i x hx).elim, fun i x hx => (nb i x hx).elim, fun i r hr => (nr i r hr).elim, fun i x hx => (nb i x hx).elim, fun i x hx => (nb i x hx).elim, fun i j x y hx => (nb i x hx).elim, fun i r k hr => (nr i r hr).elim, fun i r k hr => (nr i r hr).elim, fun i j x r hx => (nb i x hx).elim, fun i j r s k hr => (nr i r hr).elim⟩,
    ⟨Kept.refl _ _, fun i x hx => (nb i x hx).elim, fun i r k hr => (nr i r hr).elim, fun b _ _ o => rfl, Gh.le.refl _⟩, ⟨rfl, fun i T a h => by simp at h⟩, fun i x hx => (nb i x hx).elim, rfl, fun r hr => by simp [allOf] at hr⟩
/-- A law's function, called: true, and nothing old has turned. -/
theorem law_calls (hτ : τ.ok P) {f : FuncId} {fn : Func} {d b0 : Nat} {r : Reach} {args : Array Value} {ds : List (DataW H)} {ps : List MemPlace} (hok : (fn.params.toList.all fun t => okT τ d t) = true)
    (hT : DataW.TrodAll enc P w 0 sp held fn.params.toList args.toList ds ps) (hval : ∀ (j : Nat) t v, fn.params[j]? = some t → args[j]? = some v → Value.okWide P w r b0 t v) (hM : Rows.uptoBulkAll ds ≤ M)
    (h : ∀ az, ShL (Sh τ M d) fn.params.toList az → VC P f az [] (.v (.bool true))) : Calls P f args w fun e w' => e = .returned (.bool true) ∧ Below w.heap.size w w' := by
  obtain ⟨az, h1, h2, h3⟩ := args_rv (M := M) hτ hok hT (fun j t v hj hv => hval j t v (by simpa using hj) (by simpa using hv)) hM
  have := (h az h1).2 w (allOf w) args.toList (allOf_inv P w) h2 h3
  refine this.mono fun e w' hp => ?_
  obtain ⟨g, v, rfl, hi, hv⟩ := hp
  refine ⟨by rw [hv.v_inv], hi.fr.kept.below (Nat.le_refl _) fun k _ hk => ?_⟩
  rcases hk with ⟨x, hx, _⟩ | ⟨x, hx, _⟩ <;> simp [allOf] at hx
theorem trodAll_below (hl : laidOutB P = true) {W W' : World} (hb : Below W.heap.size W W') : ∀ {ts : List TypeId} {vs : List Value} {ds : List (DataW H)} {ps : List MemPlace}, (ts.all fun t => P.readableRec t && decide (t < P.types.size)) = true →
    DataW.TrodAll enc P W 0 (fun _ => true) true ts vs ds ps → (∀ x ∈ ps, x.block < W.heap.size) → DataW.TrodAll enc P W' 0 (fun b => decide (b < W.heap.size)) true ts vs ds ps
  | [], [], [], _, _, h, _ => h
  | t :: ts, v :: vs, x :: ds, _, hr, h, hlt => by
    obtain ⟨p, q, h1, h2, rfl⟩ := h
    simp only [List.all_cons, Bool.and_eq_true, decide_eq_true_eq] at hr
    exact ⟨p, q, Below.trod hl hr.1.1 hr.1.2 h1 hb (fun x hx => hlt x (List.mem_append_left _ hx)), trodAll_below hl hb hr.2 h2 (fun x hx => hlt x (List.mem_append_right _ hx)), rfl⟩
  | [], _ :: _, _, _, _, h, _ => by cases h
  | [], [], _ :: _, _, _, h, _ => by cases h
  | _ :: _, [], _, _, _, h, _ => by cases h
  | _ :: _, _ :: _, [], _, _, h, _ => by cases h
/-- What a statement's form asks for: true is handed back, the arguments are as they were. -/
theorem post_true (hl : laidOutB P = true) {fn : Func} {s : ChangeSpec} {W W' : World} {args : Array Value} {ds gs : List (DataW H)} {before : List MemPlace} {bt : TypeId}
    (hW : DataW.Whole enc P fn.params.toList s.vars false W args.toList ds gs before) (hb : Below W.heap.size W W') (hr : (fn.params.toList.all fun t => P.readableRec t && decide (t < P.types.size)) = true) (hv : s.vars = []) (hrt : fn.resultTypes = #[bt]) (hbt : P.underlying bt = some .bool)
    (hs : s.fn H (ds ++ gs) = ⟨[.lit (.bool true)], ds, []⟩) : s.post enc P fn false true false false W args (.bool true) W' := by
  have hlt := fun x hx => hW.lt x hx
  obtain ⟨p, q, hA, hV, rfl, hfz, hnd⟩ := id hW
  refine ⟨ds, gs, p ++ q, [], p, [], hW, ?_, ?_, ?_, hb.frame _, fun h => by cases h⟩
  · rw [hrt, hs]
    exact ⟨[], [], ⟨1, by simp [DataW.trod, hbt, Value.cells]⟩, rfl, rfl⟩
  · rw [hs]
    exact trodAll_below hl hb hr hA fun x hx => by simpa using hlt x (List.mem_append_left _ hx)
  · rw [hs, hv]; rfl
end
end Go.Proofs.Ythphhnkoilcofaa
/- What grows, lent to a call that only reads it. -/
namespace Go.Proofs.Ythphhnkoilcofaa
open Go Go.RowKit
section
variable {P : Program} {τ : Tab} {w0 w : World} {N : Gh} {g gS : Gh} {st st' sq sq' : St} {nt : Nat} {a : Act}
/-- What was known under a guard that is known to hold, is known. -/
def gdEq (t : Nat) : Bool → Gd → Bool
  | true, some (k, true) => k == t
  | false, some (k, false) => k == t
  | _, _ => false
theorem gdEq_ok {t : Nat} {b : Bool} {c : Gd} (h : gdEq t b c = true) : c = some (t, b) := by
  unfold gdEq at h
  split at h
  · rw [beq_iff_eq.1 h]
  · rw [beq_iff_eq.1 h]
  · cases h
def unG (t : Nat) (b : Bool) : List (Nat × Gd × AV) → List (Nat × Gd × AV)
  | [] => []
  | (k, c, x) :: l => (k, bif gdEq t b c then none else c, x) :: unG t b l
theorem unG_mem {t : Nat} {b : Bool} {p : Nat × Gd × AV} : ∀ {l : List (Nat × Gd × AV)}, p ∈ unG t b l → ∃ q ∈ l, p = (q.1, bif gdEq t b q.2.1 then none else q.2.1, q.2.2)
  | (k, c, x) :: l, h => by
    rcases List.mem_cons.1 h with h | h
    · exact ⟨_, List.mem_cons_self, h⟩
    · obtain ⟨q, hq, e⟩ := unG_mem h
      exact ⟨q, List.mem_cons_of_mem _ hq, e⟩
theorem FR.unG (hF : FR g nt st a) {t : Nat} {b : Bool} (h : a.tmps.getD t undef = .bool b) : FR g nt ⟨unG t b st.t, st.bx, st.fz, st.rw⟩ a := by
  refine ⟨hF.sz, hF.df, fun p hp hg => ?_, fun p hp hg => ?_⟩
  · obtain ⟨q, hq, rfl⟩ := unG_mem hp
    cases e : gdEq t b q.2.1 with
    | true => exact hF.t q hq (by rw [gdEq_ok e]; exact h)
    | false => exact hF.t q hq (by simpa [e] using hg)
  · obtain ⟨q, hq, rfl⟩ := unG_mem hp
    cases e : gdEq t b q.2.1 with
    | true => exact absurd (by rw [e]; exact trivial) hg
    | false => exact hF.u q hq (by simpa [e] using hg)
theorem v_knownT (H : RelT P w0 N nt gS sq st a w) (t : Nat) (b : Bool) (hk : st.tmp none t = .v (.bool b)) : RelT P w0 N nt gS sq ⟨unG t b st.t, st.bx, st.fz, st.rw⟩ a w := by
  obtain ⟨hM, hrw, hFq, hBq, g, HI, hF, hle, hbs⟩ := H
  have h1 := tmp_sound hF (c := none) trivial t
  rw [hk] at h1
  exact ⟨hM, hrw, hFq, hBq, g, HI, hF.unG h1.v_inv, hle, hbs⟩
/-- A guard that is known to hold, in a region that draws. -/
theorem v_guardT {ops : Array Oper} {Q : Exit → Act → World → Prop} {L A : List Nat} {i : Nat} {rest : List Oper} {o : Oper} {t : Nat} {b : Bool} (H : RelT P w0 N nt gS sq st a w) (hL : L.contains i = true) (hgd : gdOf ops o = some (some (t, b))) (hk : st.tmp none t = .v (.bool b))
    (h : wpT P ops Q (Mem gS) L A ({ o with guard := none } :: rest) i a w) : wpT P ops Q (Mem gS) L A (o :: rest) i a w := by
  obtain ⟨hM, hrw, hFq, hBq, g, HI, hF, hle, hbs⟩ := H
  have h1 := tmp_sound hF (c := none) trivial t
  rw [hk] at h1
  have hw : Region.wanted o (yielded ops a.tmps) = true := (gdOf_wanted hgd).2 h1.v_inv
  obtain ⟨dst, op, ty, pos, after, gd⟩ := o
  unfold wpT at h ⊢
  rw [if_pos hw, if_pos hL]
  rw [if_pos (by simp [Region.wanted]), if_pos hL] at h
  exact h
end
section
variable {P : Program} {τ : Tab} {w0 w : World} {N : Gh} {g gS : Gh} {st st' sq sq' : St} {nt : Nat} {a : Act} {r : AV} {cd : Prop}
end
end Go.Proofs.Ythphhnkoilcofaa
/- slices.Clone of entries, in values. -/
namespace Go.Proofs.Ythphhnkoilcofaa
open Go Go.RowKit
section
variable {P : Program} {τ : Tab} {w0 w : World} {N : Gh} {g : Gh} {st : St} {nt : Nat} {a : Act}
/-- A slice of no elements, laid out: it may grow. -/
theorem v_mk0 {ops : Array Oper} {Q : Exit → Act → World → Prop} {rest : List Oper} {o : Oper} {t e : Nat} {i j : TI} (hτ : τ.ok P) (hi : Tab.get t τ = some i) (hid : i.d = .slc e) (hj : Tab.get e τ = some j) (hs : 0 < j.ty.size) (H : Rel P w0 N nt st a w)
    (k : ∀ a w, Rel P w0 N nt ((⟨st.t, st.bx ++ [(.vc e j.ty, .vc 0 [])], st.fz, st.rw⟩ : St).put o.dst none (.vw st.bx.length 0 0)) a w → wpList P ops Q rest a w) (hgd : o.guard = none := by rfl) (ho : o.op = .buildSlice t 0 #[] := by rfl) (hd : okDst nt none o.dst = true := by rfl) : wpList P ops Q (o :: rest) a w := by
  obtain ⟨g, HI, hF⟩ := H
  have hok := Tab.get_ok hτ hi
  have hdd := hok.d
  rw [hid] at hdd
  have hjok := Tab.get_ok hτ hj
  obtain ⟨g', l1, I1, h1⟩ := HI.boxG (x := ⟨w.heap.size, e, .vc e j.ty, [], false, 0, 0, false, none⟩) (a := .vc 0 []) (w' := w.alloc (.cells #[] e)) rfl (grown_alloc w _) (fun _ => ⟨rfl, .of rfl (Blk.new w e #[])⟩) (fun e => by cases e) (fun e => by cases e)
    (.inr (.inl ⟨j.ty, 0, [], fun _ => [], [], ⟨_, rfl, rfl⟩, rfl, rfl, rfl, hs, ⟨Nat.zero_le _, fun _ => rfl⟩, rfl, (by show 0 = 0 * _; rw [Nat.zero_mul]), fun u hu => (by cases hu), fun k hk => absurd hk (by simp)⟩))
  refine wpList_plain hgd fun K hK => ?_
  unfold Oper.wp
  have he : (execOp a.eval o).run P w = .ok (.value (.slice (some ⟨w.heap.size, 0, none⟩) 0 0)) (w.alloc (.cells #[] e)) := by
    obtain ⟨dst, op, ty, pos, after, gd⟩ := o
    dsimp only at ho
    subst ho
    simp [execOp, Instr.buildSlice, run_underlying (show P.underlying t = _ from hdd), hjok.sizeOf w, Instr.fill, newRow]
    rw [show (Array.map (fun _ : Nat => (default : Value)) (Array.range 0)) = #[] from Array.eq_empty_of_size_eq_zero (by simp)]
  rw [he, Oper.upon_value]
  refine hK _ _ (k _ _ ⟨g', ?_, (hF.mono l1.1).put hd (fun _ => (RC.vw h1 rfl (Nat.le_refl _) (Nat.le_refl _) (Nat.zero_le _) fun _ => ⟨rfl, .inr ⟨rfl, rfl⟩⟩).rv1) rfl (fun h => absurd trivial h)⟩)
  cases o.dst <;> exact I1
/-- Is a slice that stays as it is nil? -/
theorem v_isNil {ops : Array Oper} {Q : Exit → Act → World → Prop} {rest : List Oper} {o : Oper} {t e q : Nat} {x : Operand} {T : Ty} {es : List AV} (H : Rel P w0 N nt st a w) (ht : P.underlying t = some (.slice e))
    (k : ∀ b : Bool, (es ≠ [] → b = false) → ∀ a w, Rel P w0 N nt (st.put o.dst none (.v (.bool b))) a w → wpList P ops Q rest a w) (hgd : o.guard = none := by rfl) (ho : o.op = .binOp .eql t x (.const (.slice none 0 0)) q := by rfl) (hd : okDst nt none o.dst = true := by rfl) (hx : st.ev none x = .sl T es none := by rfl) : wpList P ops Q (o :: rest) a w := by
  obtain ⟨g, HI, hF⟩ := H
  have ex := ev_sound hF (c := none) trivial x
  rw [hx] at ex
  obtain ⟨_, A, c, F, e1, _, _, hr, _⟩ := ex.sl_inv.sl_inv
  injection e1 with e1
  refine wpList_plain hgd fun K hK => ?_
  unfold Oper.wp
  have he : (execOp a.eval o).run P w = .ok (.value (.bool A.isNone)) w := by
    obtain ⟨dst, op, ty, pos, after, gd⟩ := o
    dsimp only at ho
    subst ho
    have hg : (eqGuard .eql t x (.const (.slice none 0 0)) (.slice A es.length c) (.slice none 0 0)).run P w = .ok () w := by simp [eqGuard]
    have hb := Lib.run_eql_slice_nil w t e A es.length c 0 0 ht
    have ev0 : a.eval (.const (.slice none 0 0)) = .slice none 0 0 := rfl
    simp only [execOp, ev0, e1, Sem.run_bind, hg, Result.andThen_ok, hb, Sem.run_pure]
  rw [he, Oper.upon_value]
  refine hK _ _ (k A.isNone (fun hne => ?_) _ _ ⟨g, ?_, hF.put hd (fun _ => RV.v_of rfl) rfl (fun h => absurd trivial h)⟩)
  · rcases hr with h | ⟨b, o, hA, _⟩
    · exact absurd h hne
    · rw [hA]; rfl
  · cases o.dst <;> exact HI
end
theorem clone_v (l : List Pr) (hl : l ≠ []) (hn : l.length ≤ 34359738000) : VX Try.prog 132 [] [] [] [.sl prT (l.map prA) none] [(.vc 62 prT, .vc 1 (l.map prA))] [] [] (.vw 0 1 l.length) := by
  have hlm : (l.map prA).length = l.length := List.length_map ..
  have hne : l.map prA ≠ [] := fun h => hl (by simpa using h)
  refine mE Try.func132 ?_; intro N w0 a w hN hR H
  refine mW ?_; clear H; intro a w H
  refine v_isNil H Try.underlying57 ?_; clear H; intro b hb0 a w H
  have hbf := hb0 hne
  subst hbf
  replace H := nf H
  try refine wpList_nil ?_
  refine mW ?_; clear H; intro a w H
  refine mC H (fun hb => ?_) (fun hb => ?_)
  · cases hb
  · refine mS ?_
    (try refine wp_region_lit ?_)
    refine v_mk0 tab_ok (i := ti57) (j := ti62) rfl rfl rfl (by decide) H ?_; clear H; intro a w H
    replace H := nf H
    have hX := @hlm
    refine mW ?_; clear H; intro a w H
    refine wp_ret ?_; exact mEnd [0] [] [.tmp 2] [_] hN hR H
theorem clone0_v : VC Try.prog 132 [.sl prT [] none] [] (.sl prT [] none) := by
  refine mE Try.func132 ?_; intro N w0 a w hN hR H
  refine mW ?_; clear H; intro a w H
  refine v_isNil H Try.underlying57 ?_; clear H; intro b hb0 a w H
  clear hb0
  replace H := nf H
  try refine wpList_nil ?_
  refine mW ?_; clear H; intro a w H
  cases b with
  | true =>
    refine mC H (fun hb => ?_) (fun hb => ?_)
    · refine mW ?_; clear H; intro a w H
      refine wp_ret ?_; exact mEnd [] [] [.tmp 2] [_] hN hR H
    · cases hb
  | false =>
    refine mC H (fun hb => ?_) (fun hb => ?_)
    · cases hb
    · refine mS ?_
      (try refine wp_region_lit ?_)
      refine v_mk0 tab_ok (i := ti57) (j := ti62) rfl rfl rfl (by decide) H ?_; clear H; intro a w H
      replace H := nf H
      refine mW ?_; clear H; intro a w H
      have H := v_frz H 2 0 (Nat.le_trans hN (by decide)) rfl (by decide) rfl
      replace H := nf H
      refine wp_ret ?_; exact mEnd [] [] [.tmp 2] [_] hN hR H
theorem sort0_v : VC Try.prog 133 [.sl prT [] none, .v (.func (.func 134) #[] #[])] [] (.tup []) := by
  refine VC.ofA ⟨_, Try.func133, by kernel_rfl, by kernel_rfl⟩ fun w N vs hM hl hv => ?_
  obtain ⟨u, v, rfl, h1, h2⟩ := two (args := []) hl hv
  obtain ⟨_, A, c, F, e1, _⟩ := h1.sl_inv.sl_inv
  injection e1 with e1
  subst e1
  refine (AnyF.slices_SortFunc_none srtL A c _ w).mono ?_
  rintro e w' ⟨rfl, rfl⟩
  exact ⟨_, rfl, Below.refl _ _, ⟨[], rfl, rfl, fun i a u ha _ => by simp at ha⟩⟩
end Go.Proofs.Ythphhnkoilcofaa
/- node.sorted: entries by rising key, or why they may not be. -/
namespace Go.Proofs.Ythphhnkoilcofaa
open Go Go.RowKit
def chkP : List (List UInt8) → List Pr → Nat
  | _, [] => 0
  | ks, p :: l => if 1024 < p.2.length then 4 else if p.1 ∈ ks then 6 else chkP (ks ++ [p.1]) l
def errP (l : List Pr) : Nat := if 4096 < l.length then 4 else chkP [] l
def keysP (l : List Pr) : List (List UInt8) := l.map (·.1)
theorem chkP_dis : ∀ (ks : List (List UInt8)) (l : List Pr), chkP ks l = 0 → Dis l ∧ ∀ x ∈ l, x.1 ∉ ks
  | _, [], _ => ⟨List.Pairwise.nil, fun x hx => by cases hx⟩
  | ks, p :: l, h => by
    unfold chkP at h
    split at h
    · cases h
    · split at h
      · cases h
      · rename_i hn
        obtain ⟨h1, h2⟩ := chkP_dis _ l h
        refine ⟨List.pairwise_cons.2 ⟨fun y hy e => h2 y hy (by simp [e]), h1⟩, fun x hx => ?_⟩
        rcases List.mem_cons.1 hx with rfl | hx
        · exact hn
        · exact fun hm => h2 x hx (List.mem_append_left _ hm)
theorem chkP_cons (ks : List (List UInt8)) (l : List Pr) (k : Nat) (h : k < l.length) : chkP ks (l.drop k) = if 1024 < l[k].2.length then 4 else if l[k].1 ∈ ks then 6 else chkP (ks ++ [l[k].1]) (l.drop (k + 1)) := by
  rw [List.drop_eq_getElem_cons h]; rfl
def resP (l : List Pr) : AV := if errP l = 0 then .tup [.sl prT ((srt l).map prA) none, .v (.int .i64 0)] else .tup [.sl prT [] none, .v (.int .i64 (errP l : Int))]
theorem ktP : KT Try.prog 37 32 := KT.of Try.underlying37 Try.underlying5 (by kernel_rfl) (by kernel_rfl) (by kernel_rfl) (by kernel_rfl) (by kernel_rfl) (by decide +kernel)
theorem prA_get (l : List Pr) (k : Nat) (h : k < l.length) : (l.map prA).getD k .any = .st [.ba l[k].1, .bs l[k].2 none] := by simp [prA, List.getD_eq_getElem?_getD, h]
set_option maxRecDepth 20000 in
set_option maxHeartbeats 1000000 in
theorem sorted_v (l : List Pr) (hk : K32 l) (hl : l.length ≤ 34359738000) : VC Try.prog 88 [.sl prT (l.map prA) none] [] (resP l) := by
  have hlm : (l.map prA).length = l.length := List.length_map ..
  refine mE Try.func88 ?_; intro N w0 a w hN hR H
  have hX := @hlm
  refine mW ?_; clear H; intro a w H
  refine mC H (fun hb => ?_) (fun hb => ?_)
  · have he : errP l = 4 := by unfold errP; rw [if_pos (by simp at hb; omega)]
    have hr : resP l = .tup [.sl prT [] none, .v (.int .i64 4)] := by unfold resP; rw [he]; rfl
    rw [hr]
    refine mW ?_; clear H; intro a w H
    refine wp_ret ?_; exact mEnd [] [] [.tmp 2, .tmp 3] [_, _] hN hR H
  · have hle : l.length ≤ 4096 := by simp at hb; omega
    have he : errP l = chkP [] l := by unfold errP; rw [if_neg (by omega)]
    clear hb
    replace H := mK [0, 2, 3] 0 0 hN hR H
    refine mS ?_
    (try refine wp_region_lit ?_)
    refine v_mkMap (.ba 32) .sc H ?_; clear H; intro a w H
    replace H := nf H
    refine mW ?_; clear H; intro a w H
    refine v_loop (fun k : Nat => ⟨[(14, none, .v (.int .i64 (k : Int))), (13, none, .v (.int .i64 (l.length : Int))), (12, none, .sl prT (l.map prA) none), (4, none, .mr 0), (3, none, .v (.int .i64 0)), (2, none, .v (.slice none 0 0)), (0, none, .sl prT (l.map prA) none)],
      [(.mp (.ba 32) .sc, .mp ((keysP (l.take k)).map .ba) (List.replicate k (.v (.bool true))))], [], []⟩) (fun k => k ≤ l.length ∧ chkP (keysP (l.take k)) (l.drop k) = chkP [] l) (fun k => l.length - k) 0 ⟨Nat.zero_le _, rfl⟩ (H.to 1 0 ⟨Nat.le_trans hN (by decide), hR⟩ ⟨rfl, rfl, rfl, rfl, rfl, rfl, rfl, trivial⟩ rfl rfl rfl rfl rfl) ?_
    clear H
    rintro k a w ⟨hk1, hk2⟩ H
    refine mW ?_; clear H; intro a w H
    refine mC H (fun hb => ?_) (fun hb => ?_)
    · have hlt : k < l.length := by simpa using hb
      clear hb
      have hg := prA_get l k hlt
      have hp32 := hk _ (List.getElem_mem hlt)
      have hstep := chkP_cons (keysP (l.take k)) l k hlt
      rw [hk2] at hstep
      have htk : keysP (l.take (k + 1)) = keysP (l.take k) ++ [l[k].1] := by unfold keysP; rw [List.take_succ_eq_append_getElem hlt, List.map_append]; rfl
      obtain ⟨p, hpp⟩ : ∃ p, p = l[k] := ⟨_, rfl⟩
      rw [← hpp] at hg hp32 hstep htk
      obtain ⟨kb, vb⟩ := p
      dsimp only at hg hp32 hstep htk
      refine mS ?_
      clear hX; have hX := And.intro @hlm (@hg)
      (try refine wp_region_lit ?_); refine mN 3 hN H ?_; clear H; intro a w H
      refine mW ?_; clear H; intro a w H
      refine mC H (fun hb => ?_) (fun hb => ?_)
      · have hv : 1024 < vb.length := by simp at hb; omega
        have he4 : errP l = 4 := by rw [he, hstep, if_pos hv]
        have hr : resP l = .tup [.sl prT [] none, .v (.int .i64 4)] := by unfold resP; rw [he4]; rfl
        rw [hr]
        refine mW ?_; clear H; intro a w H
        refine wp_ret ?_; exact mEnd [] [] [.tmp 2, .tmp 3] [_, _] hN hR H
      · have hv : ¬ 1024 < vb.length := by simp at hb; omega
        clear hb
        rw [if_neg hv] at hstep
        refine mS ?_
        (try refine wp_region_lit ?_); refine mN 3 hN H ?_; clear H; intro a w H
        refine v_look ktP H Try.underlying205 Try.zeroValue4 (z := .v (.bool false)) (fun g => RV.v_of rfl) hp32 ?_ ?_
        · intro hnm
          clear H; intro a w H
          replace H := nf H
          rw [if_neg hnm] at hstep
          refine mW ?_; clear H; intro a w H
          refine mC H (fun hb => ?_) (fun hb => ?_)
          · cases hb
          · refine mS ?_
            (try refine wp_region_lit ?_); refine mN 3 hN H ?_; clear H; intro a w H
            refine v_mapNew ktP H Try.underlying205 hp32 hnm ?_; clear H; intro a w H
            replace H := nf H
            try refine wpList_nil ?_
            refine mW ?_; clear H; intro a w H
            exact ⟨k + 1, ⟨hlt, by rw [htk, ← hstep]⟩, by omega, H.to 1 0 ⟨Nat.le_trans hN (by decide), hR⟩ ⟨rfl, rfl, rfl, rfl, rfl, rfl, rfl, trivial⟩ (by rw [htk, List.map_append, List.replicate_succ']; rfl) rfl rfl rfl rfl⟩
        · intro j v hj hvj
          clear H; intro a w H
          have hvt : v = .v (.bool true) := by
            have := List.mem_of_getElem? hvj
            exact (List.mem_replicate.1 this).2
          subst hvt
          rw [if_pos (List.mem_of_getElem? hj)] at hstep
          have he6 : errP l = 6 := by rw [he, hstep]
          have hr : resP l = .tup [.sl prT [] none, .v (.int .i64 6)] := by unfold resP; rw [he6]; rfl
          rw [hr]
          replace H := nf H
          refine mW ?_; clear H; intro a w H
          refine mC H (fun hb => ?_) (fun hb => ?_)
          · refine mW ?_; clear H; intro a w H
            refine wp_ret ?_; exact mEnd [] [] [.tmp 2, .tmp 3] [_, _] hN hR H
          · cases hb
    · have hge : k = l.length := by simp at hb; omega
      clear hb
      subst hge
      rw [List.drop_length] at hk2
      have he0 : errP l = 0 := by rw [he, ← hk2]; rfl
      have hdis := (chkP_dis [] l (by rw [← hk2]; rfl)).1
      have hr : resP l = .tup [.sl prT ((srt l).map prA) none, .v (.int .i64 0)] := by unfold resP; rw [if_pos he0]
      rw [hr]
      replace H := mK [0, 2, 3] 0 0 hN hR H
      by_cases hl0 : l = []
      · subst hl0
        have hs0 : srt [] = [] := rfl
        rw [hs0]
        simp only [List.map_nil] at H ⊢
        refine mS ?_
        clear hX
        (try refine wp_region_lit ?_); refine mN 1 hN H ?_; clear H; intro a w H
        refine mCall [] [] (clone0_v) H ?_; clear H; intro a w H; try refine wpList_nil ?_
        refine mW ?_; clear H; intro a w H
        refine mCall [] [] (sort0_v) H ?_; clear H; intro a w H; try refine wpList_nil ?_
        refine mW ?_; clear H; intro a w H
        refine wp_ret ?_; exact mEnd [] [] [.tmp 2, .tmp 3] [_, _] hN hR H
      · have hc := clone_v l hl0 hl
        have hs := sort_v l 1 hdis (by omega)
        have hsl : (srt l).length = l.length := (srt_perm l).length_eq
        refine mS ?_
        clear hX
        (try refine wp_region_lit ?_); refine mN 1 hN H ?_; clear H; intro a w H
        refine mCall [] [] (hc) H ?_; clear H; intro a w H; try refine wpList_nil ?_
        refine mW ?_; clear H; intro a w H
        refine mCall [0] [] (hs) H ?_; clear H; intro a w H; try refine wpList_nil ?_
        refine mW ?_; clear H; intro a w H
        have H := v_frz H 2 0 (Nat.le_trans hN (by decide)) rfl (by rw [List.length_map, hsl]; exact Nat.le_refl _) rfl
        replace H := nf H
        have htl : ((srt l).map prA).take l.length = (srt l).map prA := List.take_of_length_le (by rw [List.length_map, hsl]; exact Nat.le_refl _)
        rw [htl] at H
        refine wp_ret ?_; exact mEnd [] [] [.tmp 2, .tmp 3] [_, _] hN hR H
end Go.Proofs.Ythphhnkoilcofaa
/- Digests of a byte and parts: the program's. -/
namespace Go.Proofs.Ythphhnkoilcofaa
open Go Go.RowKit
theorem of_v (t : UInt8) (ls : List (List UInt8)) (hb : ls.flatten.length ≤ 34359737000) (hl : ls.length ≤ 34359737000) : VC Try.prog 80 [.v (B8 t), .sl .sc (bss ls) none] [] (.ba (sum (t :: ls.flatten))) := by
  have hbl := bss_len ls
  have ht := t.toNat_lt
  refine mE Try.func80 ?_; intro N w0 a w hN hR H
  have hX := And.intro @ren_s8v (@ren_shv)
  have hY := And.intro @s8v.eq_1 (And.intro @shv.eq_1 (And.intro @W32.eq_1 (@h0.eq_1)))
  refine mW ?_; clear H; intro a w H
  refine mCall [] [] (new_v) H ?_; clear H; intro a w H; try refine wpList_nil ?_
  refine mW ?_; clear H; intro a w H
  obtain ⟨s1, b1, n1, h1, hw1⟩ := write_g [] [t] h0 (List.replicate 64 0) 0 good_nil (by simp) 0 (by decide)
  refine mCall [1] [] (hw1) H ?_; clear H; intro a w H; try refine wpList_nil ?_
  refine mW ?_; clear H; intro a w H
  refine v_loop (fun i : S8 × List UInt8 × Nat × Nat => ⟨[(4, none, .ptr 0 []), (5, none, .ptr 1 []), (15, none, .v (.int .i64 (i.2.2.2 : Int))), (14, none, .v (.int .i64 (ls.length : Int))), (13, none, .sl .sc (bss ls) none)], [(.ba 32, .ba (List.replicate 32 0)), (ti248.ty, shv i.1 i.2.1 i.2.2.1 (1 + (ls.take i.2.2.2).flatten.length))], [], []⟩)
    (fun i => Good (t :: (ls.take i.2.2.2).flatten) i.1 i.2.1 i.2.2.1 ∧ i.2.2.2 ≤ ls.length) (fun i => ls.length - i.2.2.2) (s1, b1, n1, 0) ⟨by simpa using h1, Nat.zero_le _⟩
    (H.to 2 0 ⟨Nat.le_trans hN (by decide), hR⟩ ⟨rfl, rfl, rfl, by rw [hbl]; rfl, rfl, trivial⟩ rfl rfl rfl rfl rfl) ?_
  clear H
  rintro ⟨s2, b2, n2, k⟩ a w ⟨h2, hk⟩ H
  dsimp only at h2 hk H
  refine mW ?_; clear H; intro a w H
  refine mC H (fun hb => ?_) (fun hb => ?_)
  · have hlt : k < ls.length := by simpa using hb
    have hf := flat_take_le ls (k + 1)
    rw [flat_take ls k hlt, List.length_append] at hf
    refine wp_skip ?_
    refine wp_seq ?_
    refine wp_block ?_
    refine wp_seq ?_
    (try refine wp_region_lit ?_); refine mN 2 hN H ?_; clear H; intro a w H
    rw [bss_get ls k hlt] at H
    refine mW ?_; clear H; intro a w H
    obtain ⟨s3, b3, n3, h3, hw3⟩ := write_g _ ls[k] s2 b2 n2 h2 (by omega) (1 + (ls.take k).flatten.length) (by omega)
    refine mCall [1] [] (hw3) H ?_; clear H; intro a w H; try refine wpList_nil ?_
    refine mW ?_; clear H; intro a w H
    refine ⟨(s3, b3, n3, k + 1), ⟨by rw [flat_take ls k hlt]; simpa using h3, hlt⟩, by dsimp only; omega, H.to 2 0 ⟨Nat.le_trans hN (by decide), hR⟩ ⟨rfl, rfl, rfl, rfl, rfl, trivial⟩ (by rw [flat_take ls k hlt, List.length_append]; simp only [List.take_succ_cons, List.take_zero]; rw [Nat.add_assoc]) rfl rfl rfl rfl⟩
  · have hge : k = ls.length := by simp at hb; omega
    subst hge
    rw [List.take_length] at h2 H
    have hsl := sum_length (t :: ls.flatten)
    have h1l : (t :: ls.flatten).length = 1 + ls.flatten.length := by simp; omega
    have hsum := sumS_v (t :: ls.flatten) s2 b2 n2 h2 (by rw [h1l]; omega)
    rw [h1l] at hsum
    refine mW ?_; clear H; intro a w H
    refine mCall [1] [] (hsum) H ?_; clear H; intro a w H; try refine wpList_nil ?_
    refine mW ?_; clear H; intro a w H
    refine wp_ret ?_; exact mEnd [] [] [.cell 4 27] [_] hN hR H
theorem empty_v : VC Try.prog 65 [] [] (.ba (sum [0])) := by
  have hsl := sum_length [0]
  refine mE Try.func65 ?_; intro N w0 a w hN hR H
  have hX := And.intro @ren_s8v (@ren_shv)
  have hY := And.intro @s8v.eq_1 (And.intro @shv.eq_1 (And.intro @W32.eq_1 (@h0.eq_1)))
  refine mW ?_; clear H; intro a w H
  refine mCall [] [] (of_v 0 [] (by simp) (by simp)) H ?_; clear H; intro a w H; try refine wpList_nil ?_
  refine mW ?_; clear H; intro a w H
  refine wp_ret ?_; exact mEnd [] [] [.cell 0 27] [_] hN hR H
end Go.Proofs.Ythphhnkoilcofaa
/- Nodes: what is read. -/
namespace Go.Proofs.Ythphhnkoilcofaa
open Go Go.RowKit
def Nd.one (a b : List UInt8) : Nd := ⟨1, a, b, z32, z32⟩
def Nd.two (a b : List UInt8) : Nd := ⟨2, z32, z32, a, b⟩
def decOk (l : List UInt8) : Prop := l = [0] ∨ (l.length = 65 ∧ (l.getD 0 0 = 1 ∨ l.getD 0 0 = 2))
instance (l : List UInt8) : Decidable (decOk l) := inferInstanceAs (Decidable (_ ∨ _))
def dec (l : List UInt8) : Nd := if l.length = 65 ∧ l.getD 0 0 = 1 then .one ((l.drop 1).take 32) (l.drop 33) else if l.length = 65 ∧ l.getD 0 0 = 2 then .two ((l.drop 1).take 32) (l.drop 33) else .zero
theorem z32_len : z32.length = 32 := by simp [z32]
theorem zero_wf : Nd.zero.wf := ⟨z32_len, z32_len, z32_len, z32_len⟩
theorem zero_ok : Nd.zero.ok := by simp [Nd.ok, Nd.bare, Nd.zero]
end Go.Proofs.Ythphhnkoilcofaa
/- What the statements share: bytes that are lent, and kept. -/
namespace Go.Proofs.Ythphhnkoilcofaa
open Go Go.RowKit
/-- The marks in the spare room. -/
def marks (n : Nat) : Nat → List UInt8
  | 0 => []
  | k + 1 => marks n k ++ [UInt8.ofNat (200 + (n + k) % 50)]
end Go.Proofs.Ythphhnkoilcofaa
/- The document's digests and nodes. -/
namespace Go.Proofs.Ythphhnkoilcofaa
open Go Go.RowKit
end Go.Proofs.Ythphhnkoilcofaa
/- The document's look at a node. -/
namespace Go.Proofs.Ythphhnkoilcofaa
open Go Go.RowKit
end Go.Proofs.Ythphhnkoilcofaa
/- The document's nodes, written and read. -/
namespace Go.Proofs.Ythphhnkoilcofaa
open Go Go.RowKit
end Go.Proofs.Ythphhnkoilcofaa
/- Digests of the empty place, of leaves, of inner nodes. -/
namespace Go.Proofs.Ythphhnkoilcofaa
open Go Go.RowKit
def leafH (k v : List UInt8) : List UInt8 := sum (1 :: (k ++ v))
def innerH (l r : List UInt8) : List UInt8 := sum (2 :: (l ++ r))
theorem leafH_len (k v : List UInt8) : (leafH k v).length = 32 := sum_length _
theorem innerH_len (k v : List UInt8) : (innerH k v).length = 32 := sum_length _
set_option maxRecDepth 20000 in
theorem leaf_v (k v : List UInt8) (hk : k.length = 32) (hv : v.length = 32) : VC Try.prog 136 [.ba k, .ba v] [] (.ba (leafH k v)) := by
  have h := of_v 1 [k, v] (by simp; omega) (by simp)
  have e : [k, v].flatten = k ++ v := by simp
  rw [e] at h
  have hsl := sum_length (1 :: (k ++ v))
  unfold leafH
  refine mE Try.func136 ?_; intro N w0 a w hN hR H
  refine mW ?_; clear H; intro a w H
  have hX := And.intro (List.take_of_length_le (Nat.le_of_eq hk)) (List.take_of_length_le (Nat.le_of_eq hv))
  refine mS ?_; refine mD 0 [2, 3, 4] [] H ?_; clear H; intro gS H; refine mT ?_; clear H; intro a w H
  refine mCallT [] [] (h) H ?_; clear H; intro a w H
  refine mT ?_; clear H; intro a w H
  refine v_drawNil H ?_; clear H; intro H
  clear hX; have hX := And.intro @hk (@hv)
  refine wp_ret ?_; exact mEnd [] [] [.cell 4 27] [_] hN hR H
set_option maxRecDepth 20000 in
theorem inner_v (k v : List UInt8) (hk : k.length = 32) (hv : v.length = 32) : VC Try.prog 67 [.ba k, .ba v] [] (.ba (innerH k v)) := by
  have h := of_v 2 [k, v] (by simp; omega) (by simp)
  have e : [k, v].flatten = k ++ v := by simp
  rw [e] at h
  have hsl := sum_length (2 :: (k ++ v))
  unfold innerH
  refine mE Try.func67 ?_; intro N w0 a w hN hR H
  refine mW ?_; clear H; intro a w H
  have hX := And.intro (List.take_of_length_le (Nat.le_of_eq hk)) (List.take_of_length_le (Nat.le_of_eq hv))
  refine mS ?_; refine mD 0 [2, 3, 4] [] H ?_; clear H; intro gS H; refine mT ?_; clear H; intro a w H
  refine mCallT [] [] (h) H ?_; clear H; intro a w H
  refine mT ?_; clear H; intro a w H
  refine v_drawNil H ?_; clear H; intro H
  clear hX; have hX := And.intro @hk (@hv)
  refine wp_ret ?_; exact mEnd [] [] [.cell 4 27] [_] hN hR H
end Go.Proofs.Ythphhnkoilcofaa
/- Roots of entries at a depth; entries that rise part where their bit does. In plain Lean. -/
namespace Go.Proofs.Ythphhnkoilcofaa
open Go Go.RowKit
abbrev En := List UInt8 × List UInt8
def base (l : List En) : List UInt8 := match l with
  | [] => sum [0]
  | x :: _ => leafH x.1 x.2
def half (b : Bool) (d : Nat) (l : List En) : List En := l.filter fun x => bitN x.1 d == b
def rootA : Nat → Nat → List En → List UInt8
  | 0, _, l => base l
  | f + 1, d, l => if l.length < 2 then base l else innerH (rootA f (d + 1) (half false d l)) (rootA f (d + 1) (half true d l))
theorem rootA_len : ∀ f d l, (rootA f d l).length = 32
  | 0, _, [] => sum_length _
  | 0, _, _ :: _ => leafH_len _ _
  | f + 1, d, l => by
    unfold rootA
    split
    · exact rootA_len 0 d l
    · exact innerH_len _ _
theorem rootA_small (f d : Nat) (l : List En) (h : l.length < 2) : rootA f d l = base l := by
  cases f with
  | zero => rfl
  | succ f => rw [rootA, if_pos h]
/-- Unlike keys that share their first d bits. -/
def Sep (d : Nat) (l : List En) : Prop := l.Pairwise fun x y => agree d x.1 y.1 ∧ ¬ agree 256 x.1 y.1
theorem Sep.side {d : Nat} {l : List En} (h : Sep d l) (b : Bool) : Sep (d + 1) (half b d l) := by
  unfold Sep half
  have h2 : (l.filter fun x => bitN x.1 d == b).Pairwise fun x y => agree d x.1 y.1 ∧ ¬ agree 256 x.1 y.1 := h.filter _
  refine List.Pairwise.imp_of_mem (fun {x y} hx hy hp => ⟨fun t ht => ?_, hp.2⟩) h2
  by_cases h1 : t < d
  · exact hp.1 t h1
  · rw [show t = d by omega]
    have e1 : bitN x.1 d = b := by simpa using (List.mem_filter.1 hx).2
    have e2 : bitN y.1 d = b := by simpa using (List.mem_filter.1 hy).2
    rw [e1, e2]
theorem Sep.deep {d : Nat} {l : List En} (h : Sep d l) (hd : 256 ≤ d) : l.length < 2 := by
  match l, h with
  | [], _ => simp
  | [_], _ => simp
  | x :: y :: l, h =>
    exfalso
    have := (List.pairwise_cons.1 h).1 y List.mem_cons_self
    exact this.2 fun t ht => this.1 t (by omega)
/-- Keys that rise and share their first d bits. -/
def Rise (d : Nat) (l : List En) : Prop := l.Pairwise fun x y => agree d x.1 y.1 ∧ ltB x.1 y.1
theorem Rise.sep {d : Nat} {l : List En} (h : Rise d l) : Sep d l := List.Pairwise.imp (fun {x y} hp => ⟨hp.1, fun ha => by
  obtain ⟨c, hc, _, h2, h3⟩ := hp.2
  rw [ha c hc, h3] at h2; cases h2⟩) h
theorem Rise.side {d : Nat} {l : List En} (h : Rise d l) (b : Bool) : Rise (d + 1) (half b d l) := by
  have h1 := h.sep.side b
  have h2 : (half b d l).Pairwise fun x y => agree d x.1 y.1 ∧ ltB x.1 y.1 := h.filter _
  exact List.Pairwise.imp₂ (fun x y p q => ⟨q.1, p.2⟩) h2 h1
/-- How many entries have the bit 0. -/
def partN (d : Nat) (l : List En) : Nat := (l.takeWhile fun x => !bitN x.1 d).length
theorem Rise.part {d : Nat} (hd : d < 256) : ∀ {l : List En}, Rise d l → half false d l = l.take (partN d l) ∧ half true d l = l.drop (partN d l)
  | [], _ => ⟨rfl, rfl⟩
  | x :: l, h => by
    obtain ⟨h1, h2⟩ := List.pairwise_cons.1 h
    obtain ⟨e1, e2⟩ := Rise.part hd h2
    cases hb : bitN x.1 d
    · have e : partN d (x :: l) = partN d l + 1 := by simp [partN, List.takeWhile_cons, hb]
      rw [e]
      refine ⟨?_, ?_⟩
      · rw [List.take_succ_cons, ← e1]; simp [half, List.filter_cons, hb]
      · rw [List.drop_succ_cons, ← e2]; simp [half, List.filter_cons, hb]
    · have e : partN d (x :: l) = 0 := by simp [partN, List.takeWhile_cons, hb]
      have hall : ∀ y ∈ l, bitN y.1 d = true := fun y hy => by
        obtain ⟨ha, c, hc, g1, g2, g3⟩ := h1 y hy
        rcases Nat.lt_trichotomy c d with hl | rfl | hg
        · have := ha c hl; rw [g2, g3] at this; cases this
        · rw [hb] at g2; cases g2
        · rw [← g1 d hg]; exact hb
      rw [e]
      refine ⟨?_, ?_⟩
      · rw [List.take_zero]
        simp only [half, List.filter_cons, hb]
        simp only [Bool.true_beq, Bool.false_eq_true, if_false]
        refine List.filter_eq_nil_iff.2 fun y hy => ?_
        simp [hall y hy]
      · rw [List.drop_zero]
        refine List.filter_eq_self.2 fun y hy => ?_
        rcases List.mem_cons.1 hy with rfl | hy
        · simp [hb]
        · simp [hall y hy]
theorem partN_le (d : Nat) (l : List En) : partN d l ≤ l.length := by
  unfold partN
  exact (List.takeWhile_sublist _).length_le
theorem Rise.chain {d : Nat} : ∀ {l : List En}, (∀ k (h : k + 1 < l.length), agree d (l[k]'(by omega)).1 l[k + 1].1 ∧ ltB (l[k]'(by omega)).1 l[k + 1].1) → Rise d l
  | [], _ => List.Pairwise.nil
  | [_], _ => by unfold Rise; simp
  | x :: y :: l, h => by
    have ih := Rise.chain (l := y :: l) fun k hk => h (k + 1) (by simpa using hk)
    have h0 := h 0 (by simp)
    refine List.pairwise_cons.2 ⟨fun z hz => ?_, ih⟩
    rcases List.mem_cons.1 hz with rfl | hz
    · exact h0
    · have := (List.pairwise_cons.1 ih).1 z hz
      exact ⟨h0.1.trans this.1, h0.2.trans this.2⟩
theorem half_mem {b : Bool} {d : Nat} {l : List En} {x : En} (h : x ∈ half b d l) : x ∈ l := (List.mem_filter.1 h).1
end Go.Proofs.Ythphhnkoilcofaa
/- A region that draws its order, in which one loud operation (new memory) may come up before or behind another one (a call): both are walked. -/
namespace Go.Proofs.Ythphhnkoilcofaa
open Go
section
variable {P : Program} {ops : Array Oper} {Q : Exit → Act → World → Prop} {S : World → Prop} {L A : List Nat} {c f : Nat}
theorem unlisted {listed : Array Bool} {k : Nat} (h : k ∈ Region.ready .any ops listed) : listed.getD k false ≠ true := by
  obtain ⟨h1, _⟩ := mem_ready.1 h
  intro h2
  rcases Nat.lt_or_ge k listed.size with h' | h'
  · simp [h'] at h1 h2; rw [h1] at h2; cases h2
  · simp [Array.getElem?_eq_none h'] at h1
/-- Which operations are listed: those below k; f besides. -/
def Upto (n : Nat) (k : Nat) (x : Bool) (f : Nat) (listed : Array Bool) : Prop := listed.size = n ∧ ∀ i, i < n → ∀ d, listed.getD i d = (decide (i < k) || (x && i == f))
theorem Upto.set {n k f : Nat} {x : Bool} {listed : Array Bool} (h : Upto n k x f listed) (hk : k < n) : Upto n (k + 1) x f (listed.setIfInBounds k true) := by
  refine ⟨by simpa using h.1, fun i hi d => ?_⟩
  by_cases hik : k = i
  · subst hik; simp [h.1, hk]
  · rw [getD_set_ne d hik, h.2 i hi d]
    congr 1
    simp; omega
theorem Upto.down {n k f : Nat} {x : Bool} {listed : Array Bool} (hn : n = ops.size) (h : Upto n k x f listed) (he : ∀ (j : Nat) (o : Oper), ops[j]? = some o → ∀ e ∈ o.after, Region.binds .any e = true → e.on < j)
    (hfe : x = true → ∀ o, ops[f]? = some o → ∀ e ∈ o.after, Region.binds .any e = true → e.on < k) : Down ops listed := by
  intro j o hj hl e hm hb
  have hjlt := (Array.getElem?_eq_some_iff.1 hj).1
  rw [h.2 j (by omega) false] at hl
  have h1 := he j o hj e hm hb
  rw [h.2 e.on (by omega) false]
  simp only [Bool.or_eq_true, decide_eq_true_eq, Bool.and_eq_true, beq_iff_eq] at hl ⊢
  rcases hl with hl | ⟨hx, rfl⟩
  · exact .inl (by omega)
  · exact .inl (hfe hx o hj e hm hb)
theorem tAny_nil {listed : Array Bool} {a : Act} {w : World} (h : ∀ i, i < ops.size → ∀ d, listed.getD i d = true) (hQ : Q .normal a w) : tAny P ops Q S L A 0 listed a w := by
  refine ⟨?_, hQ⟩
  rw [List.eq_nil_iff_forall_not_mem]
  intro j hj
  obtain ⟨hju, o, ho, _⟩ := mem_ready.1 hj
  rw [h j (Array.getElem?_eq_some_iff.1 ho).1 true] at hju
  cases hju
end
section
variable {P : Program} {τ : Tab} {w0 w : World} {N : Gh} {g gS : Gh} {st st' sq sq' : St} {nt : Nat} {a : Act}
/-- Only boxes that are there may be frozen. -/
theorem v_fz (H : Rel P w0 N nt st a w) : Rel P w0 N nt ⟨st.t, st.bx, st.fz.filter fun i => decide (i < st.bx.length), st.rw⟩ a w := by
  obtain ⟨g, HI, hF⟩ := H
  refine ⟨g, ⟨HI.mem, HI.fr, HI.br, fun i x hx hf => ?_, HI.wr, HI.wz⟩, ⟨hF.sz, hF.df, hF.t, hF.u⟩⟩
  have h1 := HI.fz i x hx hf
  have h2 := (List.getElem?_eq_some_iff.1 hx).1
  rw [HI.br.len] at h2
  simp only [List.mem_filter, decide_eq_true_eq]
  exact ⟨h1, h2⟩
theorem RelT.toRel (H : RelT P w0 N nt gS sq st a w) : Rel P w0 N nt st a w := by
  obtain ⟨_, _, _, _, g, HI, hF, _⟩ := H
  exact ⟨g, HI, hF⟩
end
end Go.Proofs.Ythphhnkoilcofaa
/- Values seen as others: a nil slice inside a box as a row that is none yet; an empty window as no bytes. -/
namespace Go.Proofs.Ythphhnkoilcofaa
open Go Go.RowKit
section
variable {P : Program} {τ : Tab} {w0 w w' : World} {N : Gh} {g g1 g2 : Gh} {st st' : St} {nt : Nat} {a : Act}
theorem RC.sc_slice {T : Ty} {A : Option Addr} {n c : Nat} {cs : List Value} (h : RC g T (.v (.slice A n c)) cs) : T = .sc ∧ cs = [.slice A n c] := by
  cases h with
  | v h => exact ⟨rfl, rfl⟩
theorem RC.nilK {y : AV} (hy : RC g .sc y [.slice none 0 0]) : ∀ (k : Nat) {T : Ty} {fs : List AV} {cs : List Value}, RC g T (.st fs) cs → fs[k]? = some (.v (.slice none 0 0)) → RC g T (.st (fs.set k y)) cs
  | _, _, [], _, h, hk => by simp at hk
  | 0, _, x :: fs, _, h, hk => by
    simp only [List.getElem?_cons_zero, Option.some.injEq] at hk
    subst hk
    cases h with
    | cn h hs =>
      obtain ⟨rfl, rfl⟩ := h.sc_slice
      exact .cn hy hs
  | k + 1, _, x :: fs, _, h, hk => by
    cases h with
    | cn h hs => exact .cn h (RC.nilK hy k hs (by simpa using hk))
/-- The same, of other elements. -/
theorem v_nilX (hτ : τ.ok P) (H : Rel P w0 N nt st a w) (i k e : Nat) {j : TI} (T' : Ty) {T : Ty} {fs : List AV} (hj : Tab.get e τ = some j) (hs : 0 < j.ty.size) (hb : st.bx[i]? = some (T, .st fs)) (hd : fs[k]? = some (.v (.slice none 0 0))) :
    Rel P w0 N nt ⟨st.t, st.bx.set i (T, .st (fs.set k (.sl T' [] (some st.rw.length)))), st.fz, st.rw ++ [(e, 0)]⟩ a w := by
  obtain ⟨g, HI, hF⟩ := H
  have hok := Tab.get_ok hτ hj
  obtain ⟨g1, l1, I1, h1⟩ := HI.rowNil (nilRow hok hs w) rfl rfl ⟨hok.cells.symm, rfl⟩
  obtain ⟨x, hx, rfl, hr⟩ := I1.br.at_ i T _ hb
  obtain ⟨hxo, hxm, hr⟩ := hr.rc_of (fun _ _ e => by cases e) (fun _ _ e => by cases e) (fun _ _ e => by cases e)
  have hy := (RC.sl (g := g1) (T := T') (es := []) (tok := some st.rw.length) (A := none) (c := 0) (by simp) (by simp [maxLen]) (fun _ => []) (.inl rfl) (fun k hk => absurd hk (by simp)) fun i hi => by injection hi with hi; subst hi; exact ⟨_, h1, by simp, fun _ => ⟨rfl, rfl⟩⟩)
  exact ⟨g1, I1.re hx (.pl (RC.nilK hy k hr hd) hxo hxm), ⟨(hF.mono l1.1).sz, hF.df, (hF.mono l1.1).t, hF.u⟩⟩
end
end Go.Proofs.Ythphhnkoilcofaa
/- Proofs as bytes: what may be, how it is told. -/
namespace Go.Proofs.Ythphhnkoilcofaa
open Go Go.RowKit
structure Pf where
  s : List (List UInt8)
  e : Nd
  deriving DecidableEq
def bas (ls : List (List UInt8)) : List AV := ls.map .ba
theorem bas_len (ls : List (List UInt8)) : (bas ls).length = ls.length := by simp [bas]
theorem bas_get (ls : List (List UInt8)) (k : Nat) (hk : k < ls.length) : (bas ls).getD k .any = .ba ls[k] := by simp [bas, List.getD, hk]
structure Pf.wf (p : Pf) : Prop where
  s : ∀ h ∈ p.s, h.length = 32
  e : p.e.wf
def Pf.av (p : Pf) : AV := .st [.sl (.ba 32) (bas p.s) none, p.e.av]
def Pf.chk (p : Pf) : Int := if 256 < p.s.length then 4 else if p.e.ok ∧ p.e.k ≠ 2 then 0 else 2
/-- The digest of nothing. -/
def E0 : List UInt8 := sum [0]
def hidesB (s : List (List UInt8)) (t : Nat) : Bool := match s[t]? with | some h => h != E0 | none => false
def Pf.bits (p : Pf) : List UInt8 := bitsB p.s.length (hidesB p.s)
def hashes (s : List (List UInt8)) : List UInt8 := (s.filter (· != E0)).flatten
def Pf.text (p : Pf) : List UInt8 := [UInt8.ofNat (p.s.length / 256), UInt8.ofNat p.s.length] ++ (p.bits ++ (hashes p.s ++ p.e.text))
theorem hashes_len : ∀ (s : List (List UInt8)), (∀ h ∈ s, h.length = 32) → (hashes s).length ≤ 32 * s.length
  | [], _ => by simp [hashes]
  | h :: s, hs => by
    have ih := hashes_len s fun x hx => hs x (List.mem_cons_of_mem _ hx)
    have h1 := hs h List.mem_cons_self
    unfold hashes at ih ⊢
    rw [List.filter_cons]
    split
    · simp only [List.flatten_cons, List.length_append, List.length_cons]; omega
    · simp only [List.length_cons]; omega
end Go.Proofs.Ythphhnkoilcofaa
/- Roots of entries that rise: the program's. -/
namespace Go.Proofs.Ythphhnkoilcofaa
open Go Go.RowKit
def partK (d : Nat) (ks : List (List UInt8)) : Nat := (ks.takeWhile fun x => !bitN x d).length
theorem partK_of (d : Nat) : ∀ (ks : List (List UInt8)) (k : Nat), k ≤ ks.length → (∀ j (h : j < ks.length), j < k → bitN ks[j] d = false) → (∀ h : k < ks.length, bitN ks[k] d = true) → partK d ks = k
  | [], k, hk, _, _ => by simp at hk; subst hk; rfl
  | x :: ks, 0, _, _, h2 => by
    have := h2 (by simp)
    simp only [List.getElem_cons_zero] at this
    simp [partK, List.takeWhile_cons, this]
  | x :: ks, k + 1, hk, h1, h2 => by
    have h0 := h1 0 (by simp) (by omega)
    simp only [List.getElem_cons_zero] at h0
    have ih := partK_of d ks k (by simpa using hk) (fun j h hj => by have := h1 (j + 1) (by simpa using h) (by omega); rwa [List.getElem_cons_succ] at this) (fun h => by have := h2 (by simpa using h); rwa [List.getElem_cons_succ] at this)
    unfold partK at ih ⊢
    simp [List.takeWhile_cons, h0, ih]
theorem partN_K (d : Nat) (l : List En) : partK d (l.map Prod.fst) = partN d l := by
  unfold partK partN
  induction l with
  | nil => rfl
  | cons x l ih => simp only [List.map_cons, List.takeWhile_cons]; cases bitN x.1 d <;> simp [ih]
theorem pbit_zero (p : List UInt8) (d : Nat) (hd : d < 256) : decide (pbit p (d : Int) = 0) = !bitN p d := by
  rw [pbit, if_pos (by omega), Int.toNat_natCast]
  cases bitN p d <;> rfl
def Wd (l : List En) : Prop := ∀ x ∈ l, x.1.length = 32 ∧ x.2.length = 32
theorem Wd.half {l : List En} (h : Wd l) (b : Bool) (d : Nat) : Wd (half b d l) := fun x hx => h x (half_mem hx)
end Go.Proofs.Ythphhnkoilcofaa
/- Keys as ways down: the document's functions. -/
namespace Go.Proofs.Ythphhnkoilcofaa
open Go Go.RowKit
end Go.Proofs.Ythphhnkoilcofaa
/- Digests of the empty place, of leaves, of inner nodes: the document's. -/
namespace Go.Proofs.Ythphhnkoilcofaa
open Go Go.RowKit
end Go.Proofs.Ythphhnkoilcofaa
/- Proofs as bytes: how they are read. -/
namespace Go.Proofs.Ythphhnkoilcofaa
open Go Go.RowKit
/-- The sides that marks and bytes say, what is left, and whether bytes were lacking. -/
def runS : List Bool → List UInt8 → List (List UInt8) × List UInt8 × Bool
  | [], r => ([], r, false)
  | m :: ms, r => if m = true ∧ r.length < 32 then ([E0], r, true) else ((if m then r.take 32 else E0) :: (runS ms (if m then r.drop 32 else r)).1, (runS ms (if m then r.drop 32 else r)).2)
def marksOf (bits : List UInt8) (n : Nat) : List Bool := (List.range n).map fun i => bitAt (bits.getD (i / 8) 0) (i % 8)
def rdQ (l : List UInt8) : Pf × Bool :=
  if l.length < 2 then (⟨[], .zero⟩, false) else
  if 256 < num 0 (l.take 2) then (⟨[], .zero⟩, false) else
  if (l.drop 2).length < (num 0 (l.take 2) + 7) / 8 then (⟨[], .zero⟩, false) else
  let x := runS (marksOf ((l.drop 2).take ((num 0 (l.take 2) + 7) / 8)) (num 0 (l.take 2))) ((l.drop 2).drop ((num 0 (l.take 2) + 7) / 8))
  if x.2.2 then (⟨x.1, .zero⟩, false) else (⟨x.1, dec x.2.1⟩, decide (decOk x.2.1))
/-- Where the reading stands. -/
structure At (ms : List Bool) (l : List UInt8) (i : Nat × List (List UInt8) × List UInt8 × Bool) : Prop where
  k : i.1 ≤ ms.length
  len : i.2.1.length = i.1
  lr : i.2.2.1.length ≤ l.length
  ok : i.2.2.2 = false → runS ms l = (i.2.1 ++ (runS (ms.drop i.1) i.2.2.1).1, (runS (ms.drop i.1) i.2.2.1).2)
  no : i.2.2.2 = true → runS ms l = (i.2.1, i.2.2.1, true)
end Go.Proofs.Ythphhnkoilcofaa
/- Proofs as bytes: read, and told again. -/
namespace Go.Proofs.Ythphhnkoilcofaa
open Go Go.RowKit
def Pf.zero : Pf := ⟨[], .zero⟩
def pOk (l : List UInt8) : Prop := (rdQ l).2 = true ∧ (rdQ l).1.chk = 0 ∧ (rdQ l).1.text = l
instance (l : List UInt8) : Decidable (pOk l) := inferInstanceAs (Decidable (_ ∧ _))
end Go.Proofs.Ythphhnkoilcofaa
/- The digest at the top of a way: node.Up, and the document's. -/
namespace Go.Proofs.Ythphhnkoilcofaa
open Go Go.RowKit
/-- One step up. -/
def stepH (key : List UInt8) (d : Nat) (x h : List UInt8) : List UInt8 := if bitN key d then innerH x h else innerH h x
/-- From the sides from the depth d on. -/
def upL (key : List UInt8) : Nat → List (List UInt8) → List UInt8 → List UInt8
  | _, [], h => h
  | d, x :: r, h => stepH key d x (upL key (d + 1) r h)
theorem stepH_len (key : List UInt8) (d : Nat) (x h : List UInt8) : (stepH key d x h).length = 32 := by unfold stepH; split <;> exact innerH_len _ _
theorem upL_len (key : List UInt8) (h : List UInt8) (hh : h.length = 32) : ∀ d s, (upL key d s h).length = 32
  | _, [] => hh
  | _, _ :: _ => stepH_len _ _ _ _
theorem upL_drop (key : List UInt8) (s : List (List UInt8)) (h : List UInt8) (k : Nat) (hk : k < s.length) : upL key k (s.drop k) h = stepH key k (s.getD k []) (upL key (k + 1) (s.drop (k + 1)) h) := by
  rw [List.drop_eq_getElem_cons hk, List.getElem_eq_getD []]; rfl
def topH (key : List UInt8) (p : Pf) : List UInt8 := upL key 0 p.s (sum p.e.text)
theorem chk_all {p : Pf} (h : p.chk = 0) : p.s.length ≤ 256 ∧ p.e.ok ∧ p.e.k ≠ 2 := by
  unfold Pf.chk at h
  split at h
  · cases h
  · split at h
    · rename_i h1 h2; exact ⟨by omega, h2⟩
    · cases h
set_option maxRecDepth 20000 in
set_option maxHeartbeats 1000000 in
theorem up_v (key : List UInt8) (hk32 : key.length = 32) (p : Pf) (hw : p.wf) (h : p.chk = 0) : VC Try.prog 15 [.ba key, p.av] [] (.tup [.ba (topH key p), errv 0]) := by
  obtain ⟨hle, hok, hk2⟩ := chk_all h
  obtain ⟨s, n⟩ := p
  dsimp only at hle hok hk2
  have hs := hw.s
  have hsl := bas_len s
  have hdg := digest_ok n hw.e hok
  obtain ⟨h1, h2, h3, h4⟩ := id hw.e
  dsimp only at h1 h2 h3 h4 hs
  have hz2 := z32_len
  have hd2 : decide ((n.k.toNat : Int) = 2) = false := decide_eq_false fun e => hk2 (UInt8.toNat_inj.1 (by simp; omega))
  unfold topH
  obtain ⟨h0, hh0⟩ : ∃ h0, h0 = sum n.text := ⟨_, rfl⟩
  have h0l : h0.length = 32 := by rw [hh0]; exact sum_length _
  rw [← hh0] at hdg
  dsimp only
  rw [← hh0]
  clear hh0 hok hk2 h hw
  refine mE Try.func15 ?_; intro N w0 a w hN hR H
  simp only [Pf.av, Nd.av] at H hdg
  have hX := @hsl
  refine mW ?_; clear H; intro a w H
  refine mC H (fun hb => ?_) (fun hb => ?_)
  · exfalso; rw [decide_eq_true_eq] at hb; omega
  · refine mW ?_; clear H; intro a w H
    refine mCall [] [] (hdg) H ?_; clear H; intro a w H; try refine wpList_nil ?_
    refine mW ?_; clear H; intro a w H
    refine mC H (fun hb => ?_) (fun hb => ?_)
    · exfalso; simp only [hd2] at hb; simp at hb
    · clear hb
      refine mW ?_; clear H; intro a w H
      refine v_loop (fun k : Nat => ⟨[(8, none, .v (.int .i64 ((k : Int) - 1))), (6, none, .ptr 3 []), (5, none, .v (.int .i64 0)), (4, none, .ptr 2 []), (3, none, .ptr 1 []), (2, none, .ptr 0 [])],
        [(.ba 32, .ba key), (ti41.ty, .st [.sl (.ba 32) (bas s) none, .st [.v (B8 n.k), .ba n.key, .ba n.v, .ba n.l, .ba n.r]]), (.ba 32, .ba z32), (.ba 32, .ba (upL key k (s.drop k) h0))], [], []⟩)
        (fun k => k ≤ s.length) (fun k => k) s.length (Nat.le_refl _) (H.to 4 0 ⟨Nat.le_trans hN (by decide), hR⟩ ⟨rfl, rfl, rfl, rfl, rfl, rfl, trivial⟩ (by rw [List.drop_length]; rfl) rfl rfl rfl rfl) ?_
      clear H
      intro k a w hk H
      have hul := upL_len key h0 h0l k (s.drop k)
      refine mW ?_; clear H; intro a w H
      refine mC H (fun hb => ?_) (fun hb => ?_)
      · obtain ⟨j, rfl⟩ : ∃ j, k = j + 1 := ⟨k - 1, by rw [decide_eq_true_eq] at hb; omega⟩
        clear hb
        have hj : j < s.length := hk
        have e1 : (((j + 1 : Nat) : Int) - 1) = (j : Int) := by omega
        rw [e1] at H
        have hbit := bit_v key hk32 (j : Int)
        have hj256 : j < 256 := by omega
        have hpb : decide (pbit key (j : Int) = 0) = !bitN key j := by
          rw [pbit, if_pos (by omega), Int.toNat_natCast]; cases bitN key j <;> rfl
        have hup := upL_drop key s h0 j hj
        have hg := bas_get s j hj
        rw [List.getElem_eq_getD []] at hg
        have hx : (s.getD j []).length = 32 := by rw [← List.getElem_eq_getD (h := hj) []]; exact hs _ (List.getElem_mem _)
        generalize s.getD j [] = x at *
        generalize upL key (j + 1) (s.drop (j + 1)) h0 = u at *
        have hin1 := inner_v u x hul hx
        have hin2 := inner_v x u hx hul
        have hil1 := innerH_len u x
        have hil2 := innerH_len x u
        refine mW ?_; clear H; intro a w H
        refine mCall [] [] (hbit) H ?_; clear H; intro a w H; try refine wpList_nil ?_
        refine mW ?_; clear H; intro a w H
        simp only [hpb] at H
        refine mC H (fun hb => ?_) (fun hb => ?_)
        · have hbf : bitN key j = false := by cases h : bitN key j; rfl; rw [h] at hb; simp at hb
          have hst : stepH key j x u = innerH u x := by unfold stepH; rw [hbf]; rfl
          rw [hst] at hup
          clear hb
          refine mW ?_; clear H; intro a w H
          clear hX; have hX := And.intro @hsl (@hg)
          have hY := And.intro @hsl (@hx)
          refine mS ?_; refine mD 0 [6, 7] [] H ?_; clear H; intro gS H
          refine mTN 3 hN H ?_; clear H; intro a w H; simp only [List.drop_succ_cons, List.drop_zero, List.drop_nil]
          refine mTN 2 hN H ?_; clear H; intro a w H; simp only [List.drop_succ_cons, List.drop_zero, List.drop_nil]
          refine mTN 1 hN H ?_; clear H; intro a w H; simp only [List.drop_succ_cons, List.drop_zero, List.drop_nil]
          refine mCallT [] [] (hin1) H ?_; clear H; intro a w H
          refine mT ?_; clear H; intro a w H
          refine v_drawNil H ?_; clear H; intro H
          clear hX; have hX := @hsl
          clear hY
          refine mW ?_; clear H; intro a w H
          exact ⟨j, by omega, by omega, H.to 4 0 ⟨Nat.le_trans hN (by decide), hR⟩ ⟨rfl, rfl, rfl, rfl, rfl, rfl, trivial⟩ (by dsimp only; rw [hup]; rfl) rfl rfl rfl rfl⟩
        · have hbt : bitN key j = true := by cases h : bitN key j; (rw [h] at hb; simp at hb); rfl
          have hst : stepH key j x u = innerH x u := by unfold stepH; rw [hbt]; rfl
          rw [hst] at hup
          clear hb
          refine mW ?_; clear H; intro a w H
          clear hX; have hX := And.intro @hsl (@hg)
          have hY := And.intro @hsl (@hx)
          refine mS ?_; refine mD 0 [6, 7] [] H ?_; clear H; intro gS H
          refine mTN 2 hN H ?_; clear H; intro a w H; simp only [List.drop_succ_cons, List.drop_zero, List.drop_nil]
          refine mTN 2 hN H ?_; clear H; intro a w H; simp only [List.drop_succ_cons, List.drop_zero, List.drop_nil]
          refine mTN 2 hN H ?_; clear H; intro a w H; simp only [List.drop_succ_cons, List.drop_zero, List.drop_nil]
          refine mCallT [] [] (hin2) H ?_; clear H; intro a w H
          refine mT ?_; clear H; intro a w H
          refine v_drawNil H ?_; clear H; intro H
          clear hX; have hX := @hsl
          clear hY
          refine mW ?_; clear H; intro a w H
          exact ⟨j, by omega, by omega, H.to 4 0 ⟨Nat.le_trans hN (by decide), hR⟩ ⟨rfl, rfl, rfl, rfl, rfl, rfl, trivial⟩ (by dsimp only; rw [hup]; rfl) rfl rfl rfl rfl⟩
      · have hge : k = 0 := by rw [decide_eq_false_iff_not] at hb; omega
        subst hge
        rw [List.drop_zero] at H hul
        refine mW ?_; clear H; intro a w H
        refine wp_ret ?_; exact mEnd [] [] [.cell 4 27, .tmp 5] [_, _] hN hR H
end Go.Proofs.Ythphhnkoilcofaa
/- Proofs as bytes: the document's. -/
namespace Go.Proofs.Ythphhnkoilcofaa
open Go Go.RowKit
end Go.Proofs.Ythphhnkoilcofaa
/- A region at a function's end in which the named results are loaded and stored again: nothing changes. -/
namespace Go.Proofs.Ythphhnkoilcofaa
open Go Go.RowKit
section
variable {P : Program} {τ : Tab} {w0 w : World} {N : Gh} {st : St} {nt : Nat} {a : Act}
end
end Go.Proofs.Ythphhnkoilcofaa
/- What bytes say to whoever knows the root: verify, and the document's. -/
namespace Go.Proofs.Ythphhnkoilcofaa
open Go Go.RowKit
theorem k1_iff (k : UInt8) : ((k.toNat : Int) = 1) ↔ k = 1 := ⟨fun h => UInt8.toNat_inj.1 (by simp; omega), fun h => by rw [h]; rfl⟩
def valH (v : List UInt8) : List UInt8 := sum (3 :: v)
theorem valH_len (v : List UInt8) : (valH v).length = 32 := sum_length _
theorem value_v (v : List UInt8) (hv : v.length ≤ 34359730000) : VC Try.prog 23 [.bs v none] [] (.ba (valH v)) := by
  have h := of_v 3 [v] (by simp; omega) (by simp)
  have e : [v].flatten = v := by simp
  rw [e] at h
  have hsl := sum_length (3 :: v)
  unfold valH
  refine mE Try.func23 ?_; intro N w0 a w hN hR H
  refine mW ?_; clear H; intro a w H
  refine mCall [] [] (h) H ?_; clear H; intro a w H; try refine wpList_nil ?_
  refine mW ?_; clear H; intro a w H
  refine wp_ret ?_; exact mEnd [] [] [.cell 2 27] [_] hN hR H
end Go.Proofs.Ythphhnkoilcofaa
