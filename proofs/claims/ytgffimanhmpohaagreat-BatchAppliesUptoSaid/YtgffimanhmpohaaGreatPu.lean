/- Keys as ways down: bits, how many are shared, what rises. In plain Lean. -/
import Derived.Test.YtgffimanhmpohaaGreatBits
import Derived.Lib.BitFns
import Derived.Lib.Bytealg
import Derived.Laws.Externs
import Derived.BigQuiet
import Derived.BigRegion
import Derived.Test.YtgffimanhmpohaaGreatZa
import Derived.Test.YtgffimanhmpohaaGreatA1
import Derived.Deep.OwnRows
import Derived.Deep.Draws
import Derived.Deep.LoopGhost
set_option linter.unusedSimpArgs false
set_option linter.unusedVariables false
namespace Go.Proofs.YtgffimanhmpohaaGreat
open Go Go.RowKit
def bitN (p : List UInt8) (d : Nat) : Bool := bitAt (p.getD (d / 8) 0) (d % 8)
def pbit (p : List UInt8) (d : Int) : Int := if 0 ≤ d ∧ d < 256 then (if bitN p d.toNat then 1 else 0) else -1
def comF (p q : List UInt8) : Nat → Nat → Nat
  | 0, d => d
  | f + 1, d => if bitN p d = bitN q d then comF p q f (d + 1) else d
def com (p q : List UInt8) : Nat := comF p q 256 0
def agree (d : Nat) (p q : List UInt8) : Prop := ∀ t, t < d → bitN p t = bitN q t
theorem comF_spec (p q : List UInt8) : ∀ f d, d ≤ comF p q f d ∧ comF p q f d ≤ d + f ∧ (∀ t, d ≤ t → t < comF p q f d → bitN p t = bitN q t) ∧ (comF p q f d < d + f → bitN p (comF p q f d) ≠ bitN q (comF p q f d))
  | 0, d => ⟨Nat.le_refl _, Nat.le_refl _, fun t h1 h2 => by simp only [comF] at h2; omega, fun h => by simp only [comF] at h; omega⟩
  | f + 1, d => by
    have ih := comF_spec p q f (d + 1)
    simp only [comF]
    split
    · rename_i he
      obtain ⟨h1, h2, h3, h4⟩ := ih
      refine ⟨by omega, by omega, fun t ht hl => ?_, fun h => h4 (by omega)⟩
      by_cases htd : t = d
      · subst htd; exact he
      exact h3 t (by omega) hl
    rename_i he
    exact ⟨Nat.le_refl _, by omega, fun t h1 h2 => by omega, fun _ => he⟩
theorem com_le (p q : List UInt8) : com p q ≤ 256 := by have := (comF_spec p q 256 0).2.1; simpa [com] using this
theorem com_agree (p q : List UInt8) : agree (com p q) p q := fun t ht => (comF_spec p q 256 0).2.2.1 t (Nat.zero_le _) ht
theorem com_ne (p q : List UInt8) (h : com p q < 256) : bitN p (com p q) ≠ bitN q (com p q) := (comF_spec p q 256 0).2.2.2 (by simpa [com] using h)
theorem com_of {p q : List UInt8} {c : Nat} (hc : c ≤ 256) (h : agree c p q) (hn : c < 256 → bitN p c ≠ bitN q c) : com p q = c := by
  have h1 := com_le p q; have h2 := com_agree p q; have h3 := com_ne p q
  rcases Nat.lt_trichotomy (com p q) c with hl | he | hg
  · exact absurd (h _ hl) (h3 (by omega))
  · exact he
  exact absurd (h2 _ hg) (hn (by omega))
theorem com_ge {p q : List UInt8} {d : Nat} (hd : d ≤ 256) : d ≤ com p q ↔ agree d p q := by
  constructor
  · intro h t ht; exact com_agree p q t (by omega)
  intro h
  rcases Nat.lt_or_ge (com p q) d with hl | hg
  · exact absurd (h _ hl) (com_ne p q (by omega))
  exact hg
theorem com_self (p : List UInt8) : com p p = 256 := com_of (Nat.le_refl _) (fun _ _ => rfl) (fun h => absurd h (by decide))
theorem agree.symm {d : Nat} {p q : List UInt8} (h : agree d p q) : agree d q p := fun t ht => (h t ht).symm
theorem agree.trans {d : Nat} {p q r : List UInt8} (h : agree d p q) (k : agree d q r) : agree d p r := fun t ht => (h t ht).trans (k t ht)
set_option maxRecDepth 100000 in
theorem bitAt_test8 : ∀ n : Fin 256, ∀ m : Fin 8, bitAt (UInt8.ofNat n.val) m.val = n.val.testBit (7 - m.val) := by decide +kernel
theorem bitAt_test (c : UInt8) (m : Nat) (hm : m < 8) : bitAt c m = c.toNat.testBit (7 - m) := by
  have := bitAt_test8 ⟨c.toNat, c.toNat_lt⟩ ⟨m, hm⟩
  simpa using this
set_option maxRecDepth 100000 in
theorem lead8 : ∀ n : Fin 256, n.val ≠ 0 → Lib.bitLen n.val ≤ 8 ∧ 8 - Lib.bitLen n.val < 8 ∧ (∀ t : Fin 8, t.val < 8 - Lib.bitLen n.val → bitAt (UInt8.ofNat n.val) t.val = false) ∧ bitAt (UInt8.ofNat n.val) (8 - Lib.bitLen n.val) = true := by decide +kernel
theorem lead_xor (x y : UInt8) (h : x ≠ y) : 8 - Lib.bitLen (x ^^^ y).toNat < 8 ∧ Lib.bitLen (x ^^^ y).toNat ≤ 8 ∧ (∀ t, t < 8 - Lib.bitLen (x ^^^ y).toNat → bitAt x t = bitAt y t) ∧ bitAt x (8 - Lib.bitLen (x ^^^ y).toNat) ≠ bitAt y (8 - Lib.bitLen (x ^^^ y).toNat) := by
  have hx : ∀ m, m < 8 → bitAt (x ^^^ y) m = (bitAt x m ^^ bitAt y m) := fun m hm => by
    rw [bitAt_test _ _ hm, bitAt_test _ _ hm, bitAt_test _ _ hm, UInt8.toNat_xor, Nat.testBit_xor]
  have hne : (x ^^^ y).toNat ≠ 0 := fun e => h (by
    have : x ^^^ y = 0 := UInt8.toNat_inj.1 (by simpa using e)
    exact UInt8.xor_eq_zero_iff.1 this)
  obtain ⟨h1, h2, h3, h4⟩ := lead8 ⟨(x ^^^ y).toNat, (x ^^^ y).toNat_lt⟩ hne
  simp only [UInt8.ofNat_toNat] at h3 h4 h1 h2
  refine ⟨h2, h1, fun t ht => ?_, fun e => ?_⟩
  · have := h3 ⟨t, by omega⟩ ht
    rw [hx t (by omega)] at this
    simpa using this
  rw [hx _ h2, e] at h4
  simp at h4
theorem lt_bit (x y : UInt8) (h : x ≠ y) : x < y ↔ bitAt x (8 - Lib.bitLen (x ^^^ y).toNat) = false := by
  obtain ⟨h1, h2, h3, h4⟩ := lead_xor x y h
  have key : ∀ a b : UInt8, (∀ t, t < 8 - Lib.bitLen (x ^^^ y).toNat → bitAt a t = bitAt b t) → bitAt a (8 - Lib.bitLen (x ^^^ y).toNat) = false → bitAt b (8 - Lib.bitLen (x ^^^ y).toNat) = true → a < b := fun a b k1 k2 k3 => by
    rw [UInt8.lt_iff_toNat_lt]
    generalize hc : 8 - Lib.bitLen (x ^^^ y).toNat = c at *
    rw [bitAt_test _ _ h1] at k2 k3
    have e1 : a.toNat / 2 ^ (7 - c + 1) = b.toNat / 2 ^ (7 - c + 1) := by
      apply Nat.eq_of_testBit_eq
      intro i
      rw [Nat.testBit_div_two_pow, Nat.testBit_div_two_pow]
      by_cases hi : i + (7 - c + 1) < 8
      · have := k1 (7 - (i + (7 - c + 1))) (by omega)
        rw [bitAt_test _ _ (by omega), bitAt_test _ _ (by omega), show 7 - (7 - (i + (7 - c + 1))) = i + (7 - c + 1) by omega] at this
        first | exact this | (rw [Nat.add_comm]; exact this)
      have h2 : ∀ u : UInt8, ∀ j, 8 ≤ j → u.toNat.testBit j = false := fun u j hj => Nat.testBit_lt_two_pow (Nat.lt_of_lt_of_le u.toNat_lt (Nat.pow_le_pow_right (by decide) hj))
      rw [h2 _ _ (by omega), h2 _ _ (by omega)]
    have e2 : ∀ n : Nat, n / 2 ^ (7 - c) = 2 * (n / 2 ^ (7 - c + 1)) + n / 2 ^ (7 - c) % 2 := fun n => by
      have : n / 2 ^ (7 - c + 1) = n / 2 ^ (7 - c) / 2 := by rw [Nat.pow_succ, Nat.div_div_eq_div_mul]
      omega
    rw [Nat.testBit_eq_decide_div_mod_eq] at k2 k3
    have k2' : a.toNat / 2 ^ (7 - c) % 2 ≠ 1 := by simpa using k2
    have k3' : b.toNat / 2 ^ (7 - c) % 2 = 1 := by simpa using k3
    have e3 := e2 a.toNat; have e4 := e2 b.toNat
    rw [e1] at e3
    refine Classical.byContradiction fun hn => ?_
    have := Nat.div_le_div_right (c := 2 ^ (7 - c)) (Nat.le_of_not_lt hn)
    omega
  constructor
  · intro hl
    cases hb : bitAt x (8 - Lib.bitLen (x ^^^ y).toNat)
    · rfl
    exfalso
    rw [hb] at h4
    have := key y x (fun t ht => (h3 t ht).symm) (by simpa using h4.symm) hb
    rw [UInt8.lt_iff_toNat_lt] at this hl
    omega
  intro hb
  rw [hb] at h4
  exact key x y h3 hb (by simpa using h4.symm)
def ltB (p q : List UInt8) : Prop := ∃ c, c < 256 ∧ agree c p q ∧ bitN p c = false ∧ bitN q c = true
theorem ltB.trans {p q r : List UInt8} (h : ltB p q) (k : ltB q r) : ltB p r := by
  obtain ⟨c, hc, h1, h2, h3⟩ := h
  obtain ⟨d, hd, k1, k2, k3⟩ := k
  rcases Nat.lt_trichotomy c d with hl | rfl | hg
  · exact ⟨c, hc, fun t ht => (h1 t ht).trans (k1 t (by omega)), h2, (k1 c hl) ▸ h3⟩
  · rw [h3] at k2; cases k2
  exact ⟨d, hd, fun t ht => (h1 t (by omega)).trans (k1 t ht), (h1 d hg).trans k2, k3⟩
theorem ltB.irr {p : List UInt8} (h : ltB p p) : False := by obtain ⟨c, _, _, h2, h3⟩ := h; rw [h2] at h3; cases h3
theorem bitN_cons_lt (x : UInt8) (p : List UInt8) (t : Nat) (h : t < 8) : bitN (x :: p) t = bitAt x t := by
  unfold bitN; rw [Nat.div_eq_of_lt h, Nat.mod_eq_of_lt h]; rfl
theorem bitN_cons_ge (x : UInt8) (p : List UInt8) (t : Nat) : bitN (x :: p) (t + 8) = bitN p t := by
  unfold bitN; rw [Nat.add_div_right _ (by decide), Nat.add_mod_right]; rfl
theorem cmp_lt : ∀ p q : List UInt8, p.length = q.length → (Lib.compareBytes p q < 0 ↔ ∃ c, c < 8 * p.length ∧ agree c p q ∧ bitN p c = false ∧ bitN q c = true)
  | [], [], _ => by simp [Lib.compareBytes]
  | [], _ :: _, h => by cases h
  | _ :: _, [], h => by cases h
  | x :: p, y :: q, h => by
    have hl : p.length = q.length := by simpa using h
    have ih := cmp_lt p q hl
    by_cases he : x = y
    · subst he
      have e : Lib.compareBytes (x :: p) (x :: q) = Lib.compareBytes p q := by
        simp [Lib.compareBytes]
      rw [e, ih]
      constructor
      · rintro ⟨c, hc, h1, h2, h3⟩
        refine ⟨c + 8, by rw [List.length_cons]; omega, fun t ht => ?_, by rw [bitN_cons_ge]; exact h2, by rw [bitN_cons_ge]; exact h3⟩
        by_cases ht8 : t < 8
        · rw [bitN_cons_lt _ _ _ ht8, bitN_cons_lt _ _ _ ht8]
        obtain ⟨t', rfl⟩ : ∃ t', t = t' + 8 := ⟨t - 8, by omega⟩
        rw [bitN_cons_ge, bitN_cons_ge]; exact h1 t' (by omega)
      rintro ⟨c, hc, h1, h2, h3⟩
      by_cases hc8 : c < 8
      · rw [bitN_cons_lt _ _ _ hc8] at h2 h3; rw [h2] at h3; cases h3
      obtain ⟨c', rfl⟩ : ∃ t', c = t' + 8 := ⟨c - 8, by omega⟩
      rw [bitN_cons_ge] at h2 h3
      refine ⟨c', by rw [List.length_cons] at hc; omega, fun t ht => ?_, h2, h3⟩
      have := h1 (t + 8) (by omega)
      rwa [bitN_cons_ge, bitN_cons_ge] at this
    obtain ⟨l1, l2, l3, l4⟩ := lead_xor x y he
    have lb := lt_bit x y he
    have e : Lib.compareBytes (x :: p) (y :: q) < 0 ↔ x < y := by
      simp only [Lib.compareBytes]
      split
      · rename_i hxy; simp [hxy]
      rename_i hxy
      constructor
      · intro h; exfalso; revert h
        split
        · simp
        rename_i hyx
        exfalso; apply he; apply UInt8.toNat_inj.1
        rw [UInt8.lt_iff_toNat_lt] at hxy hyx; omega
      intro h; exact absurd h hxy
    rw [e, lb]
    constructor
    · intro hb
      rw [hb] at l4
      refine ⟨8 - Lib.bitLen (x ^^^ y).toNat, by rw [List.length_cons]; omega, fun t ht => ?_, by rw [bitN_cons_lt _ _ _ l1]; exact hb, by rw [bitN_cons_lt _ _ _ l1]; simpa using l4.symm⟩
      rw [bitN_cons_lt _ _ _ (by omega), bitN_cons_lt _ _ _ (by omega)]; exact l3 t ht
    rintro ⟨c, hc, h1, h2, h3⟩
    have hce : c = 8 - Lib.bitLen (x ^^^ y).toNat := by
      rcases Nat.lt_trichotomy c (8 - Lib.bitLen (x ^^^ y).toNat) with hl | he | hg
      · rw [bitN_cons_lt _ _ _ (by omega)] at h2 h3
        rw [l3 c hl, h3] at h2; cases h2
      · exact he
      have := h1 _ hg
      rw [bitN_cons_lt _ _ _ l1, bitN_cons_lt _ _ _ l1] at this
      exact absurd this l4
    subst hce
    rwa [bitN_cons_lt _ _ _ l1] at h2
theorem cmp_ltB {p q : List UInt8} (hp : p.length = 32) (hq : q.length = 32) : Lib.compareBytes p q < 0 ↔ ltB p q := by
  rw [cmp_lt p q (by omega), hp]; rfl
theorem agree_all : ∀ p q : List UInt8, p.length = q.length → agree (8 * p.length) p q → p = q
  | [], [], _, _ => rfl
  | [], _ :: _, h, _ => by cases h
  | _ :: _, [], h, _ => by cases h
  | x :: p, y :: q, h, ha => by
    have hl : p.length = q.length := by simpa using h
    have e := agree_all p q hl fun t ht => by
      have := ha (t + 8) (by rw [List.length_cons]; omega)
      rwa [bitN_cons_ge, bitN_cons_ge] at this
    by_cases hx : x = y
    · rw [e, hx]
    exfalso
    obtain ⟨l1, l2, l3, l4⟩ := lead_xor x y hx
    have := ha (8 - Lib.bitLen (x ^^^ y).toNat) (by rw [List.length_cons]; omega)
    rw [bitN_cons_lt _ _ _ l1, bitN_cons_lt _ _ _ l1] at this
    exact l4 this
theorem agree_eq {p q : List UInt8} (hp : p.length = 32) (hq : q.length = 32) (h : agree 256 p q) : p = q := agree_all p q (by omega) (by rw [hp]; exact h)
set_option maxHeartbeats 1000000 in
set_option maxRecDepth 100000 in
theorem cmp_any (a b : ByteArray) (w : World) : Calls Tryz.prog 158 #[.string a, .string b] w fun e w' => e = .returned (.int .i64 (Lib.compareBytes a.data.toList b.data.toList)) ∧ w' = w := by
  go_enter Tryz.func158, Tryz.ntmps158
  go_wp2
  rw [run_callFunc_extern Tryz.func168 (by kernel_rfl) (by kernel_rfl) (by kernel_rfl) (e := Extern.BytealgCompare.compare) (by kernel_rfl), Lib.run_compareString]
  simp only [Result.andThen]
  rw [Oper.upon_value]
  go_wp2
  go_ret
  exact ⟨rfl, rfl⟩
def num : Nat → List UInt8 → Nat
  | x, [] => x
  | x, b :: l => num (256 * x + b.toNat) l
theorem e7w (d : Int) (h0 : 0 ≤ d) : (if (d % 8).toNat ≤ 8 then (d % 8).toNat else 8) = d.toNat % 8 := by split <;> omega
theorem e8w (d : Int) (h0 : 0 ≤ d) : (d / 8).toNat = d.toNat / 8 := by omega
theorem mask_v (d : Int) (h0 : 0 ≤ d) (h1 : d < 256) : VC Tryz.prog 70 [.v (.int .i64 d)] [] (.v (.int .u8 (128 / 2 ^ (d.toNat % 8)))) := by
  have e7 := e7w d h0
  refine mE Tryz.func70 ?_; intro N w0 a w hN hR H
  have hX := @e7
  have hY := @e7
  refine mW ?_; clear H; intro a w H
  refine wp_ret ?_; exact mEnd [] [] [.tmp 2] [_] hN hR H
set_option maxRecDepth 20000 in
theorem bit_v (p : List UInt8) (hp : p.length = 32) (d : Int) : VC Tryz.prog 35 [.ba p, .v (.int .i64 d)] [] (.v (.int .i64 (pbit p d))) := by
  refine mE Tryz.func35 ?_; intro N w0 a w hN hR H
  refine mW ?_; clear H; intro a w H
  by_cases h : 0 ≤ d ∧ d < 256
  · have hm := mask_v d h.1 h.2
    have e8 := e8w d h.1
    rw [pbit, if_pos h]
    have h1 := h.1; have h2 := h.2
    refine mC H (fun hb => ?_) (fun hb => ?_)
    · exfalso; simp at hb; omega
    refine mS ?_; refine mD 1 [5] [0, 1, 2, 3] H ?_; clear H; intro gS H; refine mT ?_; clear H; intro a w H
    refine mCallT [] [] (hm) H ?_; clear H; intro a w H
    have hX := @e8
    have hY := @e8
    refine mT ?_; clear H; intro a w H
    refine v_drawNil H ?_; clear H; intro H
    rw [and_bit] at H
    have eb : bitAt (p.getD (d.toNat / 8) 0) (d.toNat % 8) = bitN p d.toNat := rfl
    rw [eb] at H
    refine mC H (fun hb => ?_) (fun hb => ?_)
    · rw [hb]
      refine mW ?_; clear H; intro a w H
      refine wp_ret ?_; exact mEnd [] [] [.tmp 4] [_] hN hR H
    rw [hb]
    refine mW ?_; clear H; intro a w H
    refine wp_ret ?_; exact mEnd [] [] [.tmp 4] [_] hN hR H
  rw [pbit, if_neg h]
  refine mC H (fun hb => ?_) (fun hb => ?_)
  · refine mW ?_; clear H; intro a w H
    refine wp_ret ?_; exact mEnd [] [] [.tmp 4] [_] hN hR H
  exfalso; simp at hb; omega
theorem lz8_v (c : UInt8) : VC Tryz.prog 115 [.v (B8 c)] [] (.v (.int .i64 ((8 : Int) - (Lib.bitLen c.toNat : Int)))) := by
  have h1 := len8_v c
  have h2 := Lib.bitLen_le8 ⟨c.toNat, c.toNat_lt⟩
  simp only at h2
  refine mE Tryz.func115 ?_; intro N w0 a w hN hR H
  refine mW ?_; clear H; intro a w H
  refine mCall [] [] (h1) H ?_; clear H; intro a w H; try refine wpList_nil ?_
  refine mW ?_; clear H; intro a w H
  refine wp_ret ?_; exact mEnd [] [] [.tmp 2] [_] hN hR H
theorem xor8 (x y : UInt8) : bits .xor .u8 (x.toNat : Int) (y.toNat : Int) = (((x ^^^ y).toNat : Nat) : Int) := by
  rw [u8_xor_nat _ _ x.toNat_lt y.toNat_lt, UInt8.toNat_xor]
theorem bitN_at (p : List UInt8) (k t : Nat) (ht : t < 8) : bitN p (8 * k + t) = bitAt (p.getD k 0) t := by
  unfold bitN
  rw [show (8 * k + t) / 8 = k by omega, show (8 * k + t) % 8 = t by omega]
theorem com_byte (p q : List UInt8) (k : Nat) (h : agree (8 * k) p q) (he : p.getD k 0 = q.getD k 0) : agree (8 * (k + 1)) p q := fun t ht => by
  by_cases h1 : t < 8 * k
  · exact h t h1
  rw [show t = 8 * k + (t - 8 * k) by omega, bitN_at _ _ _ (by omega), bitN_at _ _ _ (by omega), he]
theorem com_part (p q : List UInt8) (k : Nat) (hk : k < 32) (h : agree (8 * k) p q) (hn : p.getD k 0 ≠ q.getD k 0) : com p q = 8 * k + (8 - Lib.bitLen (p.getD k 0 ^^^ q.getD k 0).toNat) := by
  obtain ⟨l1, l2, l3, l4⟩ := lead_xor _ _ hn
  refine com_of (by omega) (fun t ht => ?_) fun _ => ?_
  · by_cases h1 : t < 8 * k
    · exact h t h1
    rw [show t = 8 * k + (t - 8 * k) by omega, bitN_at _ _ _ (by omega), bitN_at _ _ _ (by omega)]
    exact l3 _ (by omega)
  rw [bitN_at _ _ _ l1, bitN_at _ _ _ l1]; exact l4
set_option maxRecDepth 20000 in
theorem common_v (p q : List UInt8) (hp : p.length = 32) (hq : q.length = 32) : VC Tryz.prog 84 [.ba p, .ba q] [] (.v (.int .i64 (com p q))) := by
  refine mE Tryz.func84 ?_; intro N w0 a w hN hR H
  refine mW ?_; clear H; intro a w H
  refine mC H (fun hb => ?_) (fun hb => ?_)
  · have he : p = q := by simpa using hb
    subst he
    rw [com_self]
    refine mW ?_; clear H; intro a w H
    refine wp_ret ?_; exact mEnd [] [] [.tmp 4] [_] hN hR H
  have hne : p ≠ q := by simpa using hb
  refine mW ?_; clear H; intro a w H
  refine v_loop (fun k : Nat => ⟨[(10, none, .v (.int .i64 (k : Int))), (4, none, .v (.int .i64 0)), (3, none, .ptr 1 []), (2, none, .ptr 0 [])], [(.ba 32, .ba p), (.ba 32, .ba q)], [], []⟩) (fun k => k ≤ 32 ∧ agree (8 * k) p q) (fun k => 32 - k) 0 ⟨Nat.zero_le _, fun t ht => by omega⟩ (H.to 2 0 ⟨Nat.le_trans hN (by decide), hR⟩ ⟨rfl, rfl, rfl, rfl, trivial⟩ rfl rfl rfl rfl rfl) ?_
  clear H
  rintro k a w ⟨hk, hag⟩ H
  refine mW ?_; clear H; intro a w H
  refine mC H (fun hb => ?_) (fun hb => ?_)
  · have hlt : k < 32 := by simp at hb; omega
    refine mW ?_; clear H; intro a w H
    refine mS ?_; refine mD 2 [] [] H ?_; clear H; intro gS H; refine mT ?_; clear H; intro a w H
    refine v_drawNil H ?_; clear H; intro H
    rw [xor8] at H
    have hlz := lz8_v (p.getD k 0 ^^^ q.getD k 0)
    have hc8 := (p.getD k 0 ^^^ q.getD k 0).toNat_lt
    refine mW ?_; clear H; intro a w H
    refine mC H (fun hb => ?_) (fun hb => ?_)
    · have hd : p.getD k 0 ≠ q.getD k 0 := fun e => by rw [e] at hb; simp at hb
      rw [com_part p q k hlt hag hd]
      have hl2 := (lead_xor _ _ hd).2.1
      refine mW ?_; clear H; intro a w H
      refine mCall [] [] (hlz) H ?_; clear H; intro a w H; try refine wpList_nil ?_
      refine mW ?_; clear H; intro a w H
      have e1 : (8 * (k : Int) + (8 - (Lib.bitLen (p.getD k 0 ^^^ q.getD k 0).toNat : Int))) = ((8 * k + (8 - Lib.bitLen (p.getD k 0 ^^^ q.getD k 0).toNat) : Nat) : Int) := by omega
      rw [e1] at H
      refine wp_ret ?_; exact mEnd [] [] [.tmp 4] [_] hN hR H
    have hd : p.getD k 0 = q.getD k 0 := by
      refine UInt8.xor_eq_zero_iff.1 (UInt8.toNat_inj.1 ?_)
      simpa using hb
    refine mW ?_; clear H; intro a w H
    exact ⟨k + 1, ⟨hlt, com_byte p q k hag hd⟩, by omega, H.to 2 0 ⟨Nat.le_trans hN (by decide), hR⟩ ⟨rfl, rfl, rfl, rfl, trivial⟩ rfl rfl rfl rfl rfl⟩
  have hge : k = 32 := by simp at hb; omega
  subst hge
  exact absurd (agree_eq hp hq hag) hne
def fillL (p : List UInt8) (d : Nat) (b : Bool) : List UInt8 := bitsB 256 fun t => if t < d then bitN p t else b
theorem fillL_len (p : List UInt8) (d : Nat) (b : Bool) : (fillL p d b).length = 32 := bitsB_len _ _
theorem fillL_bit (p : List UInt8) (d : Nat) (b : Bool) (t : Nat) (ht : t < 256) : bitN (fillL p d b) t = if t < d then bitN p t else b := by
  unfold bitN fillL
  exact bitsB_bit 256 _ t ht
set_option maxRecDepth 100000 in
theorem b8_eta_ : ∀ x : Fin 256, b8 (bitAt (UInt8.ofNat x.val)) = UInt8.ofNat x.val := by decide +kernel
theorem b8_eta (x : UInt8) : b8 (bitAt x) = x := by
  have := b8_eta_ ⟨x.toNat, x.toNat_lt⟩
  simpa using this
theorem b8_const (b : Bool) : b8 (fun _ => b) = if b then 255 else 0 := by cases b <;> decide
set_option maxRecDepth 100000 in
theorem mixF_ : ∀ (k : Fin 8) (b : Bool) (x : Fin 256), UInt8.ofNat (bits .or .u8 (bits .andNot .u8 (x.val : Int) ((255 : Int) / 2 ^ k.val)) (bits .and .u8 (if b then 255 else 0) ((255 : Int) / 2 ^ k.val))).toNat = b8 fun j => if j < k.val then bitAt (UInt8.ofNat x.val) j else b := by decide +kernel
theorem mixF (k : Nat) (hk : k < 8) (b : Bool) (x : UInt8) : UInt8.ofNat (bits .or .u8 (bits .andNot .u8 (x.toNat : Int) ((255 : Int) / 2 ^ k)) (bits .and .u8 (if b then 255 else 0) ((255 : Int) / 2 ^ k))).toNat = b8 fun j => if j < k then bitAt x j else b := by
  have := mixF_ ⟨k, hk⟩ b ⟨x.toNat, x.toNat_lt⟩
  simpa using this
set_option maxRecDepth 100000 in
theorem mixR_ : ∀ (k : Fin 8) (b : Bool) (x : Fin 256), 0 ≤ bits .or .u8 (bits .andNot .u8 (x.val : Int) ((255 : Int) / 2 ^ k.val)) (bits .and .u8 (if b then 255 else 0) ((255 : Int) / 2 ^ k.val)) ∧ bits .or .u8 (bits .andNot .u8 (x.val : Int) ((255 : Int) / 2 ^ k.val)) (bits .and .u8 (if b then 255 else 0) ((255 : Int) / 2 ^ k.val)) ≤ 255 := by decide +kernel
theorem mixR (k : Nat) (hk : k < 8) (b : Bool) (x : UInt8) : 0 ≤ bits .or .u8 (bits .andNot .u8 (x.toNat : Int) ((255 : Int) / 2 ^ k)) (bits .and .u8 (if b then 255 else 0) ((255 : Int) / 2 ^ k)) ∧ bits .or .u8 (bits .andNot .u8 (x.toNat : Int) ((255 : Int) / 2 ^ k)) (bits .and .u8 (if b then 255 else 0) ((255 : Int) / 2 ^ k)) ≤ 255 := mixR_ ⟨k, hk⟩ b ⟨x.toNat, x.toNat_lt⟩
theorem fillL_get (p : List UInt8) (d : Nat) (b : Bool) (i : Nat) (hi : i < 32) : (fillL p d b).getD i 0 = if d ≤ 8 * i then (if b then 255 else 0) else if d < 8 * i + 8 then (b8 fun j => if j < d - 8 * i then bitAt (p.getD i 0) j else b) else p.getD i 0 := by
  unfold fillL
  rw [bitsB_get _ _ _ (by omega)]
  have hb : ∀ k, k < 8 → bitN p (8 * i + k) = bitAt (p.getD i 0) k := fun k hk => by unfold bitN; rw [show (8 * i + k) / 8 = i by omega, show (8 * i + k) % 8 = k by omega]
  by_cases h1 : d ≤ 8 * i
  · rw [if_pos h1, ← b8_const]
    exact b8_congr fun k hk => by rw [if_neg (by omega)]
  rw [if_neg h1]
  by_cases h2 : d < 8 * i + 8
  · rw [if_pos h2]
    exact b8_congr fun k hk => by
      rw [hb k hk]
      by_cases h3 : 8 * i + k < d
      · rw [if_pos h3, if_pos (by omega)]
      rw [if_neg h3, if_neg (by omega)]
  rw [if_neg h2]
  conv => rhs; rw [← b8_eta (p.getD i 0)]
  exact b8_congr fun k hk => by rw [if_pos (by omega), hb k hk]
def fillK (p : List UInt8) (d : Nat) (b : Bool) (i : Nat) : List UInt8 := (fillL p d b).take i ++ p.drop i
theorem fillK_len (p : List UInt8) (hp : p.length = 32) (d : Nat) (b : Bool) (i : Nat) (hi : i ≤ 32) : (fillK p d b i).length = 32 := by
  unfold fillK; rw [List.length_append, List.length_take, List.length_drop, fillL_len]; omega
theorem fillK_get (p : List UInt8) (hp : p.length = 32) (d : Nat) (b : Bool) (i : Nat) (hi : i < 32) : (fillK p d b i).getD i 0 = p.getD i 0 := by
  unfold fillK
  rw [List.getD_eq_getElem?_getD, List.getElem?_append_right (by rw [List.length_take, fillL_len]; omega), List.length_take, fillL_len, show i - min i 32 = 0 by omega, List.getElem?_drop, List.getD_eq_getElem?_getD, Nat.add_zero]
theorem fillK_set (p : List UInt8) (hp : p.length = 32) (d : Nat) (b : Bool) (i : Nat) (hi : i < 32) (x : UInt8) (hx : x = (fillL p d b).getD i 0) : (fillK p d b i).set i x = fillK p d b (i + 1) := by
  unfold fillK
  have h1 : ((fillL p d b).take i).length = i := by rw [List.length_take, fillL_len]; omega
  rw [List.set_append_right _ _ (by omega), h1, Nat.sub_self, List.drop_eq_getElem_cons (show i < p.length by omega), List.set_cons_zero, List.take_succ_eq_append_getElem (by rw [fillL_len]; omega), List.append_assoc]
  rw [hx, List.getD_eq_getElem?_getD, List.getElem?_eq_getElem (by rw [fillL_len]; omega)]
  rfl
theorem fillK_stay (p : List UInt8) (hp : p.length = 32) (d : Nat) (b : Bool) (i : Nat) (hi : i < 32) (h : (fillL p d b).getD i 0 = p.getD i 0) : fillK p d b i = fillK p d b (i + 1) := by
  rw [← fillK_set p hp d b i hi _ rfl, h, ← fillK_get p hp d b i hi]
  have hl := fillK_len p hp d b i (by omega)
  rw [List.getD_eq_getElem?_getD, List.getElem?_eq_getElem (by omega), Option.getD_some, List.set_getElem_self]
theorem fillK_all (p : List UInt8) (hp : p.length = 32) (d : Nat) (b : Bool) : fillK p d b 32 = fillL p d b := by
  unfold fillK; rw [List.take_of_length_le (by rw [fillL_len]; omega), List.drop_eq_nil_of_le (by omega), List.append_nil]
set_option maxRecDepth 20000 in
set_option maxHeartbeats 2000000 in
theorem filled_v (p : List UInt8) (hp : p.length = 32) (d : Nat) (hd : d ≤ 256) (b : Bool) : VC Tryz.prog 104 [.ba p, .v (.int .i64 (d : Int)), .v (.int .u8 (if b then 255 else 0))] [] (.tup [.ba (fillL p d b), .v (.int .i64 0)]) := by
  refine mE Tryz.func104 ?_; intro N w0 a w hN hR H
  refine mW ?_; clear H; intro a w H
  refine mC H (fun hb => ?_) (fun hb => ?_)
  · exfalso
    rw [decide_eq_false (show ¬ (d : Int) < 0 by omega), decide_eq_false (show ¬ (256 : Int) < (d : Int) by omega)] at hb
    cases hb
  clear hb
  refine mW ?_; clear H; intro a w H
  refine v_loop (fun i : Nat => ⟨[(18, none, .v (.int .i64 (i : Int))), (7, none, .v (.int .i64 0)), (6, none, .ptr 1 []), (3, none, .ptr 0 []), (1, none, .v (.int .i64 (d : Int))), (2, none, .v (.int .u8 (if b then 255 else 0)))], [(.ba 32, .ba (fillK p d b i)), (.ba 32, .ba (List.replicate 32 0))], [], []⟩) (fun i => i ≤ 32) (fun i => 32 - i) 0 (Nat.zero_le _) (H.to 2 0 ⟨Nat.le_trans hN (by decide), hR⟩ ⟨rfl, rfl, rfl, rfl, rfl, rfl, trivial⟩ rfl rfl rfl rfl rfl) ?_
  clear H
  intro i a w hi H
  have hkl := fillK_len p hp d b i hi
  refine mW ?_; clear H; intro a w H
  refine mC H (fun hb => ?_) (fun hb => ?_)
  · have hlt : i < 32 := by rw [decide_eq_true_eq] at hb; omega
    clear hb
    have hg := fillL_get p d b i hlt
    have hkg := fillK_get p hp d b i hlt
    refine mW ?_; clear H; intro a w H
    by_cases h1 : d ≤ 8 * i
    · rw [if_pos h1] at hg
      have hset := fillK_set p hp d b i hlt _ hg.symm
      have hwb : UInt8.ofNat (if b = true then (255 : Int) else 0).toNat = if b then 255 else 0 := by cases b <;> rfl
      refine mC H (fun hb => ?_) (fun hb => ?_)
      · clear hb
        refine mW ?_; clear H; intro a w H
        rw [hwb, hset] at H
        exact ⟨i + 1, by omega, by omega, H.to 2 0 ⟨Nat.le_trans hN (by decide), hR⟩ ⟨rfl, rfl, rfl, rfl, rfl, rfl, trivial⟩ rfl rfl rfl rfl rfl⟩
      exfalso; rw [decide_eq_false_iff_not] at hb; omega
    rw [if_neg h1] at hg
    refine mC H (fun hb => ?_) (fun hb => ?_)
    · exfalso; rw [decide_eq_true_eq] at hb; omega
    clear hb
    refine mW ?_; clear H; intro a w H
    by_cases h2 : d < 8 * i + 8
    · rw [if_pos h2] at hg
      have hset := fillK_set p hp d b i hlt _ hg.symm
      have hk8 : d - 8 * i < 8 := by omega
      have e1 : ((d : Int) - 8 * (i : Int)).toNat = d - 8 * i := by omega
      have e2 : (if d - 8 * i ≤ 8 then d - 8 * i else 8) = d - 8 * i := if_pos (by omega)
      have hm := mixF (d - 8 * i) hk8 b (p.getD i 0)
      have hV := mixR (d - 8 * i) hk8 b (p.getD i 0)
      refine mC H (fun hb => ?_) (fun hb => ?_)
      · clear hb
        have hX := And.intro @e1 (And.intro @e2 (@hkg))
        refine mW ?_; clear H; intro a w H
        rw [hm, hset] at H
        exact ⟨i + 1, by omega, by omega, H.to 2 0 ⟨Nat.le_trans hN (by decide), hR⟩ ⟨rfl, rfl, rfl, rfl, rfl, rfl, trivial⟩ rfl rfl rfl rfl rfl⟩
      exfalso; rw [decide_eq_false_iff_not] at hb; omega
    rw [if_neg h2] at hg
    have hst := fillK_stay p hp d b i hlt hg
    refine mC H (fun hb => ?_) (fun hb => ?_)
    · exfalso; rw [decide_eq_true_eq] at hb; omega
    clear hb
    refine mW ?_; clear H; intro a w H
    rw [hst] at H
    exact ⟨i + 1, by omega, by omega, H.to 2 0 ⟨Nat.le_trans hN (by decide), hR⟩ ⟨rfl, rfl, rfl, rfl, rfl, rfl, trivial⟩ rfl rfl rfl rfl rfl⟩
  have hge : i = 32 := by simp at hb; omega
  subst hge
  rw [fillK_all p hp d b] at H
  have hfl := fillL_len p d b
  refine mW ?_; clear H; intro a w H
  refine wp_ret ?_; exact mEnd [] [] [.cell 6 24, .tmp 7] [_, _] hN hR H
theorem first_v (p : List UInt8) (hp : p.length = 32) (d : Nat) (hd : d ≤ 256) : VC Tryz.prog 72 [.ba p, .v (.int .i64 (d : Int))] [] (.tup [.ba (fillL p d false), .v (.int .i64 0)]) := by
  have h := filled_v p hp d hd false
  have hfl := fillL_len p d false
  refine mE Tryz.func72 ?_; intro N w0 a w hN hR H
  have hX := @hfl
  refine mW ?_; clear H; intro a w H
  refine mCall [] [] (h) H ?_; clear H; intro a w H; try refine wpList_nil ?_
  refine mW ?_; clear H; intro a w H
  refine wp_ret ?_; exact mEnd [] [] [.cell 4 24, .tmp 5] [_, _] hN hR H
theorem fill_agree {top : List UInt8} {d : Nat} (b : Bool) (hd : d ≤ 256) : agree d (fillL top d b) top := fun t ht => by rw [fillL_bit _ _ _ _ (by omega), if_pos ht]
abbrev stoT : Ty := ti83.ty
abbrev stoB (γ δ n m room used : Nat) (es fs : List AV) : List (Ty × AV) := [(stoT, .st [.ptr 1 []]), (slbT, .st [.vw 2 γ n, .vw 3 δ m, .v (.int .i64 (room : Int)), .v (.int .i64 (used : Int))]), (.vc 148 sltT, .vc γ es), (.vc 3 .sc, .vc δ fs)]
abbrev Slb.sx (s : Slb) : List (Ty × AV) := stoB s.γ s.δ s.sl.length s.m s.room s.used (s.sl.map slA) (s.fs.map inA)
set_option maxRecDepth 20000 in
theorem stoNew_v (room : Nat) (h1 : 0 < room) (h2 : room ≤ 65536) : VX Tryz.prog 6 [] [] [] [.v (.int .i64 (room : Int))] (Slb.new room).sx [] [] (.tup [.ptr 0 [], errv 0]) := by
  have hn := slbNew_v room h1 h2
  generalize Slb.new room = s at *
  simp only [Slb.bx] at hn
  simp only [Slb.sx]
  refine mE Tryz.func6 ?_; intro N w0 a w hN hR H
  refine mW ?_; clear H; intro a w H
  refine mCall [] [] (hn) H ?_; clear H; intro a w H; try refine wpList_nil ?_
  refine mW ?_; clear H; intro a w H
  refine mC H (fun hb => ?_) (fun hb => ?_)
  · exact absurd hb (by decide)
  clear hb
  refine mW ?_; clear H; intro a w H
  refine wp_ret ?_; exact mEnd [3, 0, 1, 2] [] [.tmp 2, .tmp 3] [_, _] hN hR H
theorem stoNone_v (γ δ n m room used : Nat) (es fs : List AV) :
    VX Tryz.prog 37 (stoB γ δ n m room used es fs) [] [] [.ptr 0 []] (stoB γ δ n m room used es fs) [] [] (.v (.bool false)) := by
  refine mE Tryz.func37 ?_; intro N w0 a w hN hR H
  refine mW ?_; clear H; intro a w H
  refine wp_ret ?_; exact mEnd [0, 1, 2, 3] [] [.tmp 2] [_] hN hR H
set_option maxRecDepth 20000 in
theorem stoGet_v (s : Slb) (hs : s.wf) (h : Int) : VX Tryz.prog 40 s.sx [] [] [.ptr 0 [], .v (.int .i64 h)] s.sx [] [] (.tup [(s.get_ h).av, .v (.bool (s.ok_ h))]) := by
  have hn := stoNone_v s.γ s.δ s.sl.length s.m s.room s.used (s.sl.map slA) (s.fs.map inA)
  have hg := slbGet_v s hs h
  have hx : (s.get_ h).wf := by
    unfold Slb.get_
    cases hat : s.at_ h with
    | some p => exact (Slb.at_pos hs hat).2.2
    | none => exact SN.zero_wf
  have he : decide ((if s.ok_ h then (0 : Int) else 7) = 0) = s.ok_ h := by cases s.ok_ h <;> rfl
  generalize s.get_ h = n at *
  generalize s.ok_ h = ok at *
  obtain ⟨x1, x2, x3⟩ := hx
  simp only [Slb.bx, SN.av] at hg
  simp only [Slb.sx, SN.av]
  generalize s.sl.map slA = es at *
  generalize s.fs.map inA = fs at *
  refine mE Tryz.func40 ?_; intro N w0 a w hN hR H
  have hX := And.intro @x1 (And.intro @x2 (And.intro @x3 (@he)))
  refine mW ?_; clear H; intro a w H
  refine mCall [0, 1, 2, 3] [] (hn) H ?_; clear H; intro a w H; try refine wpList_nil ?_
  refine mW ?_; clear H; intro a w H
  refine mC H (fun hb => ?_) (fun hb => ?_)
  · exact absurd hb (by decide)
  clear hb
  refine mW ?_; clear H; intro a w H
  refine mCall [1, 2, 3] [] (hg) H ?_; clear H; intro a w H; try refine wpList_nil ?_
  refine mW ?_; clear H; intro a w H
  refine wp_ret ?_; exact mEnd [0, 1, 2, 3] [] [.cell 4 81, .tmp 5] [_, _] hN hR H
theorem Slb.get_wf {s : Slb} (hs : s.wf) (h : Int) : (s.get_ h).wf := by
  unfold Slb.get_
  cases hat : s.at_ h with
  | some p => exact (Slb.at_pos hs hat).2.2
  | none => exact SN.zero_wf
def Slb.dig (s : Slb) (h : Int) : List UInt8 := if h = 0 then sum [0] else (s.get_ h).dg
theorem Slb.dig_len {s : Slb} (hs : s.wf) (h : Int) : (s.dig h).length = 32 := by
  unfold Slb.dig; split; exact sum_length _; exact (Slb.get_wf hs h).dg
set_option maxRecDepth 20000 in
theorem stoKind_v (s : Slb) (hs : s.wf) (h : Int) : VX Tryz.prog 52 s.sx [] [] [.ptr 0 [], .v (.int .i64 h)] s.sx [] [] (.v (B8 (s.get_ h).k)) := by
  have hg := stoGet_v s hs h
  obtain ⟨x1, x2, x3⟩ := Slb.get_wf hs h
  generalize s.get_ h = n at *
  simp only [Slb.sx, SN.av] at hg
  simp only [Slb.sx]
  refine mE Tryz.func52 ?_; intro N w0 a w hN hR H
  have hX := And.intro @x1 (And.intro @x2 (@x3))
  refine mW ?_; clear H; intro a w H
  refine mCall [0, 1, 2, 3] [] (hg) H ?_; clear H; intro a w H; try refine wpList_nil ?_
  refine mW ?_; clear H; intro a w H
  refine wp_ret ?_; exact mEnd [0, 1, 2, 3] [] [.tmp 4] [_] hN hR H
set_option maxRecDepth 20000 in
theorem stoKey_v (s : Slb) (hs : s.wf) (h : Int) : VX Tryz.prog 53 s.sx [] [] [.ptr 0 [], .v (.int .i64 h)] s.sx [] [] (.ba (s.get_ h).key) := by
  have hg := stoGet_v s hs h
  obtain ⟨x1, x2, x3⟩ := Slb.get_wf hs h
  generalize s.get_ h = n at *
  simp only [Slb.sx, SN.av] at hg
  simp only [Slb.sx]
  refine mE Tryz.func53 ?_; intro N w0 a w hN hR H
  have hX := And.intro @x1 (And.intro @x2 (@x3))
  refine mW ?_; clear H; intro a w H
  refine mCall [0, 1, 2, 3] [] (hg) H ?_; clear H; intro a w H; try refine wpList_nil ?_
  refine mW ?_; clear H; intro a w H
  refine wp_ret ?_; exact mEnd [0, 1, 2, 3] [] [.cell 4 24] [_] hN hR H
set_option maxRecDepth 20000 in
theorem stoValue_v (s : Slb) (hs : s.wf) (h : Int) (hl : (s.get_ h).val.length ≤ 100000) : VX Tryz.prog 54 s.sx [] [] [.ptr 0 [], .v (.int .i64 h)] s.sx [] [(5, (s.get_ h).val.length)] (.bs (s.get_ h).val (some 0)) := by
  have hg := stoGet_v s hs h
  obtain ⟨x1, x2, x3⟩ := Slb.get_wf hs h
  generalize s.get_ h = n at *
  simp only [Slb.sx, SN.av] at hg
  simp only [Slb.sx]
  refine mE Tryz.func54 ?_; intro N w0 a w hN hR H
  have hX := And.intro @x1 (And.intro @x2 (@x3))
  refine mW ?_; clear H; intro a w H
  refine mCall [0, 1, 2, 3] [] (hg) H ?_; clear H; intro a w H; try refine wpList_nil ?_
  refine mW ?_; clear H; intro a w H
  refine wp_ret ?_; exact mEnd [0, 1, 2, 3] [0] [.tmp 4] [_] hN hR H
set_option maxRecDepth 20000 in
theorem stoSides_v (s : Slb) (hs : s.wf) (h : Int) : VX Tryz.prog 76 s.sx [] [] [.ptr 0 [], .v (.int .i64 h)] s.sx [] [] (.tup [.v (.int .i64 (s.get_ h).l), .v (.int .i64 (s.get_ h).r)]) := by
  have hg := stoGet_v s hs h
  obtain ⟨x1, x2, x3⟩ := Slb.get_wf hs h
  generalize s.get_ h = n at *
  simp only [Slb.sx, SN.av] at hg
  simp only [Slb.sx]
  refine mE Tryz.func76 ?_; intro N w0 a w hN hR H
  have hX := And.intro @x1 (And.intro @x2 (@x3))
  refine mW ?_; clear H; intro a w H
  refine mCall [0, 1, 2, 3] [] (hg) H ?_; clear H; intro a w H; try refine wpList_nil ?_
  refine mW ?_; clear H; intro a w H
  refine mS ?_; refine mD 0 [] [] H ?_; clear H; intro gS H
  refine mT ?_; clear H; intro a w H
  refine v_drawNil H ?_; clear H; intro H
  refine mW ?_; clear H; intro a w H
  refine wp_ret ?_; exact mEnd [0, 1, 2, 3] [] [.tmp 4, .tmp 5] [_, _] hN hR H
set_option maxRecDepth 20000 in
theorem stoDigest_v (s : Slb) (hs : s.wf) (h : Int) : VX Tryz.prog 9 s.sx [] [] [.ptr 0 [], .v (.int .i64 h)] s.sx [] [] (.ba (s.dig h)) := by
  have hn := stoNone_v s.γ s.δ s.sl.length s.m s.room s.used (s.sl.map slA) (s.fs.map inA)
  have hg := stoGet_v s hs h
  have hem := empty_v
  have hs0 : (sum [0]).length = 32 := sum_length _
  obtain ⟨x1, x2, x3⟩ := Slb.get_wf hs h
  unfold Slb.dig
  generalize s.get_ h = n at *
  simp only [Slb.sx, SN.av] at hg
  simp only [Slb.sx]
  generalize s.sl.map slA = es at *
  generalize s.fs.map inA = fs at *
  refine mE Tryz.func9 ?_; intro N w0 a w hN hR H
  have hX := And.intro @x1 (And.intro @x2 (And.intro @x3 (@hs0)))
  refine mW ?_; clear H; intro a w H
  refine mCall [0, 1, 2, 3] [] (hn) H ?_; clear H; intro a w H; try refine wpList_nil ?_
  refine mW ?_; clear H; intro a w H
  refine mC H (fun hb => ?_) (fun hb => ?_)
  · exact absurd hb (by decide)
  clear hb
  refine mW ?_; clear H; intro a w H
  refine mC H (fun hb => ?_) (fun hb => ?_)
  · rw [decide_eq_true_eq] at hb
    rw [if_pos hb]
    refine mW ?_; clear H; intro a w H
    refine mCall [] [] (hem) H ?_; clear H; intro a w H; try refine wpList_nil ?_
    refine mW ?_; clear H; intro a w H
    refine wp_ret ?_; exact mEnd [0, 1, 2, 3] [] [.cell 4 33] [_] hN hR H
  rw [decide_eq_false_iff_not] at hb
  rw [if_neg hb]
  refine mW ?_; clear H; intro a w H
  refine mCall [0, 1, 2, 3] [] (hg) H ?_; clear H; intro a w H; try refine wpList_nil ?_
  refine mW ?_; clear H; intro a w H
  refine wp_ret ?_; exact mEnd [0, 1, 2, 3] [] [.cell 4 33] [_] hN hR H
theorem kz2 (k c : UInt8) (hc : (c.toNat : Int) = (c.toNat : Int)) : decide ((k.toNat : Int) = (c.toNat : Int)) = decide (k = c) := by
  rw [decide_eq_decide]
  exact ⟨fun h => UInt8.toNat_inj.1 (by omega), fun h => by rw [h]⟩
theorem half_bit (c : UInt8) (m : Nat) (hm : m < 8) : c.toNat / 2 ^ (7 - m) % 2 = if bitAt c m then 1 else 0 := by
  rw [bitAt_test c m hm, Nat.testBit_eq_decide_div_mod_eq]
  have := Nat.mod_two_eq_zero_or_one (c.toNat / 2 ^ (7 - m))
  rcases this with h | h <;> rw [h] <;> rfl
set_option maxRecDepth 20000 in
theorem bitR_v (p : List UInt8) (hp : p.length = 32) (d : Int) : VC Tryz.prog 66 [.ba p, .v (.int .i64 d)] [] (.v (.int .i64 (pbit p d))) := by
  refine mE Tryz.func66 ?_; intro N w0 a w hN hR H
  refine mW ?_; clear H; intro a w H
  by_cases h : 0 ≤ d ∧ d < 256
  · have e8 := e8w d h.1
    skip
    refine mC H (fun hb => ?_) (fun hb => ?_)
    · exfalso; simp at hb; omega
    obtain ⟨c, hc⟩ : ∃ c, c = p.getD (d.toNat / 8) 0 := ⟨_, rfl⟩
    have hc8 := c.toNat_lt
    have hX := And.intro @e8 (Eq.symm (hc))
    have hY := @e8
    refine mW ?_; clear H; intro a w H
    refine v_loop (fun k : Nat => ⟨[(6, none, .v (.int .i64 (k : Int))), (5, none, .v (.int .i64 ((c.toNat / 2 ^ k : Nat) : Int))), (1, none, .v (.int .i64 d))], [(.ba 32, .ba p)], [], []⟩) (fun k => k ≤ 7 - d.toNat % 8) (fun k => 8 - k) 0 (Nat.zero_le _) (H.to 1 0 ⟨Nat.le_trans hN (by decide), hR⟩ ⟨rfl, by rw [Nat.pow_zero, Nat.div_one]; rfl, rfl, trivial⟩ rfl rfl rfl rfl rfl) ?_
    clear H
    intro k a w hk H
    have hlt2 : c.toNat / 2 ^ k < 256 := Nat.lt_of_le_of_lt (Nat.div_le_self _ _) hc8
    obtain ⟨v, hv⟩ : ∃ v, v = c.toNat / 2 ^ k := ⟨_, rfl⟩
    rw [← hv] at H hlt2
    have hv' : PLift (v = c.toNat / 2 ^ k) := ⟨hv⟩
    clear hv
    clear hX
    clear hY
    refine mW ?_; clear H; intro a w H
    refine mC H (fun hb => ?_) (fun hb => ?_)
    · have hlt : k < 7 - d.toNat % 8 := by simp at hb; omega
      refine mW ?_; clear H; intro a w H
      have e2 : (v : Int) / 2 = ((c.toNat / 2 ^ (k + 1) : Nat) : Int) := by
        have hv : v = c.toNat / 2 ^ k := hv'.down
        rw [Nat.pow_succ, ← Nat.div_div_eq_div_mul, ← hv]; omega
      rw [e2] at H
      exact ⟨k + 1, hlt, by omega, H.to 1 0 ⟨Nat.le_trans hN (by decide), hR⟩ ⟨rfl, rfl, rfl, trivial⟩ rfl rfl rfl rfl rfl⟩
    have hge : k = 7 - d.toNat % 8 := by simp at hb; omega
    subst hge
    have hb2 := half_bit c (d.toNat % 8) (by omega)
    have hv : v = c.toNat / 2 ^ (7 - d.toNat % 8) := hv'.down
    rw [← hv] at hb2
    clear hv
    have e3 : pbit p d = ((v % 2 : Nat) : Int) := by
      rw [pbit, if_pos h, hb2, hc]; unfold bitN; split <;> rfl
    rw [e3]
    refine mW ?_; clear H; intro a w H
    refine wp_ret ?_; exact mEnd [] [] [.tmp 4] [_] hN hR H
  rw [pbit, if_neg h]
  refine mC H (fun hb => ?_) (fun hb => ?_)
  · refine mW ?_; clear H; intro a w H
    refine wp_ret ?_; exact mEnd [] [] [.tmp 4] [_] hN hR H
  exfalso; simp at hb; omega
theorem cmp_at (p q : List UInt8) : ∀ k, k ≤ p.length → k ≤ q.length → (∀ j, j < k → p.getD j 0 = q.getD j 0) → Lib.compareBytes p q = Lib.compareBytes (p.drop k) (q.drop k)
  | 0, _, _, _ => rfl
  | k + 1, h1, h2, h => by
    rw [cmp_at p q k (by omega) (by omega) fun j hj => h j (by omega), List.drop_eq_getElem_cons (show k < p.length by omega), List.drop_eq_getElem_cons (show k < q.length by omega)]
    have := h k (by omega)
    rw [← List.getElem_eq_getD (h := show k < p.length by omega) 0, ← List.getElem_eq_getD (h := show k < q.length by omega) 0] at this
    rw [this]
    simp [Lib.compareBytes]
set_option maxRecDepth 20000 in
theorem pcmpR_v (p q : List UInt8) (hp : p.length = 32) (hq : q.length = 32) : VC Tryz.prog 63 [.ba p, .ba q] [] (.v (.int .i64 (Lib.compareBytes p q))) := by
  refine mE Tryz.func63 ?_; intro N w0 a w hN hR H
  refine mW ?_; clear H; intro a w H
  refine v_loop (fun k : Nat => ⟨[(5, none, .v (.int .i64 (k : Int))), (4, none, .v (.int .i64 0)), (3, none, .ptr 1 []), (2, none, .ptr 0 [])], [(.ba 32, .ba p), (.ba 32, .ba q)], [], []⟩) (fun k => k ≤ 32 ∧ ∀ j, j < k → p.getD j 0 = q.getD j 0) (fun k => 32 - k) 0 ⟨Nat.zero_le _, fun t ht => by omega⟩ (H.to 2 0 ⟨Nat.le_trans hN (by decide), hR⟩ ⟨rfl, rfl, rfl, rfl, trivial⟩ rfl rfl rfl rfl rfl) ?_
  clear H
  rintro k a w ⟨hk, hag⟩ H
  have hat := cmp_at p q k (by omega) (by omega) hag
  have hx8 := (p.getD k 0).toNat_lt
  have hy8 := (q.getD k 0).toNat_lt
  refine mW ?_; clear H; intro a w H
  refine mC H (fun hb => ?_) (fun hb => ?_)
  · have hlt : k < 32 := by simp at hb; omega
    rw [List.drop_eq_getElem_cons (show k < p.length by omega), List.drop_eq_getElem_cons (show k < q.length by omega), List.getElem_eq_getD (0 : UInt8), List.getElem_eq_getD (0 : UInt8)] at hat
    refine mW ?_; clear H; intro a w H
    refine mS ?_; refine mD 2 [] [] H ?_; clear H; intro gS H; refine mT ?_; clear H; intro a w H
    refine v_drawNil H ?_; clear H; intro H
    refine mC H (fun hb => ?_) (fun hb => ?_)
    · have h1 : p.getD k 0 < q.getD k 0 := by rw [UInt8.lt_iff_toNat_lt]; simpa using hb
      have e : Lib.compareBytes p q = -1 := by rw [hat]; simp only [Lib.compareBytes, if_pos h1]
      rw [e]
      refine mW ?_; clear H; intro a w H
      refine wp_ret ?_; exact mEnd [] [] [.tmp 4] [_] hN hR H
    have h1 : ¬ p.getD k 0 < q.getD k 0 := by rw [UInt8.lt_iff_toNat_lt]; simpa using hb
    refine mW ?_; clear H; intro a w H
    refine mS ?_; refine mD 2 [] [] H ?_; clear H; intro gS H; refine mT ?_; clear H; intro a w H
    refine v_drawNil H ?_; clear H; intro H
    refine mC H (fun hb => ?_) (fun hb => ?_)
    · have h2 : q.getD k 0 < p.getD k 0 := by rw [UInt8.lt_iff_toNat_lt]; simpa using hb
      have e : Lib.compareBytes p q = 1 := by rw [hat]; simp only [Lib.compareBytes, if_neg h1, if_pos h2]
      rw [e]
      refine mW ?_; clear H; intro a w H
      refine wp_ret ?_; exact mEnd [] [] [.tmp 4] [_] hN hR H
    have h2 : ¬ q.getD k 0 < p.getD k 0 := by rw [UInt8.lt_iff_toNat_lt]; simpa using hb
    refine mW ?_; clear H; intro a w H
    exact ⟨k + 1, ⟨hlt, fun j hj => by
      by_cases h3 : j < k
      · exact hag j h3
      rw [show j = k by omega]; apply UInt8.toNat_inj.1; rw [UInt8.lt_iff_toNat_lt] at h1 h2; omega⟩, by omega, H.to 2 0 ⟨Nat.le_trans hN (by decide), hR⟩ ⟨rfl, rfl, rfl, rfl, trivial⟩ rfl rfl rfl rfl rfl⟩
  have hge : k = 32 := by simp at hb; omega
  subst hge
  have e : Lib.compareBytes p q = 0 := by rw [hat, List.drop_eq_nil_of_le (by omega), List.drop_eq_nil_of_le (by omega)]; rfl
  rw [e]
  refine mW ?_; clear H; intro a w H
  refine wp_ret ?_; exact mEnd [] [] [.tmp 4] [_] hN hR H
theorem ofHR_v (t : UInt8) (ls : List (List UInt8)) (hb : ls.flatten.length ≤ 34359737000) (hl : ls.length ≤ 34359737000) : VC Tryz.prog 118 [.v (B8 t), .sl .sc (bss ls) none] [] (.ba (sum (t :: ls.flatten))) := by
  have h1 := textR_v t ls (by omega) (by omega)
  have h2 := sumR_v (t :: ls.flatten) (by simp only [List.length_cons]; omega)
  have hsl := sum_length (t :: ls.flatten)
  refine mE Tryz.func118 ?_; intro N w0 a w hN hR H
  refine mW ?_; clear H; intro a w H
  refine mCall [] [] (h1) H ?_; clear H; intro a w H; try refine wpList_nil ?_
  refine mW ?_; clear H; intro a w H
  refine mCall [] [] (h2) H ?_; clear H; intro a w H; try refine wpList_nil ?_
  refine mW ?_; clear H; intro a w H
  refine wp_ret ?_; exact mEnd [] [] [.cell 4 23] [_] hN hR H
theorem emptyR_v : VC Tryz.prog 98 [] [] (.ba (sum [0])) := by
  have hsl := sum_length [0]
  refine mE Tryz.func98 ?_; intro N w0 a w hN hR H
  refine mW ?_; clear H; intro a w H
  refine mCall [] [] (ofHR_v 0 [] (by simp) (by simp)) H ?_; clear H; intro a w H; try refine wpList_nil ?_
  refine mW ?_; clear H; intro a w H
  refine wp_ret ?_; exact mEnd [] [] [.cell 0 23] [_] hN hR H
theorem leafHR_v (k v : List UInt8) (hk : k.length = 32) (hv : v.length = 32) : VC Tryz.prog 99 [.ba k, .ba v] [] (.ba (leafH k v)) := by
  have h1 := leafR_v k v hk hv
  have h2 := sumR_v (1 :: (k ++ v)) (by simp; omega)
  have hsl := sum_length (1 :: (k ++ v))
  have hl : (1 :: (k ++ v)).length = 65 := by simp; omega
  unfold leafH
  refine mE Tryz.func99 ?_; intro N w0 a w hN hR H
  refine mW ?_; clear H; intro a w H
  refine mCall [] [] (h1) H ?_; clear H; intro a w H; try refine wpList_nil ?_
  refine mW ?_; clear H; intro a w H
  refine mCall [] [] (h2) H ?_; clear H; intro a w H; try refine wpList_nil ?_
  refine mW ?_; clear H; intro a w H
  refine wp_ret ?_; exact mEnd [] [] [.cell 4 23] [_] hN hR H
theorem innerHR_v (k v : List UInt8) (hk : k.length = 32) (hv : v.length = 32) : VC Tryz.prog 101 [.ba k, .ba v] [] (.ba (innerH k v)) := by
  have h1 := innerR_v k v hk hv
  have h2 := sumR_v (2 :: (k ++ v)) (by simp; omega)
  have hsl := sum_length (2 :: (k ++ v))
  unfold innerH
  refine mE Tryz.func101 ?_; intro N w0 a w hN hR H
  refine mW ?_; clear H; intro a w H
  refine mCall [] [] (h1) H ?_; clear H; intro a w H; try refine wpList_nil ?_
  refine mW ?_; clear H; intro a w H
  refine mCall [] [] (h2) H ?_; clear H; intro a w H; try refine wpList_nil ?_
  refine mW ?_; clear H; intro a w H
  refine wp_ret ?_; exact mEnd [] [] [.cell 4 23] [_] hN hR H
section
variable {P : Program} {τ : Tab} {w0 w w' : World} {N : Gh} {g g1 g2 : Gh} {st st' : St} {nt : Nat} {a : Act}
theorem RC.sc_slice {T : Ty} {A : Option Addr} {n c : Nat} {cs : List Value} (h : RC g T (.v (.slice A n c)) cs) : T = .sc ∧ cs = [.slice A n c] := by
  cases h with
  | v h => exact ⟨rfl, rfl⟩
theorem RC.nilK {y : AV} (hy : RC g .sc y [.slice none 0 0]) : ∀ (k : Nat) {T : Ty} {fs : List AV} {cs : List Value}, RC g T (.st fs) cs → fs[k]? = some (.v (.slice none 0 0)) → RC g T (.st (fs.set k y)) cs
  | _, _, [], _, h, hk => by simp at hk
  | 0, _, x :: fs, _, h, hk => by
    simp only [List.getElem?_cons_zero, Option.some.injEq] at hk
    subst hk
    cases h with
    | cn h hs =>
      obtain ⟨rfl, rfl⟩ := h.sc_slice
      exact .cn hy hs
  | k + 1, _, x :: fs, _, h, hk => by
    cases h with
    | cn h hs => exact .cn h (RC.nilK hy k hs (by simpa using hk))
theorem v_nilX (hτ : τ.ok P) (H : Rel P w0 N nt st a w) (i k e : Nat) {j : TI} (T' : Ty) {T : Ty} {fs : List AV} (hj : Tab.get e τ = some j) (hs : 0 < j.ty.size) (hb : st.bx[i]? = some (T, .st fs)) (hd : fs[k]? = some (.v (.slice none 0 0))) :
    Rel P w0 N nt ⟨st.t, st.bx.set i (T, .st (fs.set k (.sl T' [] (some st.rw.length)))), st.fz, st.rw ++ [(e, 0)]⟩ a w := by
  obtain ⟨g, HI, hF⟩ := H
  have hok := Tab.get_ok hτ hj
  obtain ⟨g1, l1, I1, h1⟩ := HI.rowNil (nilRow hok hs w) rfl rfl ⟨hok.cells.symm, rfl⟩
  obtain ⟨x, hx, rfl, hr⟩ := I1.br.at_ i T _ hb
  obtain ⟨hxo, hxm, hr⟩ := hr.rc_of (fun _ _ e => by cases e) (fun _ _ e => by cases e) (fun _ _ e => by cases e)
  have hy := (RC.sl (g := g1) (T := T') (es := []) (tok := some st.rw.length) (A := none) (c := 0) (by simp) (by simp [maxLen]) (fun _ => []) (.inl rfl) (fun k hk => absurd hk (by simp)) fun i hi => by injection hi with hi; subst hi; exact ⟨_, h1, by simp, fun _ => ⟨rfl, rfl⟩⟩)
  exact ⟨g1, I1.re hx (.pl (RC.nilK hy k hr hd) hxo hxm), ⟨(hF.mono l1.1).sz, hF.df, (hF.mono l1.1).t, hF.u⟩⟩
end
structure Pf where
  s : List (List UInt8)
  e : Nd
  deriving DecidableEq
structure Pf.wf (p : Pf) : Prop where
  s : ∀ h ∈ p.s, h.length = 32
  e : p.e.wf
def Pf.chk (p : Pf) : Int := if 256 < p.s.length then 4 else if p.e.ok ∧ p.e.k ≠ 2 then 0 else 2
def E0 : List UInt8 := sum [0]
def hidesB (s : List (List UInt8)) (t : Nat) : Bool := match s[t]? with | some h => h != E0 | none => false
def Pf.bits (p : Pf) : List UInt8 := bitsB p.s.length (hidesB p.s)
def hashes (s : List (List UInt8)) : List UInt8 := (s.filter (· != E0)).flatten
def Pf.text (p : Pf) : List UInt8 := [UInt8.ofNat (p.s.length / 256), UInt8.ofNat p.s.length] ++ (p.bits ++ (hashes p.s ++ p.e.text))
theorem hashes_len : ∀ (s : List (List UInt8)), (∀ h ∈ s, h.length = 32) → (hashes s).length ≤ 32 * s.length
  | [], _ => by simp [hashes]
  | h :: s, hs => by
    have ih := hashes_len s fun x hx => hs x (List.mem_cons_of_mem _ hx)
    have h1 := hs h List.mem_cons_self
    unfold hashes at ih ⊢
    rw [List.filter_cons]
    split
    · simp only [List.flatten_cons, List.length_append, List.length_cons]; omega
    simp only [List.length_cons]; omega
def runS : List Bool → List UInt8 → List (List UInt8) × List UInt8 × Bool
  | [], r => ([], r, false)
  | m :: ms, r => if m = true ∧ r.length < 32 then ([E0], r, true) else ((if m then r.take 32 else E0) :: (runS ms (if m then r.drop 32 else r)).1, (runS ms (if m then r.drop 32 else r)).2)
def marksOf (bits : List UInt8) (n : Nat) : List Bool := (List.range n).map fun i => bitAt (bits.getD (i / 8) 0) (i % 8)
def rdQ (l : List UInt8) : Pf × Bool :=
  if l.length < 2 then (⟨[], .zero⟩, false) else
  if 256 < num 0 (l.take 2) then (⟨[], .zero⟩, false) else
  if (l.drop 2).length < (num 0 (l.take 2) + 7) / 8 then (⟨[], .zero⟩, false) else
  let x := runS (marksOf ((l.drop 2).take ((num 0 (l.take 2) + 7) / 8)) (num 0 (l.take 2))) ((l.drop 2).drop ((num 0 (l.take 2) + 7) / 8))
  if x.2.2 then (⟨x.1, .zero⟩, false) else (⟨x.1, dec x.2.1⟩, decide (decOk x.2.1))
structure At (ms : List Bool) (l : List UInt8) (i : Nat × List (List UInt8) × List UInt8 × Bool) : Prop where
  k : i.1 ≤ ms.length
  len : i.2.1.length = i.1
  lr : i.2.2.1.length ≤ l.length
  ok : i.2.2.2 = false → runS ms l = (i.2.1 ++ (runS (ms.drop i.1) i.2.2.1).1, (runS (ms.drop i.1) i.2.2.1).2)
  no : i.2.2.2 = true → runS ms l = (i.2.1, i.2.2.1, true)
def Pf.zero : Pf := ⟨[], .zero⟩
def pOk (l : List UInt8) : Prop := (rdQ l).2 = true ∧ (rdQ l).1.chk = 0 ∧ (rdQ l).1.text = l
instance (l : List UInt8) : Decidable (pOk l) := inferInstanceAs (Decidable (_ ∧ _))
section
variable {P : Program} {τ : Tab} {w0 w : World} {N : Gh} {st : St} {nt : Nat} {a : Act}
end
def valH (v : List UInt8) : List UInt8 := sum (3 :: v)
theorem valH_len (v : List UInt8) : (valH v).length = 32 := sum_length _
theorem value_v (v : List UInt8) (hv : v.length ≤ 34359730000) : VC Tryz.prog 47 [.bs v none] [] (.ba (valH v)) := by
  have h := of_v 3 [v] (by simp; omega) (by simp)
  have e : [v].flatten = v := by simp
  rw [e] at h
  have hsl := sum_length (3 :: v)
  unfold valH
  refine mE Tryz.func47 ?_; intro N w0 a w hN hR H
  refine mW ?_; clear H; intro a w H
  refine mCall [] [] (h) H ?_; clear H; intro a w H; try refine wpList_nil ?_
  refine mW ?_; clear H; intro a w H
  refine wp_ret ?_; exact mEnd [] [] [.cell 2 33] [_] hN hR H
theorem valueR_v (v : List UInt8) (hv : v.length ≤ 34359730000) : VC Tryz.prog 100 [.bs v none] [] (.ba (valH v)) := by
  have h := ofHR_v 3 [v] (by simp; omega) (by simp)
  have e : [v].flatten = v := by simp
  rw [e] at h
  have hsl := sum_length (3 :: v)
  unfold valH
  refine mE Tryz.func100 ?_; intro N w0 a w hN hR H
  refine mW ?_; clear H; intro a w H
  refine mCall [] [] (h) H ?_; clear H; intro a w H; try refine wpList_nil ?_
  refine mW ?_; clear H; intro a w H
  refine wp_ret ?_; exact mEnd [] [] [.cell 2 23] [_] hN hR H
def Slb.rootE (s : Slb) (h : Int) : Int := if h = 0 then 0 else if s.ok_ h = false then 7 else if (s.get_ h).k = 2 ∧ (s.get_ h).d ≠ 0 then 2 else 0
set_option maxRecDepth 20000 in
theorem stoRoot_v (s : Slb) (hs : s.wf) (h : Int) : VX Tryz.prog 28 s.sx [] [] [.ptr 0 [], .v (.int .i64 h)] s.sx [] [] (errv (s.rootE h)) := by
  have hn := stoNone_v s.γ s.δ s.sl.length s.m s.room s.used (s.sl.map slA) (s.fs.map inA)
  have hg := stoGet_v s hs h
  obtain ⟨x1, x2, x3⟩ := Slb.get_wf hs h
  unfold Slb.rootE
  generalize s.get_ h = n at *
  generalize s.ok_ h = ok at *
  have k2 : decide ((n.k.toNat : Int) = 2) = decide (n.k = 2) := kz2 n.k 2 rfl
  simp only [Slb.sx, SN.av] at hg
  simp only [Slb.sx]
  generalize s.sl.map slA = es at *
  generalize s.fs.map inA = fs at *
  refine mE Tryz.func28 ?_; intro N w0 a w hN hR H
  have hX := And.intro @x1 (And.intro @x2 (@x3))
  refine mW ?_; clear H; intro a w H
  refine mCall [0, 1, 2, 3] [] (hn) H ?_; clear H; intro a w H; try refine wpList_nil ?_
  refine mW ?_; clear H; intro a w H
  refine mC H (fun hb => ?_) (fun hb => ?_)
  · exact absurd hb (by decide)
  clear hb
  refine mW ?_; clear H; intro a w H
  refine mC H (fun hb => ?_) (fun hb => ?_)
  · rw [decide_eq_true_eq] at hb
    rw [if_pos hb]
    refine mW ?_; clear H; intro a w H
    refine wp_ret ?_; exact mEnd [0, 1, 2, 3] [] [.tmp 4] [_] hN hR H
  rw [decide_eq_false_iff_not] at hb
  rw [if_neg hb]
  clear hb
  refine mW ?_; clear H; intro a w H
  refine mCall [0, 1, 2, 3] [] (hg) H ?_; clear H; intro a w H; try refine wpList_nil ?_
  refine mW ?_; clear H; intro a w H
  refine mC H (fun hb => ?_) (fun hb => ?_)
  · have ho : ok = false := by simpa using hb
    rw [if_pos ho]
    refine mW ?_; clear H; intro a w H
    refine wp_ret ?_; exact mEnd [0, 1, 2, 3] [] [.tmp 4] [_] hN hR H
  have ho : ok = true := by simpa using hb
  rw [if_neg (by rw [ho]; decide)]
  clear hb
  refine mW ?_; clear H; intro a w H
  simp only [k2] at H
  refine mC H (fun hb => ?_) (fun hb => ?_)
  · have e : n.k = 2 ∧ n.d ≠ 0 := by
      by_cases hk : n.k = 2
      · rw [decide_eq_true hk] at hb; exact ⟨hk, by simpa using hb⟩
      rw [decide_eq_false hk] at hb; cases hb
    rw [if_pos e]
    refine mW ?_; clear H; intro a w H
    refine wp_ret ?_; exact mEnd [0, 1, 2, 3] [] [.tmp 4] [_] hN hR H
  have e : ¬ (n.k = 2 ∧ n.d ≠ 0) := by
    rintro ⟨e1, e2⟩
    rw [decide_eq_true e1] at hb
    simp at hb; exact e2 hb
  rw [if_neg e]
  refine mW ?_; clear H; intro a w H
  refine wp_ret ?_; exact mEnd [0, 1, 2, 3] [] [.tmp 4] [_] hN hR H
def Slb.call_ (s : Slb) (h b : Int) : Slb := if s.ok_ h then s.set_ h { s.get_ h with hd := (s.get_ h).hd + b } else s
set_option maxRecDepth 20000 in
theorem stoCallers_v (s : Slb) (hs : s.wf) (h b : Int) (hb0 : -1000000000000 ≤ (s.get_ h).hd + b ∧ (s.get_ h).hd + b ≤ 1000000000000) :
    VX Tryz.prog 56 s.sx [] [] [.ptr 0 [], .v (.int .i64 h), .v (.int .i64 b)] (s.call_ h b).sx [] [] (.tup []) := by
  have hg := stoGet_v s hs h
  obtain ⟨x1, x2, x3⟩ := id (Slb.get_wf hs h)
  unfold Slb.call_
  cases hok : s.ok_ h with
  | false =>
    rw [hok] at hg
    rw [if_neg (by decide)]
    generalize s.get_ h = n at *
    simp only [Slb.sx, SN.av] at hg
    simp only [Slb.sx]
    refine mE Tryz.func56 ?_; intro N w0 a w hN hR H
    have hX := And.intro @x1 (And.intro @x2 (@x3))
    refine mW ?_; clear H; intro a w H
    refine mCall [0, 1, 2, 3] [] (hg) H ?_; clear H; intro a w H; try refine wpList_nil ?_
    refine mW ?_; clear H; intro a w H
    refine mC H (fun hb => ?_) (fun hb => ?_)
    · exact absurd hb (by decide)
    refine mW ?_; clear H; intro a w H
    exact mEnd [0, 1, 2, 3] [] [] [] hN hR H
  | true =>
    rw [hok] at hg
    rw [if_pos rfl]
    obtain ⟨⟨x, c⟩, hat⟩ : ∃ p, s.at_ h = some p := Option.isSome_iff_exists.1 hok
    have hst := slbSet_v s hs h x c hat { s.get_ h with hd := (s.get_ h).hd + b } ⟨x1, x2, x3⟩
    generalize s.set_ h { s.get_ h with hd := (s.get_ h).hd + b } = s2 at *
    generalize s.get_ h = n at *
    simp only [Slb.sx, SN.av] at hg
    simp only [Slb.bx, SN.av] at hst
    simp only [Slb.sx]
    refine mE Tryz.func56 ?_; intro N w0 a w hN hR H
    have hX := And.intro @x1 (And.intro @x2 (@x3))
    refine mW ?_; clear H; intro a w H
    refine mCall [0, 1, 2, 3] [] (hg) H ?_; clear H; intro a w H; try refine wpList_nil ?_
    refine mW ?_; clear H; intro a w H
    refine mC H (fun hb => ?_) (fun hb => ?_)
    · clear hb
      refine mW ?_; clear H; intro a w H
      refine mS ?_; refine mD 0 [6] [] H ?_; clear H; intro gS H
      refine mT ?_; clear H; intro a w H
      refine mCallT [1, 2, 3] [] (hst) H ?_; clear H; intro a w H
      refine mT ?_; clear H; intro a w H
      refine v_drawNil H ?_; clear H; intro H
      refine mW ?_; clear H; intro a w H
      exact mEnd [0, 1, 2, 3] [] [] [] hN hR H
    exact absurd hb (by decide)
def leafN (k v : List UInt8) (hd : Int) : SN := ⟨leafH k (valH v), 1, -1, k, v, valH v, 0, 0, 1, hd⟩
set_option maxRecDepth 20000 in
set_option maxHeartbeats 4000000 in
theorem stoLeaf_v (s : Slb) (hs : s.wf) (hm : s.m = 0) (hu : s.used < s.room) (hl : s.sl.length < 65536) (k v : List UInt8) (hk : k.length = 32) (hv : v.length ≤ 1024) :
    VX Tryz.prog 34 s.sx [] [] [.ptr 0 [], .ba k, .bs v none] (s.push (leafN k v 1)).sx [] [] (.tup [.v (.int .i64 ((s.sl.length : Int) + 1)), errv 0]) := by
  have hn := stoNone_v s.γ s.δ s.sl.length s.m s.room s.used (s.sl.map slA) (s.fs.map inA)
  have hlf := leaf_v k (valH v) hk (valH_len v)
  have hval := value_v v (by omega)
  have hvl := valH_len v
  have hll := leafH_len k (valH v)
  have hp := slbPush_v s hs hm hu (leafN k v 1) ⟨hll, hk, hvl⟩ hl
  have d1 : decide ((1024 : Int) < (v.length : Int)) = false := decide_eq_false (by omega)
  generalize s.push (leafN k v 1) = s2 at *
  simp only [Slb.bx, SN.av, leafN] at hp
  simp only [Slb.sx]
  generalize s.sl.map slA = es at *
  generalize s.fs.map inA = fs at *
  generalize leafH k (valH v) = lh at *
  generalize valH v = vh at *
  refine mE Tryz.func34 ?_; intro N w0 a w hN hR H
  have hX := And.intro @hk (And.intro @hvl (And.intro @hll (@d1)))
  refine mW ?_; clear H; intro a w H
  refine mCall [0, 1, 2, 3] [] (hn) H ?_; clear H; intro a w H; try refine wpList_nil ?_
  refine mW ?_; clear H; intro a w H
  refine mC H (fun hb => ?_) (fun hb => ?_)
  · exact absurd hb (by decide)
  clear hb
  refine mW ?_; clear H; intro a w H
  refine mC H (fun hb => ?_) (fun hb => ?_)
  · exact absurd hb (by decide)
  clear hb
  refine mW ?_; clear H; intro a w H
  refine mCall [] [] (hval) H ?_; clear H; intro a w H; try refine wpList_nil ?_
  refine mW ?_; clear H; intro a w H
  replace H := v_ref H 4 4 (Nat.le_trans hN (Nat.le_of_ble_eq_true rfl)) rfl rfl rfl
  simp only [nilT, strip, List.map_cons, List.map_nil, reduceIte, Nat.reduceEqDiff] at H
  replace H := v_ref H 8 5 (Nat.le_trans hN (Nat.le_of_ble_eq_true rfl)) rfl rfl rfl
  simp only [nilT, strip, List.map_cons, List.map_nil, reduceIte, Nat.reduceEqDiff] at H
  repeat (first | refine wp_seq ?_ | refine wp_block ?_)
  refine v_drawZ 0 [0, 1, 2, 4, 5, 8, 9, 10, 3, 6, 7, 11, 12, 13, 14, 15, 16] [3, 6, 12] [0, 1, 2, 4, 5, 7, 8, 9, 10, 11] [(3, 6)] (by kernel_rfl) (by kernel_rfl) (by kernel_rfl) (by kernel_rfl) (by kernel_rfl) H (by rfl) ?_; clear H; intro gS H; try replace H := ntf H
  repeat' ((first | refine wpZ_q1 rfl rfl ?_ | refine wpZ_l1 rfl rfl rfl ?_ | refine wpZ_l2 rfl rfl rfl rfl rfl ?_ ?_ | refine wpZ_l3 rfl rfl rfl rfl rfl rfl rfl ?_ ?_ ?_ | refine wpZ_l4 rfl rfl rfl rfl rfl rfl rfl rfl rfl ?_ ?_ ?_ ?_) <;> ((first | (refine wpT_at 6 ?_; refine mCallT [] [] (hlf) H ?_; clear H; intro a w H) | (refine wpT_at 12 ?_; refine mCallT [1, 2, 3] [] (hp) H ?_; clear H; intro a w H) | (refine v_someT 1 tab_ok hN H rfl ctX ?_; clear H; intro a w H; replace H := ntf H; simp only [drL])); refine wpT_nil ?_; try dsimp only))
  all_goals (refine wpZ_nil ?_; replace H := RelT.toRel H)
  all_goals
    refine mW ?_; clear H; intro a w H
    refine wp_ret ?_; exact mEnd [0, 1, 2, 3] [] [.tmp 6, .tmp 7] [_, _] hN hR H
def fitB (n : SN) (d : Int) (b : Int) : Bool := !(decide (n.k = 2) && decide (n.d ≠ d + 1)) && decide (pbit n.key d = b)
set_option maxRecDepth 20000 in
theorem stoFit_v (n : SN) (hn : n.wf) (d : Int) (hd : 0 ≤ d ∧ d ≤ 255) (b : Int) : VC Tryz.prog 103 [n.av, .v (.int .i64 d), .v (.int .i64 b)] [] (.v (.bool (fitB n d b))) := by
  obtain ⟨x1, x2, x3⟩ := hn
  have hbit := bit_v n.key x2 d
  have k2 : decide ((n.k.toNat : Int) = 2) = decide (n.k = 2) := kz2 n.k 2 rfl
  unfold fitB
  simp only [SN.av]
  refine mE Tryz.func103 ?_; intro N w0 a w hN hR H
  refine mS ?_
  have hX := And.intro @x1 (And.intro @x2 (@x3))
  (try refine wp_region_lit ?_); refine mN 2 hN H ?_; clear H; intro a w H
  refine wpList_nil ?_
  refine mS ?_
  (try refine wp_region_lit ?_); refine mN 4 hN H ?_; clear H; intro a w H
  simp only [k2] at H
  refine mW ?_; clear H; intro a w H
  refine mC H (fun hb => ?_) (fun hb => ?_)
  · have e : (decide (n.k = 2) && decide (n.d ≠ d + 1)) = true := by
      by_cases hk : n.k = 2
      · rw [decide_eq_true hk] at hb ⊢; simpa using hb
      rw [decide_eq_false hk] at hb; cases hb
    rw [e]
    refine mW ?_; clear H; intro a w H
    refine wp_ret ?_; exact mEnd [] [] [.tmp 6] [_] hN hR H
  have e : (decide (n.k = 2) && decide (n.d ≠ d + 1)) = false := by
    by_cases hk : n.k = 2
    · rw [decide_eq_true hk] at hb ⊢; simpa using hb
    rw [decide_eq_false hk]; rfl
  rw [e]
  refine mW ?_; clear H; intro a w H
  refine mCall [] [] (hbit) H ?_; clear H; intro a w H; try refine wpList_nil ?_
  refine mW ?_; clear H; intro a w H
  refine wp_ret ?_; exact mEnd [] [] [.tmp 6] [_] hN hR H
def fitsB (d : Int) (lh rh : Int) (l r : SN) : Bool :=
  if lh = 0 ∧ rh = 0 then false else if lh = 0 then decide (r.k = 2) && fitB r d 1 else if rh = 0 then decide (l.k = 2) && fitB l d 0 else fitB l d 0 && (fitB r d 1 && decide (d ≤ (com l.key r.key : Int)))
set_option maxRecDepth 20000 in
set_option maxHeartbeats 4000000 in
theorem stoFits_v (l r : SN) (hl : l.wf) (hr : r.wf) (d : Int) (hd : 0 ≤ d ∧ d ≤ 255) (lh rh : Int) : VC Tryz.prog 71 [.v (.int .i64 d), .v (.int .i64 lh), .v (.int .i64 rh), l.av, r.av] [] (.v (.bool (fitsB d lh rh l r))) := by
  have f1 := stoFit_v l hl d hd 0
  have f2 := stoFit_v r hr d hd 1
  have hc := common_v l.key r.key hl.key hr.key
  obtain ⟨x1, x2, x3⟩ := hl
  obtain ⟨y1, y2, y3⟩ := hr
  have k2 : decide ((l.k.toNat : Int) = 2) = decide (l.k = 2) := kz2 l.k 2 rfl
  have k3 : decide ((r.k.toNat : Int) = 2) = decide (r.k = 2) := kz2 r.k 2 rfl
  unfold fitsB
  generalize fitB l d 0 = b1 at *
  generalize fitB r d 1 = b2 at *
  simp only [SN.av] at *
  by_cases h1 : lh = 0
  · subst h1
    by_cases h2 : rh = 0
    · subst h2
      rw [if_pos ⟨rfl, rfl⟩]
      refine mE Tryz.func71 ?_; intro N w0 a w hN hR H
      have hX := And.intro @x1 (And.intro @x2 (And.intro @x3 (And.intro @y1 (And.intro @y2 (@y3)))))
      refine mW ?_; clear H; intro a w H
      refine mC H (fun hb => ?_) (fun hb => ?_)
      · refine mW ?_; clear H; intro a w H
        refine wp_ret ?_; exact mEnd [] [] [.tmp 10] [_] hN hR H
      exact absurd hb (by decide)
    have d2 : decide (rh = 0) = false := decide_eq_false h2
    rw [if_neg (fun h => h2 h.2), if_pos rfl]
    refine mE Tryz.func71 ?_; intro N w0 a w hN hR H
    have hX := And.intro @x1 (And.intro @x2 (And.intro @x3 (And.intro @y1 (And.intro @y2 (And.intro @y3 (@d2))))))
    refine mW ?_; clear H; intro a w H
    refine mC H (fun hb => ?_) (fun hb => ?_)
    · exact absurd hb (by decide)
    clear hb
    refine mW ?_; clear H; intro a w H
    refine mC H (fun hb => ?_) (fun hb => ?_)
    · clear hb
      refine mS ?_
      (try refine wp_region_lit ?_); refine mN 4 hN H ?_; clear H; intro a w H
      simp only [k3] at H
      refine mW ?_; clear H; intro a w H
      refine mCallG [] [] (f2) H ?_; clear H; intro a w H; try refine wpList_nil ?_
      refine mW ?_; clear H; intro a w H
      rw [show (decide (r.k = 2) && b2) = (bif decide (r.k = 2) then b2 else false) by cases decide (r.k = 2) <;> rfl]
      refine wp_ret ?_; exact mEnd [] [] [.tmp 10] [_] hN hR H
    exact absurd hb (by decide)
  have d1 : decide (lh = 0) = false := decide_eq_false h1
  by_cases h2 : rh = 0
  · subst h2
    rw [if_neg (fun h => h1 h.1), if_neg h1, if_pos rfl]
    refine mE Tryz.func71 ?_; intro N w0 a w hN hR H
    have hX := And.intro @x1 (And.intro @x2 (And.intro @x3 (And.intro @y1 (And.intro @y2 (And.intro @y3 (@d1))))))
    refine mW ?_; clear H; intro a w H
    refine mC H (fun hb => ?_) (fun hb => ?_)
    · exact absurd hb (by decide)
    clear hb
    refine mW ?_; clear H; intro a w H
    refine mC H (fun hb => ?_) (fun hb => ?_)
    · exact absurd hb (by decide)
    clear hb
    refine mW ?_; clear H; intro a w H
    refine mC H (fun hb => ?_) (fun hb => ?_)
    · clear hb
      refine mS ?_
      (try refine wp_region_lit ?_); refine mN 4 hN H ?_; clear H; intro a w H
      simp only [k2] at H
      refine mW ?_; clear H; intro a w H
      refine mCallG [] [] (f1) H ?_; clear H; intro a w H; try refine wpList_nil ?_
      refine mW ?_; clear H; intro a w H
      rw [show (decide (l.k = 2) && b1) = (bif decide (l.k = 2) then b1 else false) by cases decide (l.k = 2) <;> rfl]
      refine wp_ret ?_; exact mEnd [] [] [.tmp 10] [_] hN hR H
    exact absurd hb (by decide)
  have d2 : decide (rh = 0) = false := decide_eq_false h2
  rw [if_neg (fun h => h1 h.1), if_neg h1, if_neg h2]
  refine mE Tryz.func71 ?_; intro N w0 a w hN hR H
  have hX := And.intro @x1 (And.intro @x2 (And.intro @x3 (And.intro @y1 (And.intro @y2 (And.intro @y3 (And.intro @d1 (@d2)))))))
  refine mW ?_; clear H; intro a w H
  refine mC H (fun hb => ?_) (fun hb => ?_)
  · exact absurd hb (by decide)
  clear hb
  refine mW ?_; clear H; intro a w H
  refine mC H (fun hb => ?_) (fun hb => ?_)
  · exact absurd hb (by decide)
  clear hb
  refine mW ?_; clear H; intro a w H
  refine mC H (fun hb => ?_) (fun hb => ?_)
  · exact absurd hb (by decide)
  clear hb
  refine mW ?_; clear H; intro a w H
  refine mCall [] [] (f1) H ?_; clear H; intro a w H; try refine wpList_nil ?_
  refine mW ?_; clear H; intro a w H
  refine mCallG [] [] (f2) H ?_; clear H; intro a w H; try refine wpList_nil ?_
  refine mW ?_; clear H; intro a w H
  refine mCallG [] [] (hc) H ?_; clear H; intro a w H; try refine wpList_nil ?_
  refine mW ?_; clear H; intro a w H
  rw [show (b1 && (b2 && decide (d ≤ (com l.key r.key : Int)))) = (bif (bif b1 then b2 else false) then decide (d ≤ (com l.key r.key : Int)) else false) by cases b1 <;> cases b2 <;> rfl]
  refine wp_ret ?_; exact mEnd [] [] [.tmp 10] [_] hN hR H
attribute [local irreducible] wpT
abbrev SV := Option Addr × Nat × Nat
abbrev SV.v (x : SV) : Value := .slice x.1 x.2.1 x.2.2
abbrev ARow := SV × List UInt8 × List UInt8 × TypeId
structure Apart (w : World) (base : Nat) (L : List ARow) : Prop where
  own : ∀ i (hi : i < L.length), Own (byteT L[i].2.2.2) w base L[i].1.v L[i].2.1 L[i].2.2.1
  ne : ∀ i j (hi : i < L.length) (hj : j < L.length), i ≠ j → L[i].1.v.ownBlock = none ∨ L[i].1.v.ownBlock ≠ L[j].1.v.ownBlock
theorem Apart.below {w w' : World} {base : Nat} {L : List ARow} (h : Apart w base L) (hb : Below w.heap.size w w') : Apart w' base L :=
  ⟨fun i hi => (h.own i hi).belowSize hb, h.ne⟩
end Go.Proofs.YtgffimanhmpohaaGreat
namespace Go.Proofs.YtgffimanhmpohaaGreat
open Go Go.RowKit
section
variable {P : Program} {τ : Tab} {w0 w : World} {N : Gh} {g gS : Gh} {st st' sq sq' : St} {nt : Nat} {a : Act}
theorem zero_u8 : zeroOf Tryz.prog 5 = [.int .u8 0] := by kernel_rfl
theorem flat_z (m : Nat) : (List.replicate m [Value.int .u8 0]).flatten = (List.replicate m (0 : UInt8)).map B8 := by
  induction m with
  | zero => rfl
  | succ m ih => rw [List.replicate_succ, List.flatten_cons, ih, List.replicate_succ]; rfl
end
structure XR where
  A : Option Nat
  n : Nat
  c : Nat
  tid : TypeId
  cells : List Value
  k : Nat
def XR.v (x : XR) : Value := .slice (x.A.map fun b => ⟨b, 0, none⟩) x.n x.c
theorem XR.own (x : XR) : x.v.ownBlock = x.A := by unfold XR.v; cases x.A <;> rfl
structure XOk (lo : Nat) (g : Gh) (w : World) (x : XR) : Prop where
  le : x.n ≤ x.c ∧ x.c ≤ maxLen
  nil : x.A = none → x.c = 0
  own : ∀ b, x.A = some b → ¬ g.has b ∧ lo ≤ b ∧ Blk w b x.tid x.cells.toArray ∧ ∀ o u, o < x.k → x.cells[o]? = some u → g.ro b o = some u
theorem XOk.lt {lo : Nat} {g : Gh} {w : World} {x : XR} (h : XOk lo g w x) {b : Nat} (hb : x.A = some b) : b < w.heap.size := (h.own b hb).2.2.1.lt
def XApart (X : List XR) : Prop := X.Pairwise fun x y => x.A = none ∨ x.A ≠ y.A
structure Xs (lo : Nat) (g : Gh) (w : World) (X : List XR) : Prop where
  ok : ∀ x ∈ X, XOk lo g w x
  un : XApart X
structure FrX (lo : Nat) (w0 : World) (N g : Gh) (w : World) : Prop where
  os : w.os = w0.os
  tape : w.tape = w0.tape
  output : w.output = w0.output
  size : w0.heap.size ≤ w.heap.size
  block : ∀ k, k < w0.heap.size → k < lo → ¬ N.has k → w.heap[k]? = w0.heap[k]?
  bx : ∀ (i : Nat) (x : Bx), g.bx[i]? = some x → x.off = false → w0.heap.size ≤ x.blk ∨ ∃ y, N.bx[i]? = some y ∧ y.off = false ∧ y.blk = x.blk
  rw : ∀ (i : Nat) (r : Rw) (k : Nat), g.rw[i]? = some r → r.v.ownBlock = some k → w0.heap.size ≤ k ∨ ∃ s, N.rw[i]? = some s ∧ s.v.ownBlock = some k
  ro : ∀ b, b < w0.heap.size → b < lo → ¬ N.has b → ∀ o, g.ro b o = N.ro b o
  le : N.le g
section
variable {P : Program} {τ : Tab} {w0 w w1 w2 : World} {N N1 N2 : Gh} {g g1 gS : Gh} {st st' sq sq' : St} {nt : Nat} {a : Act} {lo : Nat} {X Y : List XR}
theorem FrX.of (h : Fr w0 N g w) (lo : Nat) : FrX lo w0 N g w := ⟨h.kept.os, h.kept.tape, h.kept.output, h.kept.size, fun k hk _ hn => h.kept.block k hk hn, h.bx, h.rw, fun b hb _ hn => h.ro b hb hn, h.le⟩
theorem FrX.fr (h : FrX lo w0 N g w) (hlo : w0.heap.size ≤ lo) : Fr w0 N g w := ⟨⟨h.os, h.tape, h.output, h.size, fun k hk hn => h.block k hk (by omega) hn⟩, h.bx, h.rw, fun b hb hn => h.ro b hb (by omega) hn, h.le⟩
theorem FrX.back (h : FrX lo w0 N g w) {b : Nat} (hb : b < w0.heap.size) (hh : g.has b) : N.has b := by
  rcases hh with ⟨y, hy, hyo, he⟩ | ⟨s, hr, he⟩
  · obtain ⟨i, hi⟩ := List.getElem?_of_mem hy
    rcases h.bx i y hi hyo with h3 | ⟨z, h3, h4, h5⟩
    · omega
    exact .inl ⟨z, List.mem_of_getElem? h3, h4, h5.trans he⟩
  obtain ⟨i, hi⟩ := List.getElem?_of_mem hr
  rcases h.rw i s b hi he with h3 | ⟨z, h3, h4⟩
  · omega
  exact .inr ⟨z, List.mem_of_getElem? h3, h4⟩
theorem FrX.trans (h : FrX lo w0 N N1 w1) (k : FrX lo w1 N1 g w) : FrX lo w0 N g w := by
  have hs := h.size
  refine ⟨k.os.trans h.os, k.tape.trans h.tape, k.output.trans h.output, Nat.le_trans h.size k.size, fun b hb hl hn => (k.block b (by omega) hl (fun hh => hn (h.back hb hh))).trans (h.block b hb hl hn), fun i x hx hxo => ?_, fun i r b hr hrb => ?_, fun b hb hl hn o => (k.ro b (by omega) hl (fun hh => hn (h.back hb hh)) o).trans (h.ro b hb hl hn o), h.le.trans k.le⟩
  · rcases k.bx i x hx hxo with h1 | ⟨y, h1, h2, h3⟩
    · exact .inl (by omega)
    rw [← h3]; exact h.bx i y h1 h2
  rcases k.rw i r b hr hrb with h1 | ⟨s, h1, h2⟩
  · exact .inl (by omega)
  exact h.rw i s b h1 h2
theorem Inv.self {bx : List (Ty × AV)} {fz : List Nat} {rw : List (TypeId × Nat)} (HI : Inv P w0 N g bx fz rw w) : Inv P w g g bx fz rw w :=
  ⟨HI.mem, ⟨Kept.refl _ _, fun i x hx hxo => .inr ⟨x, hx, hxo, rfl⟩, fun i r k hr hrk => .inr ⟨r, hr, hrk⟩, fun _ _ _ _ => rfl, Gh.le.refl _⟩, HI.br, HI.fz, HI.wr, HI.wz⟩
theorem XOk.step {x : XR} (h : XOk lo N1 w1 x) {bx : List (Ty × AV)} {fz : List Nat} {rw : List (TypeId × Nat)} (HI : Inv P w1 N1 g bx fz rw w) : XOk lo g w x := by
  have hB := FrX.of HI.fr w1.heap.size
  refine ⟨h.le, h.nil, fun b hb => ?_⟩
  obtain ⟨h1, h2, h3, h4⟩ := h.own b hb
  exact ⟨fun hh => h1 (hB.back h3.lt hh), h2, h3.kept HI.fr.kept h1, fun o u ho hu => HI.fr.le.ro _ _ _ (h4 o u ho hu)⟩
theorem Xs.step (h : Xs lo N1 w1 X) {bx : List (Ty × AV)} {fz : List Nat} {rw : List (TypeId × Nat)} (HI : Inv P w1 N1 g bx fz rw w) : Xs lo g w X := ⟨fun x hx => (h.ok x hx).step HI, h.un⟩
def RelX (lo : Nat) (P : Program) (w0 : World) (N : Gh) (nt : Nat) (st : St) (X : List XR) (a : Act) (w : World) : Prop :=
  ∃ g, Inv P w g g st.bx st.fz st.rw w ∧ FrX lo w0 N g w ∧ FR g nt st a ∧ Xs lo g w X
theorem Rel.toX (H : Rel P w0 N nt st a w) (lo : Nat) : RelX lo P w0 N nt st [] a w := by
  obtain ⟨g, HI, hF⟩ := H
  exact ⟨g, HI.self, .of HI.fr lo, hF, ⟨fun x hx => (by cases hx), List.Pairwise.nil⟩⟩
theorem RelX.open_ (H : RelX lo P w0 N nt st X a w) : ∃ N1, FrX lo w0 N N1 w ∧ Xs lo N1 w X ∧ Rel P w N1 nt st a w ∧ N1.bx.length = st.bx.length ∧ N1.rw.length = st.rw.length := by
  obtain ⟨g, HI, hB, hF, hX⟩ := H
  exact ⟨g, hB, hX, ⟨g, HI, hF⟩, HI.br.len, by rw [← HI.wr, List.length_map]⟩
theorem RelX.close (hB : FrX lo w0 N N1 w1) (hX : Xs lo N1 w1 X) (H : Rel P w1 N1 nt st a w) : RelX lo P w0 N nt st X a w := by
  obtain ⟨g, HI, hF⟩ := H
  exact ⟨g, HI.self, hB.trans (.of HI.fr lo), hF, hX.step HI⟩
theorem v_pub0 (HI : Inv P w g g st.bx st.fz st.rw w) (hB : FrX lo w0 N g w) (hF : FR g nt st a) (hX : Xs lo g w X) (hlo : lo ≤ w0.heap.size) (ks : List Nat) (d k e : Nat) {l : List UInt8} (hk : st.rw.length = k + 1) (hNk : N.rw.length ≤ k) (hd : find d st.t = some (none, .bs l (some k))) (hrow : st.rw[k]? = some (e, l.length))
    (h1 : keepT ks st.bx.length k st.t = true) (h2 : (st.bx.take st.bx.length).all (fun x => low st.bx.length k 4 x.2) = true) :
    ∃ x : XR, (x.n = l.length ∧ x.tid = e ∧ x.k = l.length ∧ ∃ m, x.c = l.length + m ∧ x.cells = l.map B8 ++ (List.replicate m (zeroOf P e)).flatten) ∧ Inv P w (g.cut st.bx.length k) (g.cut st.bx.length k) (st.bx.take st.bx.length) (st.fz) (st.rw.take k) w ∧ FrX lo w0 N (g.cut st.bx.length k) w ∧ FR (g.cut st.bx.length k) nt ⟨(d, none, .v x.v) :: st.t.filter (fun p => ks.contains p.1), st.bx.take st.bx.length, st.fz, st.rw.take k⟩ a ∧ Xs lo (g.cut st.bx.length k) w (X ++ [x]) := by
  have hgl : g.rw.length = k + 1 := by rw [← hk, ← HI.wr, List.length_map]
  have hbs := (hF.t _ (find_mem hd) trivial).bs_inv
  have hv0 : a.tmps.getD d undef = a.tmps.getD d undef := rfl
  generalize hvd : a.tmps.getD d undef = vd at hbs
  cases hbs with
  | @bs _ _ _ A c hc hm hr ht =>
    obtain ⟨r, hrk, _, h3⟩ := ht k rfl
    have hw : (r.tid, r.n) = (e, l.length) := by
      have := HI.wr
      rw [← this, List.getElem?_map, hrk] at hrow
      injection hrow
    simp only [Prod.mk.injEq] at hw
    obtain ⟨hv, hcx⟩ := h3 hw.2
    have hcut := HI.loose.cut (nb := st.bx.length) (nr := k) (Nat.zero_le _) (Nat.zero_le _) h2
    have hbx : ∀ {i : Nat} {x : Bx}, (g.cut st.bx.length k).bx[i]? = some x → g.bx[i]? = some x := fun {i x} hx => by
      have : (g.bx.take st.bx.length)[i]? = some x := hx
      rw [List.getElem?_take] at this; split at this; exact this; cases this
    have hrw : ∀ {i : Nat} {x : Rw}, (g.cut st.bx.length k).rw[i]? = some x → i < k ∧ g.rw[i]? = some x := fun {i x} hx => by
      have : (g.rw.take k)[i]? = some x := hx
      rw [List.getElem?_take] at this; split at this; exact ⟨by assumption, this⟩; cases this
    have hhas : ∀ b, (g.cut st.bx.length k).has b → g.has b := fun b hh => by
      rcases hh with ⟨y, hy, h⟩ | ⟨s, hs, h⟩
      · exact .inl ⟨y, List.mem_of_mem_take hy, h⟩
      exact .inr ⟨s, List.mem_of_mem_take hs, h⟩
    have hrow1 := HI.mem.rw k r hrk
    have hz := (HI.wz r (List.mem_of_getElem? hrk)).2
    have hxv : (⟨r.v.ownBlock, r.n, c, r.tid, r.cx ++ noughts r, l.length⟩ : XR).v = r.v := by
      rcases hrow1.at_ with ⟨q1, q2, q3⟩ | ⟨b, q1, q2, q3⟩
      · rw [q1] at hv; injection hv with _ hv1 hv2
        unfold XR.v; rw [q1, q2, ← hv2]; rfl
      rw [q1] at hv; injection hv with _ hv1 hv2
      unfold XR.v; rw [q1, ← hv2]; rfl
    refine ⟨⟨r.v.ownBlock, r.n, c, r.tid, r.cx ++ noughts r, l.length⟩, ⟨hw.2, hw.1, rfl, r.m, by
      show c = l.length + r.m
      rcases hrow1.at_ with ⟨q1, q2, q3⟩ | ⟨b, q1, q2, q3⟩
      · rw [q1] at hv; injection hv with _ hv1 hv2; omega
      rw [q1] at hv; injection hv with _ hv1 hv2; omega, by rw [hcx]; unfold noughts; rw [hz, hw.1]⟩, hcut.self, ⟨hB.os, hB.tape, hB.output, hB.size, hB.block, fun i x hx => hB.bx i x (hbx hx), fun i s b hs => hB.rw i s b (hrw hs).2, hB.ro, hB.le.ro, fun i x hx => ?_, fun i s hs => ?_⟩, ⟨hF.sz, hF.df, fun p hp hg => ?_, fun p hp hg => ?_⟩, ⟨fun x hx => ?_, ?_⟩⟩
    · obtain ⟨x', q1, q2⟩ := hB.le.bx i x hx
      refine ⟨x', ?_, q2⟩
      show (g.bx.take st.bx.length)[i]? = _
      rw [List.getElem?_take, if_pos (by rw [← HI.br.len]; exact (List.getElem?_eq_some_iff.1 q1).1)]; exact q1
    · obtain ⟨x', q1, q2⟩ := hB.le.rw i s hs
      refine ⟨x', ?_, q2⟩
      show (g.rw.take k)[i]? = _
      rw [List.getElem?_take, if_pos (Nat.lt_of_lt_of_le (List.getElem?_eq_some_iff.1 hs).1 hNk)]; exact q1
    · rcases List.mem_cons.1 hp with rfl | hp
      · show RV _ (.v _) (a.tmps.getD d undef)
        rw [hvd, hxv, hv]; exact RV.v_of rfl
      simp only [List.mem_filter] at hp
      simp only [keepT, List.all_eq_true, Bool.or_eq_true, Bool.not_eq_true'] at h1
      have hl : low st.bx.length k 4 p.2.2 = true := by
        rcases h1 p hp.1 with h | h
        · rw [h] at hp; cases hp.2
        exact h
      exact (hF.t p hp.1 hg).low_ (d := 3) hl
    · rcases List.mem_cons.1 hp with rfl | hp
      · exact absurd trivial hg
      simp only [List.mem_filter] at hp; exact hF.u p hp.1 hg
    · rcases List.mem_append.1 hx with hx | hx
      · have h := hX.ok x hx
        exact ⟨h.le, h.nil, fun b hb => ⟨fun hh => (h.own b hb).1 (hhas b hh), (h.own b hb).2⟩⟩
      simp only [List.mem_singleton] at hx
      subst hx
      refine ⟨⟨by show r.n ≤ c; rw [hw.2]; exact hc, hm⟩, fun hA => ?_, fun b hb => ⟨fun hh => ?_, ?_, ?_, fun o u ho hu => ?_⟩⟩
      · show c = 0
        rcases hrow1.at_ with ⟨q1, _⟩ | ⟨b, q1, _⟩
        · rw [q1] at hv; injection hv with _ _ hv2; exact hv2.symm
        have : r.v.ownBlock = none := hA
        rw [q1] at this; cases this
      · rcases hh with ⟨y, hy, hyo, he⟩ | ⟨s, hs, he⟩
        · obtain ⟨i, hi⟩ := List.getElem?_of_mem hy
          exact HI.mem.rb i k y r (hbx hi) hrk hyo (by rw [he]; exact hb)
        obtain ⟨i, hi⟩ := List.getElem?_of_mem hs
        have := HI.mem.rr i k s r b (hrw hi).2 hrk he hb
        have := (hrw hi).1
        omega
      · rcases hB.rw k r b hrk hb with h | ⟨s, h, _⟩
        · omega
        have := (List.getElem?_eq_some_iff.1 h).1; omega
      · have hb : r.v.ownBlock = some b := hb
        rcases hrow1.at_ with ⟨q1, _⟩ | ⟨b', q1, q2, _⟩
        · rw [q1] at hb; cases hb
        rw [q1] at hb; injection hb with hb; subst hb; exact q2
      refine HI.mem.rwo k r b hrk hb o u ?_
      have hu : (r.cx ++ noughts r)[o]? = some u := hu
      rwa [List.getElem?_append_left (by rw [hcx, List.length_map]; exact ho)] at hu
    unfold XApart
    rw [List.pairwise_append]
    refine ⟨hX.un, List.pairwise_singleton _ _, fun x hx y hy => ?_⟩
    simp only [List.mem_singleton] at hy
    subst hy
    cases hb : x.A with
    | none => exact .inl rfl
    | some b =>
      refine .inr fun e => ?_
      have hn := ((hX.ok x hx).own b hb).1
      exact hn (.inr ⟨r, List.mem_of_getElem? hrk, e.symm⟩)
theorem v_pubC0 (HI : Inv P w g g st.bx st.fz st.rw w) (hB : FrX lo w0 N g w) (hF : FR g nt st a) (hX : Xs lo g w X) (hlo : lo ≤ w0.heap.size) (ks : List Nat) (d i : Nat) {full : List UInt8} {n m : Nat} {l' : List UInt8} (hi : st.bx.length = i + 1) (hNi : N.bx.length ≤ i) (hd : find d st.t = some (none, .bc full n (some i))) (hbx0 : st.bx[i]? = some (.ba m, .ba l'))
    (h1 : keepT ks i st.rw.length st.t = true) (h2 : (st.bx.take i).all (fun x => low i st.rw.length 4 x.2) = true) :
    ∃ x : XR, (x.n = n ∧ x.c = full.length ∧ x.k = full.length ∧ x.cells = full.map B8) ∧ Inv P w (g.cut i st.rw.length) (g.cut i st.rw.length) (st.bx.take i) (st.fz.filter (fun j => decide (j < i))) (st.rw.take st.rw.length) w ∧ FrX lo w0 N (g.cut i st.rw.length) w ∧ FR (g.cut i st.rw.length) nt ⟨(d, none, .v x.v) :: st.t.filter (fun p => ks.contains p.1), st.bx.take i, st.fz.filter (fun j => decide (j < i)), st.rw.take st.rw.length⟩ a ∧ Xs lo (g.cut i st.rw.length) w (X ++ [x]) := by
  have hbl : g.bx.length = i + 1 := by rw [← hi]; exact HI.br.len
  have hrl : g.rw.length = st.rw.length := by rw [← HI.wr, List.length_map]
  have hbs := (hF.t _ (find_mem hd) trivial).bc_inv
  generalize hvd : a.tmps.getD d undef = vd at hbs
  cases hbs with
  | bc hn hm hr ht =>
    rename_i A
    obtain ⟨y, hy, hA, hty⟩ := ht i rfl
    obtain ⟨y', hy', hT, hrc⟩ := HI.br.at_ i _ _ hbx0
    rw [hy] at hy'; injection hy' with hy'; subst hy'
    rw [hty] at hT; injection hT with hT
    obtain ⟨hyo, hym, hrc⟩ := hrc.rc rfl
    have hblk := (HI.mem.bx i y hy hyo).c hym
    have hcells : y.cells = l'.map B8 ∧ l'.length = m := by
      generalize hcs : y.cells = cs at hrc
      cases hrc with
      | ba h => exact ⟨rfl, h⟩
    have hll : l'.length = full.length := by rw [hcells.2, hT]
    have hfl : l' = full := by
      apply List.ext_getElem hll
      intro j hj1 hj2
      rcases hr with h | ⟨b, o, hb, hj⟩
      · subst h; simp at hj2
      rw [hA] at hb
      injection hb with hb
      injection hb with hb1 hb2
      have h5 := HI.mem.ro _ _ _ (hj j hj2)
      rw [← hb1, ← hb2, Nat.zero_add, hblk.cell, hcells.1] at h5
      simp only [List.getElem?_toArray, List.getElem?_map, List.getElem?_eq_getElem hj1, Option.map_some, Option.some.injEq] at h5
      have h6 : B8 l'[j] = B8 full[j] := h5
      simp only [B8, Value.int.injEq, true_and] at h6
      exact UInt8.toNat_inj.1 (by omega)
    subst hfl
    have hcut := HI.loose.cut (nb := i) (nr := st.rw.length) (Nat.zero_le _) (Nat.zero_le _) h2
    have hbx : ∀ {j : Nat} {x : Bx}, (g.cut i st.rw.length).bx[j]? = some x → j < i ∧ g.bx[j]? = some x := fun {j x} hx => by
      have : (g.bx.take i)[j]? = some x := hx
      rw [List.getElem?_take] at this; split at this; exact ⟨by assumption, this⟩; cases this
    have hrw : ∀ {j : Nat} {x : Rw}, (g.cut i st.rw.length).rw[j]? = some x → g.rw[j]? = some x := fun {j x} hx => by
      have : (g.rw.take st.rw.length)[j]? = some x := hx
      rw [List.getElem?_take] at this; split at this; exact this; cases this
    have hhas : ∀ b, (g.cut i st.rw.length).has b → g.has b := fun b hh => by
      rcases hh with ⟨y, hy, h⟩ | ⟨s, hs, h⟩
      · exact .inl ⟨y, List.mem_of_mem_take hy, h⟩
      exact .inr ⟨s, List.mem_of_mem_take hs, h⟩
    have hself := hcut.self
    refine ⟨⟨some y.blk, n, l'.length, y.tid, l'.map B8, l'.length⟩, ⟨rfl, rfl, rfl, rfl⟩, ⟨hself.mem, hself.fr, hself.br, fun j x hx hf => ?_, hself.wr, hself.wz⟩, ⟨hB.os, hB.tape, hB.output, hB.size, hB.block, fun j x hx => hB.bx j x (hbx hx).2, fun j s b hs => hB.rw j s b (hrw hs), hB.ro, hB.le.ro, fun j x hx => ?_, fun j s hs => ?_⟩, ⟨hF.sz, hF.df, fun p hp hg => ?_, fun p hp hg => ?_⟩, ⟨fun x hx => ?_, ?_⟩⟩
    · exact List.mem_filter.2 ⟨HI.fz j x (hbx hx).2 hf, decide_eq_true (hbx hx).1⟩
    · obtain ⟨x', q1, q2⟩ := hB.le.bx j x hx
      refine ⟨x', ?_, q2⟩
      show (g.bx.take i)[j]? = _
      rw [List.getElem?_take, if_pos (Nat.lt_of_lt_of_le (List.getElem?_eq_some_iff.1 hx).1 hNi)]; exact q1
    · obtain ⟨x', q1, q2⟩ := hB.le.rw j s hs
      refine ⟨x', ?_, q2⟩
      show (g.rw.take st.rw.length)[j]? = _
      rw [List.getElem?_take, if_pos (by rw [← hrl]; exact (List.getElem?_eq_some_iff.1 q1).1)]; exact q1
    · rcases List.mem_cons.1 hp with rfl | hp
      · show RV _ (.v _) (a.tmps.getD d undef)
        rw [hvd, hA]; exact RV.v_of rfl
      simp only [List.mem_filter] at hp
      simp only [keepT, List.all_eq_true, Bool.or_eq_true, Bool.not_eq_true'] at h1
      have hl : low i st.rw.length 4 p.2.2 = true := by
        rcases h1 p hp.1 with h | h
        · rw [h] at hp; cases hp.2
        exact h
      exact (hF.t p hp.1 hg).low_ (d := 3) hl
    · rcases List.mem_cons.1 hp with rfl | hp
      · exact absurd trivial hg
      simp only [List.mem_filter] at hp; exact hF.u p hp.1 hg
    · rcases List.mem_append.1 hx with hx | hx
      · have h := hX.ok x hx
        exact ⟨h.le, h.nil, fun b hb => ⟨fun hh => (h.own b hb).1 (hhas b hh), (h.own b hb).2⟩⟩
      simp only [List.mem_singleton] at hx
      subst hx
      refine ⟨⟨hn, hm⟩, fun hA => (by cases hA), fun b hb => ?_⟩
      injection hb with hb
      subst hb
      refine ⟨fun hh => ?_, ?_, by rw [← hcells.1]; exact hblk, fun o u ho hu => ?_⟩
      · rcases hh with ⟨z, hz, hzo, he⟩ | ⟨s, hs, he⟩
        · obtain ⟨j, hj⟩ := List.getElem?_of_mem hz
          have := HI.mem.bb j i z y (hbx hj).2 hy hzo hyo he
          have := (hbx hj).1
          omega
        obtain ⟨j, hj⟩ := List.getElem?_of_mem hs
        exact HI.mem.rb i j y s hy (hrw hj) hyo he
      · rcases hB.bx i y hy hyo with h | ⟨s, h, _⟩
        · omega
        have := (List.getElem?_eq_some_iff.1 h).1; omega
      rcases hr with h | ⟨b, o', hb, hj⟩
      · subst h; simp at hu
      rw [hA] at hb
      injection hb with hb
      injection hb with hb1 hb2
      have hol : o < l'.length := ho
      have := hj o hol
      rw [← hb1, ← hb2, Nat.zero_add] at this
      have hu : (l'.map B8)[o]? = some u := hu
      rw [List.getElem?_map, List.getElem?_eq_getElem hol] at hu
      show g.ro y.blk o = some u
      rw [this]; exact hu
    unfold XApart
    rw [List.pairwise_append]
    refine ⟨hX.un, List.pairwise_singleton _ _, fun x hx z hz => ?_⟩
    simp only [List.mem_singleton] at hz
    subst hz
    cases hb : x.A with
    | none => exact .inl rfl
    | some b =>
      refine .inr fun e => ?_
      injection e with e
      exact ((hX.ok x hx).own b hb).1 (.inl ⟨y, List.mem_of_getElem? hy, hyo, e.symm⟩)
inductive SeeX (X : List XR) : AV → AV → Prop
  | refl (x : AV) : SeeX X x x
  | pub (x : XR) (l : List UInt8) (h : x ∈ X) (hk : l.length ≤ x.k) (hn : x.n = l.length) (hc : x.cells.take l.length = l.map B8) : SeeX X (.v x.v) (.bs l none)
  | pubc (x : XR) (full : List UInt8) (h : x ∈ X) (hk : full.length ≤ x.k) (hc : x.c = full.length) (hs : x.cells = full.map B8) : SeeX X (.v x.v) (.bc full x.n none)
  | bs (l : List UInt8) (tok : Option Nat) : SeeX X (.bs l tok) (.bs l none)
  | bc (full l : List UInt8) (n : Nat) (tok : Option Nat) (h : full.take n = l) : SeeX X (.bc full n tok) (.bs l none)
  | nil : SeeX X (.v (.slice none 0 0)) (.bs [] none)
  | st {fs fs' : List AV} (hl : fs.length = fs'.length) (h : ∀ i (h1 : i < fs.length) (h2 : i < fs'.length), SeeX X fs[i] fs'[i]) : SeeX X (.st fs) (.st fs')
  | sl {T : Ty} {es es' : List AV} {tok : Option Nat} (hl : es.length = es'.length) (h : ∀ i (h1 : i < es.length) (h2 : i < es'.length), SeeX X es[i] es'[i]) : SeeX X (.sl T es tok) (.sl T es' none)
  | slc {T : Ty} {es es' : List AV} {n : Nat} (hl : es.length = es'.length) (h : ∀ i (h1 : i < es.length) (h2 : i < es'.length), SeeX X es[i] es'[i]) : SeeX X (.slc T es n) (.slc T es' n)
theorem RC.seeX {x y : AV} (hX : Xs lo N w0 X) (hs : SeeX X x y) : ∀ {g : Gh} {T : Ty} {cs : List Value}, (∀ b o u, N.ro b o = some u → g.ro b o = some u) → RC g T x cs → RC g T y cs := by
  induction hs with
  | refl x => intro g T cs _ h; exact h
  | pub x l hx hk hn hc =>
    intro g T cs hro h
    obtain ⟨rfl, rfl⟩ := h.v_inv
    have ho := hX.ok x hx
    unfold XR.v
    rw [hn]
    refine .bs (by have := ho.le.1; omega) ho.le.2 ?_ fun i hi => by cases hi
    cases hA : x.A with
    | none => left; have := ho.nil hA; have := ho.le.1; exact List.length_eq_zero_iff.1 (by omega)
    | some b =>
      right
      refine ⟨b, 0, rfl, fun j hj => ?_⟩
      rw [Nat.zero_add]
      refine hro _ _ _ ((ho.own b hA).2.2.2 j _ (by omega) ?_)
      have : (x.cells.take l.length)[j]? = some (B8 l[j]) := by rw [hc, List.getElem?_map, List.getElem?_eq_getElem hj]; rfl
      rwa [List.getElem?_take, if_pos hj] at this
  | pubc x full hx hk hc hs =>
    intro g T cs hro h
    obtain ⟨rfl, rfl⟩ := h.v_inv
    have ho := hX.ok x hx
    unfold XR.v
    rw [hc]
    refine .bc (by have := ho.le.1; omega) (by have := ho.le.2; omega) ?_ fun i hi => by cases hi
    cases hA : x.A with
    | none => left; have := ho.nil hA; exact List.length_eq_zero_iff.1 (by omega)
    | some b =>
      right
      refine ⟨b, 0, rfl, fun j hj => ?_⟩
      rw [Nat.zero_add]
      refine hro _ _ _ ((ho.own b hA).2.2.2 j _ (by omega) ?_)
      rw [hs, List.getElem?_map, List.getElem?_eq_getElem hj]; rfl
  | bs l tok => intro g T cs _ h; cases h with | bs hc hm hr ht => exact .bs hc hm hr fun i hi => by cases hi
  | bc full l n tok hl =>
    intro g T cs _ h
    cases h with
    | bc hn hm hr ht =>
      rename_i A
      have hll : l.length = n := by rw [← hl, List.length_take]; omega
      rw [← hll]
      refine .bs (by omega) hm ?_ fun i hi => by cases hi
      rcases hr with h | ⟨b, o, hb, hj⟩
      · left; rw [← hl, h]; simp
      refine .inr ⟨b, o, hb, fun j hj2 => ?_⟩
      have := hj j (by omega)
      subst hl
      simpa using this
  | nil => intro g T cs _ h; obtain ⟨rfl, rfl⟩ := h.v_inv; exact RC.nil1 rfl
  | @st fs fs' hl hsub ih =>
    intro g T cs hro h
    induction T generalizing cs fs fs' with
    | cn T Ts _ ihs =>
      cases h with
      | cn h hs =>
        cases fs' with
        | nil => cases hl
        | cons b m =>
          refine .cn (ih 0 (by simp) (by simp) hro h) (ihs (by simpa using hl) (fun i h1 h2 => hsub (i + 1) (by simpa using h1) (by simpa using h2)) (fun i h1 h2 => ?_) hs)
          intro g T cs hro h
          exact ih (i + 1) (by simpa using h1) (by simpa using h2) hro (by simpa using h)
    | nl => cases h; cases fs' with | nil => exact .nl | cons _ _ => cases hl
    | _ => cases h
  | @sl T es es' tok hl _ ih =>
    intro g T2 cs hro h
    cases h with
    | @sl _ _ _ _ A c hc hm F hr hv ht =>
      rw [hl] at hc ⊢
      refine .sl hc hm F ?_ (fun k hk => ih k (by rw [hl]; exact hk) hk (fun b o u hu => hro b o u hu) (hv k (by rw [hl]; exact hk))) fun i hi => by cases hi
      rcases hr with h | ⟨b, o, hA, hj⟩
      · left; subst h; exact List.length_eq_zero_iff.1 hl.symm
      exact .inr ⟨b, o, hA, fun k hk => hj k (by rw [hl]; exact hk)⟩
  | @slc T es es' n hl _ ih =>
    intro g T2 cs hro h
    cases h with
    | @slc _ _ _ _ A hn hm F hr hv =>
      rw [hl] at hn hm ⊢
      refine .slc hn hm F ?_ (fun k hk => ih k (by rw [hl]; exact hk) hk (fun b o u hu => hro b o u hu) (hv k (by rw [hl]; exact hk)))
      rcases hr with h | ⟨b, o, hA, hj⟩
      · left; subst h; exact List.length_eq_zero_iff.1 hl.symm
      exact .inr ⟨b, o, hA, fun k hk => hj k (by rw [hl]; exact hk)⟩
theorem SeeX.not {x y : AV} (h : SeeX X x y) : (x = .any → y = .any) ∧ (∀ az, x = .tup az → y = .tup az) := by
  cases h <;> exact ⟨fun e => (by first | exact e | cases e), fun az e => (by first | exact e | cases e)⟩
theorem RV.seeX {x y : AV} (hX : Xs lo N w0 X) (hs : SeeX X x y) (hro : ∀ b o u, N.ro b o = some u → g.ro b o = some u) {v : Value} (h : RV g x v) : RV g y v := by
  by_cases h1 : x = .any
  · rw [hs.not.1 h1]; trivial
  by_cases h2 : ∃ az, x = .tup az
  · obtain ⟨az, h2⟩ := h2
    rw [hs.not.2 az h2]; rw [h2] at h; exact h
  have h3 : RV1 g x v := by
    cases x with
    | any => exact absurd rfl h1
    | tup az => exact absurd ⟨az, rfl⟩ h2
    | _ => exact h
  rcases h3 with ⟨T, cs, e1, e2, e3⟩ | h3
  · exact RV1.rv (.inl ⟨T, cs, e1, e2.seeX hX hs hro, e3⟩)
  exact RV1.rv (.inr (h3.seeX hX hs hro))
theorem v_seeX (hX : Xs lo N w0 X) (H : Rel P w0 N nt st a w) (d : Nat) {x : AV} (y : AV) (hs : SeeX X x y) (hd : find d st.t = some (none, x)) : Rel P w0 N nt ⟨nilT d y st.t, st.bx, st.fz, st.rw⟩ a w := by
  obtain ⟨g, HI, hF⟩ := H
  refine ⟨g, HI, hF.sz, hF.df, fun p hp hg => ?_, fun p hp hg => by rcases nilT_mem hp with h | h; (subst h; exact absurd trivial hg); exact hF.u p h hg⟩
  rcases nilT_mem hp with h | h
  · subst h; exact (hF.t _ (find_mem hd) trivial).seeX hX hs fun b o u hu => HI.fr.le.ro b o u hu
  exact hF.t p h hg
def PostX (P : Program) (w0 : World) (N : Gh) (R : List XR → List (Ty × AV) → List (TypeId × Nat) → AV → Prop) (e : Ending) (w' : World) : Prop :=
  ∃ X bx' rw' res g v, R X bx' rw' res ∧ e = .returned v ∧ Inv P w0 N g bx' [] rw' w' ∧ RV g res v ∧ Xs w0.heap.size g w' X
def VE (P : Program) (f : FuncId) (args : List AV) (R : List XR → List (Ty × AV) → List (TypeId × Nat) → AV → Prop) : Prop :=
  Fok P f ∧ ∀ (w : World) (N : Gh) (vs : List Value), Inv P w N N [] [] [] w → vs.length = args.length → (∀ (i : Nat) x v, args[i]? = some x → vs[i]? = some v → RV N x v) → Calls P f vs.toArray w (PostX P w N R)
theorem v_enterE {f : FuncId} {fn : Func} {c : Code} {args : List AV} {R : List XR → List (Ty × AV) → List (TypeId × Nat) → AV → Prop} (hf : P.funcs[f]? = some fn) (hb : fn.body = some c) (hnm : (fn.name == "runtime.NumGoroutine") = false) (hn : args.length ≤ fn.ntmps)
    (h : ∀ (N : Gh) (w0 : World) (a : Act) (w : World), N.bx.length ≤ 0 → N.rw.length ≤ 0 → Rel P w0 N fn.ntmps ⟨slots 0 args, [], [], []⟩ a w → c.wp P (bodyPost P fn (PostX P w0 N R)) a w) : VE P f args R := by
  refine ⟨⟨fn, hf, hnm, by rw [hb]; rfl⟩, ?_⟩
  intro w N vs hI hl hv
  refine calls_of_wp hf hb (h N w _ w (by rw [hI.br.len]; exact Nat.le_refl _) (by have := hI.wr; rw [List.map_eq_nil_iff] at this; rw [this]; exact Nat.le_refl _) ⟨N, hI, ?_, rfl, fun p hp _ => ?_, fun p hp hg => absurd (by obtain ⟨_, _, h2, _⟩ := slots_mem hp; rw [h2]; trivial) hg⟩)
  · simp only [Array.size_append, List.size_toArray, Array.size_replicate, hl]; omega
  obtain ⟨i, h1, h2, h3⟩ := slots_mem hp
  have hi : i < vs.length := by rw [hl]; exact (List.getElem?_eq_some_iff.1 h3).1
  have := hv i p.2.2 vs[i] h3 (List.getElem?_eq_getElem hi)
  rw [h1, Nat.zero_add]
  have e : (vs.toArray ++ Array.replicate (fn.ntmps - vs.toArray.size) undef).getD i undef = vs[i] := by
    rw [Array.getD_eq_getD_getElem?, Array.getElem?_append_left (by simpa using hi)]; simp [hi]
  exact e ▸ this
theorem v_endG {fn : Func} {rs : List ResultVar} {nb nr : Nat} (js ks : List Nat) (hτ : τ.ok P) (hM : N.bx.length ≤ nb ∧ N.rw.length ≤ nr) (hr : fn.results = rs.toArray) (HI : Inv P w0 N g st.bx st.fz st.rw w) (hF : FR g nt st a)
    (hchk : (okSel js st.bx.length && okSel ks st.rw.length && usesB js st.bx && preOk js nb && preOk ks nr && rs.all (fun x => argOk js (resv τ st x))) = true)
    {bx' : List (Ty × AV)} {fz' : List Nat} {rw' : List (TypeId × Nat)} {ress : List AV} {res : AV} (hf : fzOk js st.fz fz' 0 = true) (hb : bxs (pickB js ks st.bx) bx') (hw : ks.filterMap (st.rw[·]?) = rw')
    (he : allP (sub 4) (rs.map fun x => ren (idx? js) (idx? ks) 4 (resv τ st x)) ress) (ht : tupOf ress = res) :
    a.defers = [] ∧ ∃ v, (results fn a.tmps).run P w = .ok v w ∧ Inv P w0 N (g.pick js ks) bx' fz' rw' w ∧ RV (g.pick js ks) res v := by
  subst ht
  simp only [Bool.and_eq_true] at hchk
  obtain ⟨⟨⟨⟨⟨c1, c2⟩, c3⟩, c4⟩, c5⟩, c6⟩ := hchk
  obtain ⟨hj, nj⟩ := okSel_ok c1
  obtain ⟨hk, nk⟩ := okSel_ok c2
  have hlr : g.rw.length = st.rw.length := by rw [← HI.wr, List.length_map]
  have hj' : ∀ j ∈ js, j < g.bx.length := fun j hm => by rw [HI.br.len]; exact hj j hm
  have hk' : ∀ k ∈ ks, k < g.rw.length := fun k hm => by rw [hlr]; exact hk k hm
  have p1 := fun j hj => preOk_ok c4 j (Nat.lt_of_lt_of_le hj hM.1)
  have p2 := fun j hj => preOk_ok c5 j (Nat.lt_of_lt_of_le hj hM.2)
  have hfr : Fr w0 N (g.pick js ks) w := by
    refine ⟨HI.fr.kept, fun i x hx hxo => ?_, fun i r k hr hrk => ?_, HI.fr.ro, ⟨HI.fr.le.ro, fun i x hx => ?_, fun i r hr => ?_⟩⟩
    · have hx' : (js.filterMap (g.bx[·]?))[i]? = some x := hx
      rw [pick_get hj'] at hx'
      obtain ⟨j, h1, h2⟩ := Option.bind_eq_some_iff.1 hx'
      rcases HI.fr.bx j x h2 hxo with h3 | ⟨y, h3, h4⟩
      · exact .inl h3
      have := nodup_get nj h1 (p1 j (List.getElem?_eq_some_iff.1 h3).1); subst this
      exact .inr ⟨y, h3, h4⟩
    · have hx' : (ks.filterMap (g.rw[·]?))[i]? = some r := hr
      rw [pick_get hk'] at hx'
      obtain ⟨j, h1, h2⟩ := Option.bind_eq_some_iff.1 hx'
      rcases HI.fr.rw j r k h2 hrk with h3 | ⟨y, h3, h4⟩
      · exact .inl h3
      have := nodup_get nk h1 (p2 j (List.getElem?_eq_some_iff.1 h3).1); subst this
      exact .inr ⟨y, h3, h4⟩
    · obtain ⟨x', h1, h2⟩ := HI.fr.le.bx i x hx
      refine ⟨x', ?_, h2⟩
      show (js.filterMap (g.bx[·]?))[i]? = _
      rw [pick_get hj', p1 i (List.getElem?_eq_some_iff.1 hx).1]; exact h1
    obtain ⟨x', h1, h2⟩ := HI.fr.le.rw i r hr
    refine ⟨x', ?_, h2⟩
    show (ks.filterMap (g.rw[·]?))[i]? = _
    rw [pick_get hk', p2 i (List.getElem?_eq_some_iff.1 hr).1]; exact h1
  have HP : Inv P w0 N (g.pick js ks) bx' fz' rw' w := HI.pick js ks hj hk nj nk (usesB_ok c3) hb (fun i j hi hm => by simpa using fzOk_ok hf i j hi hm) hw hfr
  have key : ∀ (l : List ResultVar) (ress : List AV), l.all (fun x => argOk js (resv τ st x)) = true → allP (sub 4) (l.map fun x => ren (idx? js) (idx? ks) 4 (resv τ st x)) ress → ∃ vs : List Value, (l.mapM fun x : ResultVar => (match x with
      | .tmp t => pure (a.tmps.getD t undef)
      | .cell p t => (do loadVar t (← asAddr (a.tmps.getD p undef))) : Sem Value)).run P w = .ok vs w ∧ vs.length = l.length ∧ vs.length = ress.length ∧ ∀ (i : Nat) x v, ress[i]? = some x → vs[i]? = some v → RV1 (g.pick js ks) x v := by
    intro l
    induction l with
    | nil => intro ress _ he; cases ress with
      | nil => exact ⟨[], rfl, rfl, rfl, fun i x v h => by simp at h⟩
      | cons _ _ => exact he.elim
    | cons x l ih =>
      intro ress hp he
      cases ress with
      | nil => exact he.elim
      | cons y ress =>
      simp only [List.all_cons, Bool.and_eq_true] at hp
      obtain ⟨vs, h1, h2, h2', h3⟩ := ih ress hp.2 he.2
      have hc := hp.1
      simp only [argOk, Bool.and_eq_true, Bool.not_eq_true'] at hc
      obtain ⟨v, h4, h5⟩ := resv_sound (P := P) hτ HI hF x hc.1.2
      have ht : ∀ az, resv τ st x ≠ .tup az := fun az e => by rw [e] at hc; simp at hc
      have h6 := ((h5.pick_ (d := 3) hj' hk' hc.1.1).rv1 (ren_any hc.1.2) (ren_tup ht)).sub_ he.1
      refine ⟨v :: vs, ?_, by simp [h2], by simp [h2'], fun i z u hz hu => ?_⟩
      · rw [List.mapM_cons]
        cases x <;> (dsimp only at h4 ⊢; simp only [Sem.run_bind, h4, Result.andThen_ok, h1, Sem.run_pure])
      cases i with
      | zero =>
        simp only [List.getElem?_cons_zero, Option.some.injEq] at hz hu
        subst hz hu; exact h6
      | succ i => exact h3 i z u (by simpa using hz) (by simpa using hu)
  obtain ⟨vs, h1, h2, h2', h3⟩ := key rs ress c6 he
  have hres : (results fn a.tmps).run P w = .ok (if h : vs.length = 1 then vs[0] else .tuple vs.toArray) w := by
    have e : results fn a.tmps = (do
        let vs ← rs.toArray.mapM fun x : ResultVar => (match x with
          | .tmp t => pure (a.tmps.getD t undef)
          | .cell p t => (do loadVar t (← asAddr (a.tmps.getD p undef))) : Sem Value)
        pure (if h : vs.size = 1 then vs[0] else .tuple vs)) := by unfold results; rw [hr]; rfl
    rw [e]
    simp only [Sem.run_bind, Array.mapM_eq_mapM_toList, Sem.run_map]
    rw [h1]
    simp
  refine ⟨hF.df, _, hres, HP, ?_⟩
  by_cases hl : vs.length = 1
  · rw [dif_pos hl]
    obtain ⟨x, rfl⟩ : ∃ x, ress = [x] := by
      match ress, h2' with
      | [x], _ => exact ⟨x, rfl⟩
      | [], h => simp at h; rw [h] at hl; cases hl
      | x :: y :: l, h => simp at h; omega
    exact (h3 0 _ _ rfl (List.getElem?_eq_getElem (by omega))).rv
  rw [dif_neg hl]
  have htu : tupOf ress = .tup ress := by
    match ress, h2' with
    | [x], h => simp at h; exact absurd h hl
    | [], h => rfl
    | x :: y :: l, h => rfl
  rw [htu]
  exact ⟨vs, rfl, h2', fun i x u hx hu => h3 i x u hx hu⟩
theorem pick_has {js ks : List Nat} {b : Nat} (h : (g.pick js ks).has b) : g.has b := by
  rcases h with ⟨y, hy, h⟩ | ⟨s, hs, h⟩
  · obtain ⟨j, _, hj⟩ := List.mem_filterMap.1 hy; exact .inl ⟨y, List.mem_of_getElem? hj, h⟩
  obtain ⟨j, _, hj⟩ := List.mem_filterMap.1 hs; exact .inr ⟨s, List.mem_of_getElem? hj, h⟩
theorem v_endE {fn : Func} {rs : List ResultVar} {nb nr : Nat} {R : List XR → List (Ty × AV) → List (TypeId × Nat) → AV → Prop} (js ks : List Nat) (hτ : τ.ok P) (hM : N.bx.length ≤ nb ∧ N.rw.length ≤ nr) (hr : fn.results = rs.toArray) (H : RelX w0.heap.size P w0 N nt st X a w)
    (hchk : (okSel js st.bx.length && okSel ks st.rw.length && usesB js st.bx && preOk js nb && preOk ks nr && rs.all (fun x => argOk js (resv τ st x))) = true)
    {bx' : List (Ty × AV)} {rw' : List (TypeId × Nat)} {ress : List AV} {res : AV} (hf : fzOk js st.fz [] 0 = true) (hb : bxs (pickB js ks st.bx) bx') (hw : ks.filterMap (st.rw[·]?) = rw')
    (he : allP (sub 4) (rs.map fun x => ren (idx? js) (idx? ks) 4 (resv τ st x)) ress) (ht : tupOf ress = res) (hR : R X bx' rw' res) :
    a.defers = [] ∧ ∃ v, (results fn a.tmps).run P w = .ok v w ∧ PostX P w0 N R (.returned v) w := by
  obtain ⟨g, HI, hB, hF, hX⟩ := H
  have HI0 : Inv P w0 N g st.bx st.fz st.rw w := ⟨HI.mem, hB.fr (Nat.le_refl _), HI.br, HI.fz, HI.wr, HI.wz⟩
  obtain ⟨h1, v, h2, h3, h4⟩ := v_endG js ks hτ hM hr HI0 hF hchk hf hb hw he ht
  exact ⟨h1, v, h2, X, bx', rw', res, _, v, hR, rfl, h3, h4, ⟨fun x hx => ⟨(hX.ok x hx).le, (hX.ok x hx).nil, fun b hb => ⟨fun hh => ((hX.ok x hx).own b hb).1 (pick_has hh), ((hX.ok x hx).own b hb).2⟩⟩, hX.un⟩⟩
theorem v_callE {ops : Array Oper} {Q : Exit → Act → World → Prop} {rest : List Oper} {o : Oper} {f : FuncId} {xs : List Operand} {ats : Array TypeId} {args : List AV} {R : List XR → List (Ty × AV) → List (TypeId × Nat) → AV → Prop}
    (hc : VE P f args R) (hB : FrX lo w0 N N1 w1) (hlo : lo ≤ w0.heap.size) (hX : Xs lo N1 w1 X) (H : Rel P w1 N1 nt st a w)
    (hRu : ∀ Y bx' rw' res, R Y bx' rw' res → uses some 4 res = true ∧ bx'.all (fun x => uses some 4 x.2) = true)
    (k : ∀ Y bx' rw' res a w, R Y bx' rw' res → RelX lo P w0 N nt ((⟨st.t, mergeL st.bx [] (renB [] [] st.bx.length st.rw.length bx'), st.fz, mergeL st.rw [] rw'⟩ : St).put o.dst none (ren (fun k => some (nth [] st.bx.length k)) (fun k => some (nth [] st.rw.length k)) 4 res)) (X ++ Y) a w → wpList P ops Q rest a w)
    (hgd : o.guard = none := by rfl) (ho : o.op = .call ⟨.value (.func f), xs.toArray, ats⟩ := by rfl) (hchk : (xs.all (fun x => argOk [] (st.ev none x)) && okDst nt none o.dst) = true := by rfl) (ha : allP (sub 4) (cargs st [] [] xs) args := by exact caX) : wpList P ops Q (o :: rest) a w := by
  obtain ⟨hfok, hcall⟩ := hc
  obtain ⟨g, HI, hF⟩ := H
  simp only [Bool.and_eq_true] at hchk
  obtain ⟨c5, c8⟩ := hchk
  obtain ⟨h1, h2⟩ := cargs_ok HI hF (js := []) (ks := []) (fun j hj => by cases hj) (fun j hj => by cases hj) c5 ha
  refine wpList_plain hgd fun K hK => ?_
  unfold Oper.wp
  rw [run_callF hfok xs ats ho w, Oper.upon_enter]
  have HP : Inv P w (g.pick [] []) (g.pick [] []) [] [] [] w := HI.pick (bx2 := []) (fz2 := []) (rw2 := []) [] [] (fun j hj => by cases hj) (fun j hj => by cases hj) List.nodup_nil List.nodup_nil (fun j hj => by cases hj) trivial (fun i j hi => by simp at hi) rfl
    ⟨Kept.refl _ _, fun i x hx hxo => .inr ⟨x, hx, hxo, rfl⟩, fun i r k hr hrk => .inr ⟨r, hr, hrk⟩, fun _ _ _ _ => rfl, Gh.le.refl _⟩
  refine (hcall w (g.pick [] []) (xs.map a.eval) HP (by simp [h1]) h2).mono fun e w' hp => ?_
  obtain ⟨Y, bx', rw', res, g1, v, hRR, rfl, HI1, hv, hY⟩ := hp
  obtain ⟨c6, c7⟩ := hRu _ _ _ _ hRR
  obtain ⟨k1, k2, k3, k4⟩ := HI.call HI1 (fun j hj => by cases hj) (fun j hj => by cases hj) List.nodup_nil List.nodup_nil (fun x hx => List.all_eq_true.1 c7 x hx)
  have hv' := hv.ren_ (g1 := g1) (g2 := ⟨g1.ro, mergeL g.bx [] g1.bx, mergeL g.rw [] g1.rw⟩) (fb := fun k => some (nth [] st.bx.length k)) (fr := fun k => some (nth [] st.rw.length k)) (d := 3) rfl (fun i j x hij hx => by injection hij with hij; subst hij; exact k3 i x hx) (fun i j x hij hx => by injection hij with hij; subst hij; exact k4 i x hx) (uses_some c6)
  have hX' : Xs lo (⟨g1.ro, mergeL g.bx [] g1.bx, mergeL g.rw [] g1.rw⟩ : Gh) w' X := hX.step k2
  have hsz : w.heap.size ≤ w'.heap.size := HI1.fr.kept.size
  have hws : w1.heap.size ≤ w.heap.size := HI.fr.kept.size
  have hY' : ∀ y ∈ Y, XOk lo (⟨g1.ro, mergeL g.bx [] g1.bx, mergeL g.rw [] g1.rw⟩ : Gh) w' y := fun y hy => by
    have h := hY.ok y hy
    refine ⟨h.le, h.nil, fun b hb => ?_⟩
    obtain ⟨q1, q2, q3⟩ := h.own b hb
    refine ⟨fun hh => ?_, by have := hB.size; omega, q3⟩
    have hm : ∀ {α : Type} {l m : List α} {x : α}, x ∈ mergeL l [] m → x ∈ l ∨ x ∈ m := fun {α l m x} h => by
      unfold mergeL at h
      rw [show setAll l [] m = l by cases m <;> rfl] at h
      simpa using h
    rcases hh with ⟨z, hz, hzo, he⟩ | ⟨s, hs, he⟩
    · rcases hm hz with hz | hz
      · obtain ⟨i, hi⟩ := List.getElem?_of_mem hz
        have := (HI.mem.bx i z hi hzo).lt; omega
      exact q1 (.inl ⟨z, hz, hzo, he⟩)
    rcases hm hs with hs | hs
    · obtain ⟨i, hi⟩ := List.getElem?_of_mem hs
      have := (HI.mem.rw i s hi).lt he; omega
    exact q1 (.inr ⟨s, hs, he⟩)
  have hun : XApart (X ++ Y) := by
    unfold XApart
    rw [List.pairwise_append]
    refine ⟨hX.un, hY.un, fun x hx y hy => ?_⟩
    cases hb : x.A with
    | none => exact .inl rfl
    | some b =>
      refine .inr fun e => ?_
      have h1 := (hX.ok x hx).lt hb
      have h2 := ((hY.ok y hy).own b e.symm).2.1
      omega
  refine hK _ _ (k Y bx' rw' res _ _ hRR ⟨_, ?_, ?_, (hF.mono k1).put c8 (fun _ => hv') rfl (fun h => absurd trivial h), ⟨fun x hx => (List.mem_append.1 hx).elim (hX'.ok x) (hY' x), hun⟩⟩)
  · have := k2.self
    cases o.dst <;> simpa [St.put] using this
  exact hB.trans (.of k2.fr lo)
theorem v_loopI {ι : Type} {c : Code} {Q : Exit → Act → World → Prop} (F : ι → Act → World → Prop) (C : ι → Prop) (μ : ι → Nat) (i0 : ι) (h0 : C i0) (H : F i0 a w)
    (round : ∀ i a w, C i → F i a w → c.wp P (Exit.then (fun a' w' => ∃ i', C i' ∧ μ i' < μ i ∧ F i' a' w') Q) a w) : (Code.loop c).wp P Q a w := by
  have hp : ∀ a w, (∃ i, C i ∧ F i a w) → ∃ m, (∃ i, (C i ∧ F i a w) ∧ μ i = m) ∧ ∀ k, (∃ i, (C i ∧ F i a w) ∧ μ i = k) → m ≤ k := fun a w ⟨i, hi⟩ => min_ex ⟨_, i, hi, rfl⟩
  obtain ⟨m, hm⟩ : ∃ m : Act → World → Nat, ∀ a w, (∃ i, C i ∧ F i a w) → (∃ i, (C i ∧ F i a w) ∧ μ i = m a w) ∧ ∀ k, (∃ i, (C i ∧ F i a w) ∧ μ i = k) → m a w ≤ k := by
    classical
    refine ⟨fun a w => if h : ∃ i, C i ∧ F i a w then Classical.choose (hp a w h) else 0, fun a w h => ?_⟩
    have := Classical.choose_spec (hp a w h)
    simp only [dif_pos h]
    exact this
  refine wp_loop (fun a w => ∃ i, C i ∧ F i a w) m ⟨i0, h0, H⟩ fun a w hi => ?_
  obtain ⟨⟨i, hi', hmi⟩, _⟩ := hm a w hi
  refine Code.wp_mono (fun e a' w' q => ?_) (round i a w hi'.1 hi'.2)
  cases e with
  | normal => obtain ⟨i', h1, h2, h3⟩ := q; exact ⟨⟨i', h1, h3⟩, by have := (hm a' w' ⟨i', h1, h3⟩).2 _ ⟨i', ⟨h1, h3⟩, rfl⟩; omega⟩
  | _ => exact q
end
section
variable {P : Program} {τ : Tab} {w0 w w1 w2 : World} {N N1 N2 : Gh} {g g1 gS : Gh} {st st' sq sq' : St} {nt : Nat} {a : Act} {lo : Nat} {X Y : List XR}
def XW (x : XR) : Prop := ∃ l sp : List UInt8, x.cells = (l ++ sp).map B8 ∧ x.n = l.length ∧ x.c = l.length + sp.length
end
section
variable {P : Program} {w0 w : World} {N : Gh} {g : Gh} {st : St} {nt : Nat} {a : Act}
end
theorem nfX {P : Program} {w0 w : World} {N : Gh} {nt lo : Nat} {st s2 : St} {X : List XR} {a : Act} (H : RelX lo P w0 N nt st X a w) (h : st = s2 := by exact nfs) : RelX lo P w0 N nt s2 X a w := h ▸ H
theorem FrX.refl (lo : Nat) (w : World) (N : Gh) : FrX lo w N N w := .of ⟨Kept.refl _ _, fun i x hx hxo => .inr ⟨x, hx, hxo, rfl⟩, fun i r k hr hrk => .inr ⟨r, hr, hrk⟩, fun _ _ _ _ => rfl, Gh.le.refl _⟩ lo
theorem Xs.nil (lo : Nat) (N : Gh) (w : World) : Xs lo N w [] := ⟨fun x hx => (by cases hx), List.Pairwise.nil⟩
def XB (x : XR) (l : List UInt8) : Prop := x.n = l.length ∧ x.tid = 5 ∧ x.k = l.length ∧ ∃ m, x.c = l.length + m ∧ x.cells = l.map B8 ++ (List.replicate m (zeroOf Tryz.prog 5)).flatten
def XL (X : List XR) (ls : List (List UInt8)) : Prop := X.length = ls.length ∧ ∀ i (h1 : i < X.length) (h2 : i < ls.length), XB X[i] ls[i]
theorem XL.snoc {X : List XR} {ls : List (List UInt8)} {x : XR} {l : List UInt8} (h : XL X ls) (hx : XB x l) : XL (X ++ [x]) (ls ++ [l]) := by
  refine ⟨by simp [h.1], fun i h1 h2 => ?_⟩
  rw [List.length_append, List.length_singleton] at h1 h2
  by_cases hi : i < X.length
  · rw [List.getElem_append_left hi, List.getElem_append_left (by rw [← h.1]; exact hi)]; exact h.2 i hi (by rw [← h.1]; exact hi)
  have e1 : i = X.length := by omega
  have e2 : i = ls.length := by rw [← h.1]; exact e1
  rw [List.getElem_append_right (by omega), List.getElem_append_right (by omega)]
  simp only [List.getElem_singleton]
  exact hx
theorem XL.nil : XL [] [] := ⟨rfl, fun i h => (by cases h)⟩
theorem XB.see {X : List XR} {x : XR} {l : List UInt8} (h : XB x l) (hx : x ∈ X) : SeeX X (.v x.v) (.bs l none) := by
  obtain ⟨h1, _, h3, m, _, h4⟩ := h
  refine .pub x l hx (by omega) h1 ?_
  rw [h4, List.take_append_of_le_length (by simp), List.take_of_length_le (by simp)]
theorem XB.w {x : XR} {l : List UInt8} (h : XB x l) : XW x := by
  obtain ⟨h1, _, _, m, h3, h4⟩ := h
  refine ⟨l, List.replicate m 0, ?_, h1, by rw [List.length_replicate]; exact h3⟩
  rw [h4, zero_u8, flat_z, List.map_append]
theorem VE.mono {P : Program} {f : FuncId} {args : List AV} {R R2 : List XR → List (Ty × AV) → List (TypeId × Nat) → AV → Prop} (h : VE P f args R) (hR : ∀ X bx rw res, R X bx rw res → R2 X bx rw res) : VE P f args R2 :=
  ⟨h.1, fun w N vs a b c => (h.2 w N vs a b c).mono fun e w' hp => by
    obtain ⟨X, bx', rw', res, g, v, h1, h2⟩ := hp
    exact ⟨X, bx', rw', res, g, v, hR _ _ _ _ h1, h2⟩⟩
theorem RelX.rel {P : Program} {w0 w : World} {N : Gh} {nt : Nat} {st : St} {X : List XR} {a : Act} (H : RelX w0.heap.size P w0 N nt st X a w) : Rel P w0 N nt st a w := by
  obtain ⟨g, HI, hB, hF, _⟩ := H
  exact ⟨g, ⟨HI.mem, hB.fr (Nat.le_refl _), HI.br, HI.fz, HI.wr, HI.wz⟩, hF⟩
section
variable {P : Program} {τ : Tab} {w0 w w1 w2 : World} {N N1 N2 : Gh} {g g1 gS : Gh} {st st' sq sq' : St} {nt : Nat} {a : Act} {lo : Nat} {X Y : List XR}
def RelXT (lo : Nat) (P : Program) (w0 : World) (N : Gh) (nt : Nat) (gS : Gh) (sq st : St) (X : List XR) (a : Act) (w : World) : Prop :=
  Mem gS w ∧ gS.rw = [] ∧ FR gS nt sq a ∧ BR gS sq.bx ∧ ∃ g, Inv P w g g st.bx st.fz st.rw w ∧ FrX lo w0 N g w ∧ FR g nt st a ∧ gS.le g ∧ Bs gS g ∧ Xs lo g w X
theorem RelXT.open_ (H : RelXT lo P w0 N nt gS sq st X a w) : ∃ N1, FrX lo w0 N N1 w ∧ Xs lo N1 w X ∧ RelT P w N1 nt gS sq st a w ∧ N1.bx.length = st.bx.length ∧ N1.rw.length = st.rw.length := by
  obtain ⟨hM, hrw, hFq, hBq, g, HI, hB, hF, hle, hbs, hX⟩ := H
  exact ⟨g, hB, hX, ⟨hM, hrw, hFq, hBq, g, HI, hF, hle, hbs⟩, HI.br.len, by rw [← HI.wr, List.length_map]⟩
theorem RelXT.close (hB : FrX lo w0 N N1 w1) (hX : Xs lo N1 w1 X) (H : RelT P w1 N1 nt gS sq st a w) : RelXT lo P w0 N nt gS sq st X a w := by
  obtain ⟨hM, hrw, hFq, hBq, g, HI, hF, hle, hbs⟩ := H
  exact ⟨hM, hrw, hFq, hBq, g, HI.self, hB.trans (.of HI.fr lo), hF, hle, hbs, hX.step HI⟩
theorem nfXT {s2 sq2 : St} (H : RelXT lo P w0 N nt gS sq st X a w) (h : st = s2 := by exact nfs) (h2 : sq = sq2 := by exact nfs) : RelXT lo P w0 N nt gS sq2 s2 X a w := h ▸ h2 ▸ H
theorem cut_keep {i k : Nat} (hrw : gS.rw = []) (hle : gS.le g) (hbs : Bs gS g) (hn : gS.bx.length ≤ i) : gS.le (g.cut i k) ∧ Bs gS (g.cut i k) := by
  have get : ∀ {j : Nat} {x y : Bx}, gS.bx[j]? = some x → g.bx[j]? = some y → (g.cut i k).bx[j]? = some y := fun {j x y} h1 h2 => by
    show (g.bx.take i)[j]? = _
    rw [List.getElem?_take, if_pos (Nat.lt_of_lt_of_le (List.getElem?_eq_some_iff.1 h1).1 hn)]; exact h2
  refine ⟨⟨hle.ro, fun j x hx => ?_, fun j r hr => by rw [hrw] at hr; simp at hr⟩, fun j x hx => ?_⟩
  · obtain ⟨y, h1, h2⟩ := hle.bx j x hx
    exact ⟨y, get hx h1, h2⟩
  obtain ⟨y, h1, h2⟩ := hbs j x hx
  exact ⟨y, get hx h1, h2⟩
theorem v_pubT (H : RelXT lo P w0 N nt gS sq st X a w) (hlo : lo ≤ w0.heap.size) (ks : List Nat) (d k e : Nat) {l : List UInt8} (hk : st.rw.length = k + 1) (hNk : N.rw.length ≤ k) (hd : find d st.t = some (none, .bs l (some k))) (hrow : st.rw[k]? = some (e, l.length)) (hq : sq.bx.length ≤ st.bx.length)
    (h1 : keepT ks st.bx.length k st.t = true) (h2 : (st.bx.take st.bx.length).all (fun x => low st.bx.length k 4 x.2) = true) :
    ∃ x : XR, (x.n = l.length ∧ x.tid = e ∧ x.k = l.length ∧ ∃ m, x.c = l.length + m ∧ x.cells = l.map B8 ++ (List.replicate m (zeroOf P e)).flatten) ∧ RelXT lo P w0 N nt gS sq ⟨(d, none, .v x.v) :: st.t.filter (fun p => ks.contains p.1), st.bx.take st.bx.length, st.fz, st.rw.take k⟩ (X ++ [x]) a w := by
  obtain ⟨hM, hrw, hFq, hBq, g, HI, hB, hF, hle, hbs, hX⟩ := H
  obtain ⟨x, h, q1, q2, q3, q4⟩ := v_pub0 HI hB hF hX hlo ks d k e hk hNk hd hrow h1 h2
  obtain ⟨c1, c2⟩ := cut_keep (i := st.bx.length) (k := k) hrw hle hbs (by rw [hBq.len]; exact hq)
  exact ⟨x, h, hM, hrw, hFq, hBq, _, q1, q2, q3, c1, c2, q4⟩
theorem v_callET {ops : Array Oper} {Q : Exit → Act → World → Prop} {rest : List Oper} {o : Oper} {f : FuncId} {xs : List Operand} {ats : Array TypeId} {args : List AV} {R : List XR → List (Ty × AV) → List (TypeId × Nat) → AV → Prop} {L A : List Nat} {q : Nat}
    (hc : VE P f args R) (hB : FrX lo w0 N N1 w1) (hlo : lo ≤ w0.heap.size) (hX : Xs lo N1 w1 X) (H : RelT P w1 N1 nt gS sq st a w)
    (hRu : ∀ Y bx' rw' res, R Y bx' rw' res → uses some 4 res = true ∧ bx'.all (fun x => uses some 4 x.2) = true)
    (k : ∀ Y bx' rw' res a w, R Y bx' rw' res → RelXT lo P w0 N nt gS (sq.lose o.dst) ((⟨st.t, mergeL st.bx [] (renB [] [] st.bx.length st.rw.length bx'), st.fz, mergeL st.rw [] rw'⟩ : St).put o.dst none (ren (fun k => some (nth [] st.bx.length k)) (fun k => some (nth [] st.rw.length k)) 4 res)) (X ++ Y) a w → wpT P ops Q (Mem gS) L A rest (q + 1) a w)
    (hL : L.contains q = true := by rfl) (hgd : o.guard = none := by rfl) (ho : o.op = .call ⟨.value (.func f), xs.toArray, ats⟩ := by rfl) (hchk : (xs.all (fun x => argOk [] (st.ev none x)) && okDst nt none o.dst) = true := by rfl) (ha : allP (sub 4) (cargs st [] [] xs) args := by exact caX) : wpT P ops Q (Mem gS) L A (o :: rest) q a w := by
  obtain ⟨hfok, hcall⟩ := hc
  obtain ⟨hM, hrw, hFq, hBq, g, HI, hF, hle, hbs⟩ := H
  simp only [Bool.and_eq_true] at hchk
  obtain ⟨c5, c8⟩ := hchk
  obtain ⟨h1, h2⟩ := cargs_ok HI hF (js := []) (ks := []) (fun j hj => by cases hj) (fun j hj => by cases hj) c5 ha
  unfold wpT
  rw [if_pos (by simp [Region.wanted, hgd]), if_pos hL]
  unfold Oper.wp
  rw [run_callF hfok xs ats ho w, Oper.upon_enter]
  have HP : Inv P w (g.pick [] []) (g.pick [] []) [] [] [] w := HI.pick (bx2 := []) (fz2 := []) (rw2 := []) [] [] (fun j hj => by cases hj) (fun j hj => by cases hj) List.nodup_nil List.nodup_nil (fun j hj => by cases hj) trivial (fun i j hi => by simp at hi) rfl
    ⟨Kept.refl _ _, fun i x hx hxo => .inr ⟨x, hx, hxo, rfl⟩, fun i r k hr hrk => .inr ⟨r, hr, hrk⟩, fun _ _ _ _ => rfl, Gh.le.refl _⟩
  refine (hcall w (g.pick [] []) (xs.map a.eval) HP (by simp [h1]) h2).mono fun e w' hp => ?_
  obtain ⟨Y, bx', rw', res, g1, v, hRR, rfl, HI1, hv, hY⟩ := hp
  obtain ⟨c6, c7⟩ := hRu _ _ _ _ hRR
  obtain ⟨k1, k2, k3, k4⟩ := HI.call HI1 (fun j hj => by cases hj) (fun j hj => by cases hj) List.nodup_nil List.nodup_nil (fun x hx => List.all_eq_true.1 c7 x hx)
  have hv' := hv.ren_ (g1 := g1) (g2 := ⟨g1.ro, mergeL g.bx [] g1.bx, mergeL g.rw [] g1.rw⟩) (fb := fun k => some (nth [] st.bx.length k)) (fr := fun k => some (nth [] st.rw.length k)) (d := 3) rfl (fun i j x hij hx => by injection hij with hij; subst hij; exact k3 i x hx) (fun i j x hij hx => by injection hij with hij; subst hij; exact k4 i x hx) (uses_some c6)
  have hX' : Xs lo (⟨g1.ro, mergeL g.bx [] g1.bx, mergeL g.rw [] g1.rw⟩ : Gh) w' X := hX.step k2
  have hsz : w.heap.size ≤ w'.heap.size := HI1.fr.kept.size
  have hws : w1.heap.size ≤ w.heap.size := HI.fr.kept.size
  have hY' : ∀ y ∈ Y, XOk lo (⟨g1.ro, mergeL g.bx [] g1.bx, mergeL g.rw [] g1.rw⟩ : Gh) w' y := fun y hy => by
    have h := hY.ok y hy
    refine ⟨h.le, h.nil, fun b hb => ?_⟩
    obtain ⟨q1, q2, q3⟩ := h.own b hb
    refine ⟨fun hh => ?_, by have := hB.size; omega, q3⟩
    have hm : ∀ {α : Type} {l m : List α} {x : α}, x ∈ mergeL l [] m → x ∈ l ∨ x ∈ m := fun {α l m x} h => by
      unfold mergeL at h
      rw [show setAll l [] m = l by cases m <;> rfl] at h
      simpa using h
    rcases hh with ⟨z, hz, hzo, he⟩ | ⟨s, hs, he⟩
    · rcases hm hz with hz | hz
      · obtain ⟨i, hi⟩ := List.getElem?_of_mem hz
        have := (HI.mem.bx i z hi hzo).lt; omega
      exact q1 (.inl ⟨z, hz, hzo, he⟩)
    rcases hm hs with hs | hs
    · obtain ⟨i, hi⟩ := List.getElem?_of_mem hs
      have := (HI.mem.rw i s hi).lt he; omega
    exact q1 (.inr ⟨s, hs, he⟩)
  have hun : XApart (X ++ Y) := by
    unfold XApart
    rw [List.pairwise_append]
    refine ⟨hX.un, hY.un, fun x hx y hy => ?_⟩
    cases hb : x.A with
    | none => exact .inl rfl
    | some b =>
      refine .inr fun e => ?_
      have h1 := (hX.ok x hx).lt hb
      have h2 := ((hY.ok y hy).own b e.symm).2.1
      omega
  have hbs' : Bs gS (⟨g1.ro, mergeL g.bx [] g1.bx, mergeL g.rw [] g1.rw⟩ : Gh) := fun i x hx => by
    obtain ⟨y, h3, h4⟩ := hbs i x hx
    exact ⟨y, merge_old (fun hm => by cases hm) h3, h4⟩
  have hM' := MemS (st := ⟨st.t, mergeL st.bx [] (renB [] [] st.bx.length st.rw.length bx'), st.fz ++ ([] : List Nat).map (nth [] st.bx.length), mergeL st.rw [] rw'⟩) hM hrw k2 (hle.trans k1) hbs'
  refine ⟨hM', k Y bx' rw' res _ _ hRR ⟨hM', hrw, hFq.lose v, by rw [lose_bx]; exact hBq, _, ?_, hB.trans (.of k2.fr lo), (hF.mono k1).put c8 (fun _ => hv') rfl (fun h => absurd trivial h), hle.trans k1, hbs', ⟨fun x hx => (List.mem_append.1 hx).elim (hX'.ok x) (hY' x), hun⟩⟩⟩
  have := k2.self
  cases o.dst <;> simpa [St.put] using this
theorem VE.ofC {f : FuncId} {args : List AV} {full l' : List UInt8} {n m : Nat} {fz : List Nat} (h : VX P f [] [] [] args [(.ba m, .ba l')] fz [] (.bc full n (some 0))) :
    VE P f args (fun X bx rw res => bx = [] ∧ rw = [] ∧ ∃ x : XR, X = [x] ∧ res = .v x.v ∧ x.n = n ∧ x.c = full.length ∧ x.k = full.length ∧ x.cells = full.map B8) := by
  refine ⟨h.1, fun w N vs hI hl hv => (h.2 w N vs hI hl hv).mono fun e w' hp => ?_⟩
  obtain ⟨g, v, rfl, HI, hr⟩ := hp
  have hNb : N.bx.length = 0 := hI.br.len
  have hNr : N.rw.length = 0 := by have := hI.wr; rw [List.map_eq_nil_iff] at this; rw [this]; rfl
  have hF : FR g 1 ⟨[(0, none, .bc full n (some 0))], [(.ba m, .ba l')], fz, []⟩ ⟨#[v], []⟩ :=
    ⟨rfl, rfl, fun p hp _ => by obtain rfl := List.mem_singleton.1 hp; exact hr, fun p hp hg => by obtain rfl := List.mem_singleton.1 hp; exact absurd trivial hg⟩
  obtain ⟨x, q, q1, q2, q3, q4⟩ := v_pubC0 (st := ⟨[(0, none, .bc full n (some 0))], [(.ba m, .ba l')], fz, []⟩) (X := []) HI.self (FrX.of HI.fr w.heap.size) hF (Xs.nil _ _ _) (Nat.le_refl _) [] 0 0 rfl (Nat.le_of_eq hNb) rfl rfl rfl rfl
  refine ⟨[x], [], [], .v x.v, _, v, ⟨rfl, rfl, x, rfl, rfl, q⟩, rfl, ⟨q1.mem, q2.fr (Nat.le_refl _), q1.br, fun i y hy => ?_, q1.wr, q1.wz⟩, ?_, by simpa using q4⟩
  · have := q1.br.len
    have hi := (List.getElem?_eq_some_iff.1 hy).1
    rw [this] at hi; simp at hi
  exact q3.t _ List.mem_cons_self trivial
theorem RelX.ghost (H : RelX w0.heap.size P w0 N nt st X a w) (hbl : st'.bx.length = st.bx.length) (hrw : st'.rw = st.rw)
    (k : ∀ g, Inv P w0 N g st.bx st.fz st.rw w → FR g nt st a → ∃ g', g.lex g' ∧ Inv P w0 N g' st'.bx st'.fz st'.rw w ∧ FR g' nt st' a) : RelX w0.heap.size P w0 N nt st' X a w := by
  obtain ⟨g, HI, hB, hF, hX⟩ := H
  obtain ⟨g', hl, I1, F1⟩ := k g ⟨HI.mem, hB.fr (Nat.le_refl _), HI.br, HI.fz, HI.wr, HI.wz⟩ hF
  refine ⟨g', I1.self, .of I1.fr _, F1, ⟨fun x hx => ?_, hX.un⟩⟩
  have h := hX.ok x hx
  refine ⟨h.le, h.nil, fun b hb => ?_⟩
  obtain ⟨h1, h2, h3, h4⟩ := h.own b hb
  refine ⟨fun hh => h1 ?_, h2, h3, fun o u ho hu => hl.1.ro _ _ _ (h4 o u ho hu)⟩
  rcases hh with ⟨y, hy, hyo, he⟩ | ⟨s, hs, he⟩
  · obtain ⟨i, hi⟩ := List.getElem?_of_mem hy
    have hil := (List.getElem?_eq_some_iff.1 hi).1
    rw [I1.br.len, hbl, ← HI.br.len] at hil
    obtain ⟨y', hy', q⟩ := hl.2 i g.bx[i] (List.getElem?_eq_getElem hil)
    rw [hi] at hy'; injection hy' with hy'; subst hy'
    exact .inl ⟨g.bx[i], List.getElem_mem hil, by first | exact q.2.2.2.1.symm.trans hyo | exact (q.2.2.2.1).trans hyo | simp_all, by first | exact q.1.symm.trans he | simp_all⟩
  obtain ⟨i, hi⟩ := List.getElem?_of_mem hs
  have hw : g'.rw.map (fun r => (r.tid, r.n)) = g.rw.map (fun r => (r.tid, r.n)) := by rw [I1.wr, HI.wr, hrw]
  have hil := (List.getElem?_eq_some_iff.1 hi).1
  have hll : g'.rw.length = g.rw.length := by have := congrArg List.length hw; simpa using this
  rw [hll] at hil
  obtain ⟨r', hr', _, _, _, _, q⟩ := hl.1.rw i g.rw[i] (List.getElem?_eq_getElem hil)
  rw [hi] at hr'; injection hr' with hr'; subst hr'
  have hn := congrArg (fun l => l[i]?) hw
  simp only [List.getElem?_map, hi, List.getElem?_eq_getElem hil, Option.map_some, Option.some.injEq, Prod.mk.injEq] at hn
  have := q hn.2
  exact .inr ⟨g.rw[i], List.getElem_mem hil, by rw [← this]; exact he⟩
theorem RelX.to (H : RelX w0.heap.size P w0 N nt st X a w) (nb nr : Nat) (hM : N.bx.length ≤ nb ∧ N.rw.length ≤ nr) {t2 : List (Nat × Gd × AV)} {bx2 : List (Ty × AV)} {rw2 : List (TypeId × Nat)} {fz2 : List Nat} (hs : SubT t2 st.t) (hb : st.bx.take nb = bx2) (hr : st.rw.take nr = rw2) (hf : st.fz = fz2) (h1 : t2.all (fun p => low nb nr 4 p.2.2) = true) (h2 : bx2.all (fun x => low nb nr 4 x.2) = true) :
    RelX w0.heap.size P w0 N nt ⟨t2, bx2, fz2, rw2⟩ X a w := by
  subst hb hr hf
  obtain ⟨g, HI, hB, hF, hX⟩ := H
  have HI0 : Inv P w0 N g st.bx st.fz st.rw w := ⟨HI.mem, hB.fr (Nat.le_refl _), HI.br, HI.fz, HI.wr, HI.wz⟩
  have I1 := HI0.cut hM.1 hM.2 h2
  refine ⟨g.cut nb nr, I1.self, .of I1.fr _, ⟨hF.sz, hF.df, fun p hp hg => (hF.t p (hs.mem hp) hg).low_ (d := 3) (List.all_eq_true.1 h1 p hp), fun p hp hg => hF.u p (hs.mem hp) hg⟩, ⟨fun x hx => ?_, hX.un⟩⟩
  have h := hX.ok x hx
  refine ⟨h.le, h.nil, fun b hb => ⟨fun hh => (h.own b hb).1 ?_, (h.own b hb).2⟩⟩
  rcases hh with ⟨y, hy, h⟩ | ⟨s, hs, h⟩
  · exact .inl ⟨y, List.mem_of_mem_take hy, h⟩
  exact .inr ⟨s, List.mem_of_mem_take hs, h⟩
end
def PtrU (N : Gh) (i : Nat) (path : List Nat) (u : Value) : Prop := ∃ (x : Bx) (o : Nat) (T : Ty), N.bx[i]? = some x ∧ x.ty.isVc = false ∧ x.ty.loc path = some (o, T) ∧ u = .pointer (some ⟨x.blk, o, none⟩)
section
variable {P : Program} {w0 w : World} {N g : Gh} {st : St} {nt : Nat} {a : Act} {i : Nat} {path : List Nat} {u : Value}
theorem PtrU.rc (hu : PtrU N i path u) (hl : N.le g) : RC g .sc (.ptr i path) [u] := by
  obtain ⟨x, o, T, h1, h2, h3, rfl⟩ := hu
  obtain ⟨x', h4, e1, _, e2⟩ := hl.bx i x h1
  rw [← (e2 (.inr h2)).1]
  exact .ptr h4 (by rw [e1]; exact h3)
theorem v_ptrU (hu : PtrU N i path u) (H : Rel P w0 N nt st a w) (d : Nat) (hd : find d st.t = some (none, .v u)) : Rel P w0 N nt ⟨nilT d (.ptr i path) st.t, st.bx, st.fz, st.rw⟩ a w := by
  obtain ⟨g, HI, hF⟩ := H
  refine ⟨g, HI, hF.sz, hF.df, fun p hp hg => ?_, fun p hp hg => by rcases nilT_mem hp with h | h; (subst h; exact absurd trivial hg); exact hF.u p h hg⟩
  rcases nilT_mem hp with h | h
  · subst h
    have hv := hF.t _ (find_mem hd) trivial
    have e : a.tmps.getD d undef = u := hv.v_inv
    show RV g (.ptr i path) (a.tmps.getD d undef)
    rw [e]
    exact (hu.rc HI.fr.le).rv1
  exact hF.t p h hg
theorem v_ptrV (H : Rel P w0 N nt st a w) (d : Nat) {T : Ty} {x : AV} (hN : i < N.bx.length) (hb : st.bx[i]? = some (T, x)) (hT : T.isVc = false) (hd : find d st.t = some (none, .ptr i path)) : ∃ u, PtrU N i path u ∧ Rel P w0 N nt ⟨nilT d (.v u) st.t, st.bx, st.fz, st.rw⟩ a w := by
  obtain ⟨g, HI, hF⟩ := H
  have hv := (hF.t _ (find_mem hd) trivial).ptr_inv
  obtain ⟨_, y, o, T', hy, hl, he⟩ := hv.ptr_inv
  obtain ⟨y', hy', hyT, _⟩ := HI.br.at_ i _ _ hb
  rw [hy] at hy'; injection hy' with hy'; subst hy'
  obtain ⟨z, hz⟩ : ∃ z, N.bx[i]? = some z := ⟨N.bx[i], List.getElem?_eq_getElem hN⟩
  obtain ⟨z', h4, e1, _, e2⟩ := HI.fr.le.bx i z hz
  rw [hy] at h4; injection h4 with h4; subst h4
  have hzT : z.ty.isVc = false := by rw [← e1, hyT]; exact hT
  injection he with he
  refine ⟨a.tmps.getD d undef, ⟨z, o, T', hz, hzT, by rw [← e1]; exact hl, by rw [he, (e2 (.inr hzT)).1]⟩, g, HI, hF.sz, hF.df, fun p hp hg => ?_, fun p hp hg => by rcases nilT_mem hp with h | h; (subst h; exact absurd trivial hg); exact hF.u p h hg⟩
  rcases nilT_mem hp with h | h
  · subst h
    show RV g (.v _) (a.tmps.getD d undef)
    rw [he]; exact RV.v_of rfl
  exact hF.t p h hg
theorem v_subB (H : Rel P w0 N nt st a w) (j : Nat) {T : Ty} {x y : AV} (hj : st.bx[j]? = some (T, x)) (hs : sub 4 x y) (hT : T.grows = false := by rfl) : Rel P w0 N nt ⟨st.t, st.bx.set j (T, y), st.fz, st.rw⟩ a w := by
  obtain ⟨g, HI, hF⟩ := H
  obtain ⟨xj, hxj, hxT, hbj⟩ := HI.br.at_ j _ _ hj
  obtain ⟨hjo, hjm, hrc⟩ := hbj.rc hT
  have h2 := hrc.sub_ hs
  subst hxT
  exact ⟨g, HI.re hxj (BC.pl h2 hjo hjm), hF.sz, hF.df, fun p hp hg => hF.t p hp hg, fun p hp hg => hF.u p hp hg⟩
end
end Go.Proofs.YtgffimanhmpohaaGreat
