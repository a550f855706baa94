/- Keys as ways down: the document's functions. -/
import Derived.Test.YtigmpdhnhkdeiaaSk
import Derived.Test.YtigmpdhnhkdeiaaRows
import Derived.Test.YtigmpdhnhkdeiaaBits
import Derived.OpenShut
import Derived.Carry
import Derived.WalkKit
import Derived.ProofKit
import Derived.JoinedCond
import Derived.Test.YtigmpdhnhkdeiaaA1
import Derived.Deep.OwnRows
import Derived.BigQuiet
import Derived.BigRegion
import Derived.Deep.Draws
import Derived.Deep.LoopGhost
set_option linter.unusedSimpArgs false
set_option linter.unusedVariables false
namespace Go.Proofs.Ytigmpdhnhkdeiaa
open Go Go.RowKit
theorem half_bit (c : UInt8) (m : Nat) (hm : m < 8) : c.toNat / 2 ^ (7 - m) % 2 = if bitAt c m then 1 else 0 := by
  rw [bitAt_test c m hm, Nat.testBit_eq_decide_div_mod_eq]
  have := Nat.mod_two_eq_zero_or_one (c.toNat / 2 ^ (7 - m))
  rcases this with h | h <;> rw [h] <;> rfl
set_option maxRecDepth 20000 in
theorem bitR_v (p : List UInt8) (hp : p.length = 32) (d : Int) : VC Try.prog 127 [.ba p, .v (.int .i64 d)] [] (.v (.int .i64 (pbit p d))) := by
  refine mE Try.func127 ?_; intro N w0 a w hN hR H
  refine mW ?_; clear H; intro a w H
  by_cases h : 0 ≤ d ∧ d < 256
  · have e8 := e8w d h.1
    skip
    refine mC H (fun hb => ?_) (fun hb => ?_)
    · exfalso; simp at hb; omega
    · obtain ⟨c, hc⟩ : ∃ c, c = p.getD (d.toNat / 8) 0 := ⟨_, rfl⟩
      have hc8 := c.toNat_lt
      have hX := And.intro @e8 (Eq.symm (hc))
      have hY := @e8
      refine mW ?_; clear H; intro a w H
      refine v_loop (fun k : Nat => ⟨[(6, none, .v (.int .i64 (k : Int))), (5, none, .v (.int .i64 ((c.toNat / 2 ^ k : Nat) : Int))), (1, none, .v (.int .i64 d))], [(.ba 32, .ba p)], [], []⟩) (fun k => k ≤ 7 - d.toNat % 8) (fun k => 8 - k) 0 (Nat.zero_le _) (H.to 1 0 ⟨Nat.le_trans hN (by decide), hR⟩ ⟨rfl, by rw [Nat.pow_zero, Nat.div_one]; rfl, rfl, trivial⟩ rfl rfl rfl rfl rfl) ?_
      clear H
      intro k a w hk H
      have hlt2 : c.toNat / 2 ^ k < 256 := Nat.lt_of_le_of_lt (Nat.div_le_self _ _) hc8
      obtain ⟨v, hv⟩ : ∃ v, v = c.toNat / 2 ^ k := ⟨_, rfl⟩
      rw [← hv] at H hlt2
      have hv' : PLift (v = c.toNat / 2 ^ k) := ⟨hv⟩
      clear hv
      clear hX
      clear hY
      refine mW ?_; clear H; intro a w H
      refine mC H (fun hb => ?_) (fun hb => ?_)
      · have hlt : k < 7 - d.toNat % 8 := by simp at hb; omega
        refine mW ?_; clear H; intro a w H
        have e2 : (v : Int) / 2 = ((c.toNat / 2 ^ (k + 1) : Nat) : Int) := by
          have hv : v = c.toNat / 2 ^ k := hv'.down
          rw [Nat.pow_succ, ← Nat.div_div_eq_div_mul, ← hv]; omega
        rw [e2] at H
        exact ⟨k + 1, hlt, by omega, H.to 1 0 ⟨Nat.le_trans hN (by decide), hR⟩ ⟨rfl, rfl, rfl, trivial⟩ rfl rfl rfl rfl rfl⟩
      · have hge : k = 7 - d.toNat % 8 := by simp at hb; omega
        subst hge
        have hb2 := half_bit c (d.toNat % 8) (by omega)
        have hv : v = c.toNat / 2 ^ (7 - d.toNat % 8) := hv'.down
        rw [← hv] at hb2
        clear hv
        have e3 : pbit p d = ((v % 2 : Nat) : Int) := by
          rw [pbit, if_pos h, hb2, hc]; unfold bitN; split <;> rfl
        rw [e3]
        refine mW ?_; clear H; intro a w H
        refine wp_ret ?_; exact mEnd [] [] [.tmp 4] [_] hN hR H
  · rw [pbit, if_neg h]
    refine mC H (fun hb => ?_) (fun hb => ?_)
    · refine mW ?_; clear H; intro a w H
      refine wp_ret ?_; exact mEnd [] [] [.tmp 4] [_] hN hR H
    · exfalso; simp at hb; omega
theorem pbit_nat (p : List UInt8) (k : Nat) (hk : k < 256) : pbit p (k : Int) = if bitN p k then 1 else 0 := by
  rw [pbit, if_pos (by omega), Int.toNat_natCast]
set_option maxRecDepth 20000 in
theorem commonR_v (p q : List UInt8) (hp : p.length = 32) (hq : q.length = 32) : VC Try.prog 225 [.ba p, .ba q] [] (.v (.int .i64 (com p q))) := by
  refine mE Try.func225 ?_; intro N w0 a w hN hR H
  refine mW ?_; clear H; intro a w H
  refine v_loop (fun k : Nat => ⟨[(5, none, .v (.int .i64 (k : Int))), (4, none, .v (.int .i64 0)), (3, none, .ptr 1 []), (2, none, .ptr 0 [])], [(.ba 32, .ba p), (.ba 32, .ba q)], [], []⟩) (fun k => k ≤ 256 ∧ agree k p q) (fun k => 256 - k) 0 ⟨Nat.zero_le _, fun t ht => by omega⟩ (H.to 2 0 ⟨Nat.le_trans hN (by decide), hR⟩ ⟨rfl, rfl, rfl, rfl, trivial⟩ rfl rfl rfl rfl rfl) ?_
  clear H
  rintro k a w ⟨hk, hag⟩ H
  have hp1 := bitR_v p hp (k : Int)
  have hq1 := bitR_v q hq (k : Int)
  refine mS ?_; refine mD 2 [5, 8] [6, 7] H ?_; clear H; intro gS H; refine mT ?_; clear H; intro a w H
  refine mCallTG [] [] (hp1) H ?_; clear H; intro a w H
  refine mT ?_; clear H; intro a w H
  refine mCallTG [] [] (hq1) H ?_; clear H; intro a w H
  refine mT ?_; clear H; intro a w H
  refine v_drawNil H ?_; clear H; intro H
  by_cases hk2 : k < 256
  · rw [pbit_nat p k hk2, pbit_nat q k hk2] at H
    refine mC H (fun hb => ?_) (fun hb => ?_)
    · have he : bitN p k = bitN q k := by
        revert hb
        cases bitN p k <;> cases bitN q k <;> simp
      refine mW ?_; clear H; intro a w H
      exact ⟨k + 1, ⟨hk2, fun t ht => by
        by_cases h1 : t < k
        · exact hag t h1
        · rw [show t = k by omega]; exact he⟩, by omega, H.to 2 0 ⟨Nat.le_trans hN (by decide), hR⟩ ⟨rfl, rfl, rfl, rfl, trivial⟩ rfl rfl rfl rfl rfl⟩
    · have hne : bitN p k ≠ bitN q k := fun e => by
        rw [e] at hb; simp at hb; omega
      have e := com_of hk hag fun _ => hne
      rw [e]
      refine mW ?_; clear H; intro a w H
      refine wp_ret ?_; exact mEnd [] [] [.tmp 4] [_] hN hR H
  · have e := com_of hk hag fun h => absurd h hk2
    rw [e]
    refine mC H (fun hb => ?_) (fun hb => ?_)
    · exfalso; simp at hb; omega
    · refine mW ?_; clear H; intro a w H
      refine wp_ret ?_; exact mEnd [] [] [.tmp 4] [_] hN hR H
theorem underR_v (p q : List UInt8) (hp : p.length = 32) (hq : q.length = 32) (d : Int) : VC Try.prog 176 [.ba p, .ba q, .v (.int .i64 d)] [] (.v (.bool (decide (0 ≤ d ∧ d ≤ 256 ∧ d ≤ com p q)))) := by
  have hc := commonR_v p q hp hq
  refine mE Try.func176 ?_; intro N w0 a w hN hR H
  refine mW ?_; clear H; intro a w H
  refine mCallG [] [] (hc) H ?_; clear H; intro a w H; try refine wpList_nil ?_
  refine mW ?_; clear H; intro a w H
  by_cases h0 : 0 ≤ d
  · by_cases h1 : d ≤ 256
    · have e : (decide (0 ≤ d ∧ d ≤ 256 ∧ d ≤ com p q)) = decide (d ≤ com p q) := by simp [h0, h1]
      rw [e]
      simp only [decide_eq_true h0, decide_eq_true h1, cond_true] at H
      refine wp_ret ?_; exact mEnd [] [] [.tmp 6] [_] hN hR H
    · have e : (decide (0 ≤ d ∧ d ≤ 256 ∧ d ≤ com p q)) = false := by simp [h1]
      rw [e]
      simp only [decide_eq_true h0, decide_eq_false h1, cond_true, cond_false] at H
      refine wp_ret ?_; exact mEnd [] [] [.tmp 6] [_] hN hR H
  · have e : (decide (0 ≤ d ∧ d ≤ 256 ∧ d ≤ com p q)) = false := by simp [h0]
    rw [e]
    simp only [decide_eq_false h0, cond_false] at H
    refine wp_ret ?_; exact mEnd [] [] [.tmp 6] [_] hN hR H
theorem cmp_at (p q : List UInt8) : ∀ k, k ≤ p.length → k ≤ q.length → (∀ j, j < k → p.getD j 0 = q.getD j 0) → Lib.compareBytes p q = Lib.compareBytes (p.drop k) (q.drop k)
  | 0, _, _, _ => rfl
  | k + 1, h1, h2, h => by
    rw [cmp_at p q k (by omega) (by omega) fun j hj => h j (by omega), List.drop_eq_getElem_cons (show k < p.length by omega), List.drop_eq_getElem_cons (show k < q.length by omega)]
    have := h k (by omega)
    rw [← List.getElem_eq_getD (h := show k < p.length by omega) 0, ← List.getElem_eq_getD (h := show k < q.length by omega) 0] at this
    rw [this]
    simp [Lib.compareBytes]
set_option maxRecDepth 20000 in
theorem pcmpR_v (p q : List UInt8) (hp : p.length = 32) (hq : q.length = 32) : VC Try.prog 110 [.ba p, .ba q] [] (.v (.int .i64 (Lib.compareBytes p q))) := by
  refine mE Try.func110 ?_; intro N w0 a w hN hR H
  refine mW ?_; clear H; intro a w H
  refine v_loop (fun k : Nat => ⟨[(5, none, .v (.int .i64 (k : Int))), (4, none, .v (.int .i64 0)), (3, none, .ptr 1 []), (2, none, .ptr 0 [])], [(.ba 32, .ba p), (.ba 32, .ba q)], [], []⟩) (fun k => k ≤ 32 ∧ ∀ j, j < k → p.getD j 0 = q.getD j 0) (fun k => 32 - k) 0 ⟨Nat.zero_le _, fun t ht => by omega⟩ (H.to 2 0 ⟨Nat.le_trans hN (by decide), hR⟩ ⟨rfl, rfl, rfl, rfl, trivial⟩ rfl rfl rfl rfl rfl) ?_
  clear H
  rintro k a w ⟨hk, hag⟩ H
  have hat := cmp_at p q k (by omega) (by omega) hag
  have hx8 := (p.getD k 0).toNat_lt
  have hy8 := (q.getD k 0).toNat_lt
  refine mW ?_; clear H; intro a w H
  refine mC H (fun hb => ?_) (fun hb => ?_)
  · have hlt : k < 32 := by simp at hb; omega
    rw [List.drop_eq_getElem_cons (show k < p.length by omega), List.drop_eq_getElem_cons (show k < q.length by omega), List.getElem_eq_getD (0 : UInt8), List.getElem_eq_getD (0 : UInt8)] at hat
    refine mW ?_; clear H; intro a w H
    refine mS ?_; refine mD 2 [] [] H ?_; clear H; intro gS H; refine mT ?_; clear H; intro a w H
    refine v_drawNil H ?_; clear H; intro H
    refine mC H (fun hb => ?_) (fun hb => ?_)
    · have h1 : p.getD k 0 < q.getD k 0 := by rw [UInt8.lt_iff_toNat_lt]; simpa using hb
      have e : Lib.compareBytes p q = -1 := by rw [hat]; simp only [Lib.compareBytes, if_pos h1]
      rw [e]
      refine mW ?_; clear H; intro a w H
      refine wp_ret ?_; exact mEnd [] [] [.tmp 4] [_] hN hR H
    · have h1 : ¬ p.getD k 0 < q.getD k 0 := by rw [UInt8.lt_iff_toNat_lt]; simpa using hb
      refine mW ?_; clear H; intro a w H
      refine mS ?_; refine mD 2 [] [] H ?_; clear H; intro gS H; refine mT ?_; clear H; intro a w H
      refine v_drawNil H ?_; clear H; intro H
      refine mC H (fun hb => ?_) (fun hb => ?_)
      · have h2 : q.getD k 0 < p.getD k 0 := by rw [UInt8.lt_iff_toNat_lt]; simpa using hb
        have e : Lib.compareBytes p q = 1 := by rw [hat]; simp only [Lib.compareBytes, if_neg h1, if_pos h2]
        rw [e]
        refine mW ?_; clear H; intro a w H
        refine wp_ret ?_; exact mEnd [] [] [.tmp 4] [_] hN hR H
      · have h2 : ¬ q.getD k 0 < p.getD k 0 := by rw [UInt8.lt_iff_toNat_lt]; simpa using hb
        refine mW ?_; clear H; intro a w H
        exact ⟨k + 1, ⟨hlt, fun j hj => by
          by_cases h3 : j < k
          · exact hag j h3
          · rw [show j = k by omega]; apply UInt8.toNat_inj.1; rw [UInt8.lt_iff_toNat_lt] at h1 h2; omega⟩, by omega, H.to 2 0 ⟨Nat.le_trans hN (by decide), hR⟩ ⟨rfl, rfl, rfl, rfl, trivial⟩ rfl rfl rfl rfl rfl⟩
  · have hge : k = 32 := by simp at hb; omega
    subst hge
    have e : Lib.compareBytes p q = 0 := by rw [hat, List.drop_eq_nil_of_le (by omega), List.drop_eq_nil_of_le (by omega)]; rfl
    rw [e]
    refine mW ?_; clear H; intro a w H
    refine wp_ret ?_; exact mEnd [] [] [.tmp 4] [_] hN hR H
end Go.Proofs.Ytigmpdhnhkdeiaa
/- Digests of the empty place, of leaves, of inner nodes: the document's. -/
namespace Go.Proofs.Ytigmpdhnhkdeiaa
open Go Go.RowKit
theorem ofHR_v (t : UInt8) (ls : List (List UInt8)) (hb : ls.flatten.length ≤ 34359737000) (hl : ls.length ≤ 34359737000) : VC Try.prog 181 [.v (B8 t), .sl .sc (bss ls) none] [] (.ba (sum (t :: ls.flatten))) := by
  have h1 := textR_v t ls (by omega) (by omega)
  have h2 := sumR_v (t :: ls.flatten) (by simp only [List.length_cons]; omega)
  have hsl := sum_length (t :: ls.flatten)
  refine mE Try.func181 ?_; intro N w0 a w hN hR H
  refine mW ?_; clear H; intro a w H
  refine mCall [] [] (h1) H ?_; clear H; intro a w H; try refine wpList_nil ?_
  refine mW ?_; clear H; intro a w H
  refine mCall [] [] (h2) H ?_; clear H; intro a w H; try refine wpList_nil ?_
  refine mW ?_; clear H; intro a w H
  refine wp_ret ?_; exact mEnd [] [] [.cell 4 49] [_] hN hR H
theorem emptyR_v : VC Try.prog 173 [] [] (.ba (sum [0])) := by
  have hsl := sum_length [0]
  refine mE Try.func173 ?_; intro N w0 a w hN hR H
  refine mW ?_; clear H; intro a w H
  refine mCall [] [] (ofHR_v 0 [] (by simp) (by simp)) H ?_; clear H; intro a w H; try refine wpList_nil ?_
  refine mW ?_; clear H; intro a w H
  refine wp_ret ?_; exact mEnd [] [] [.cell 0 49] [_] hN hR H
theorem leafHR_v (k v : List UInt8) (hk : k.length = 32) (hv : v.length = 32) : VC Try.prog 175 [.ba k, .ba v] [] (.ba (leafH k v)) := by
  have h1 := leafR_v k v hk hv
  have h2 := sumR_v (1 :: (k ++ v)) (by simp; omega)
  have hsl := sum_length (1 :: (k ++ v))
  have hl : (1 :: (k ++ v)).length = 65 := by simp; omega
  unfold leafH
  refine mE Try.func175 ?_; intro N w0 a w hN hR H
  refine mW ?_; clear H; intro a w H
  refine mCall [] [] (h1) H ?_; clear H; intro a w H; try refine wpList_nil ?_
  refine mW ?_; clear H; intro a w H
  refine mCall [] [] (h2) H ?_; clear H; intro a w H; try refine wpList_nil ?_
  refine mW ?_; clear H; intro a w H
  refine wp_ret ?_; exact mEnd [] [] [.cell 4 49] [_] hN hR H
theorem innerHR_v (k v : List UInt8) (hk : k.length = 32) (hv : v.length = 32) : VC Try.prog 128 [.ba k, .ba v] [] (.ba (innerH k v)) := by
  have h1 := innerR_v k v hk hv
  have h2 := sumR_v (2 :: (k ++ v)) (by simp; omega)
  have hsl := sum_length (2 :: (k ++ v))
  unfold innerH
  refine mE Try.func128 ?_; intro N w0 a w hN hR H
  refine mW ?_; clear H; intro a w H
  refine mCall [] [] (h1) H ?_; clear H; intro a w H; try refine wpList_nil ?_
  refine mW ?_; clear H; intro a w H
  refine mCall [] [] (h2) H ?_; clear H; intro a w H; try refine wpList_nil ?_
  refine mW ?_; clear H; intro a w H
  refine wp_ret ?_; exact mEnd [] [] [.cell 4 49] [_] hN hR H
end Go.Proofs.Ytigmpdhnhkdeiaa
/- A contract that says less: rows that nobody will make longer. -/
namespace Go.Proofs.Ytigmpdhnhkdeiaa
open Go Go.RowKit
end Go.Proofs.Ytigmpdhnhkdeiaa
/- Proofs as bytes: how they are read. -/
namespace Go.Proofs.Ytigmpdhnhkdeiaa
open Go Go.RowKit
/-- The sides that marks and bytes say, what is left, and whether bytes were lacking. -/
def runS : List Bool → List UInt8 → List (List UInt8) × List UInt8 × Bool
  | [], r => ([], r, false)
  | m :: ms, r => if m = true ∧ r.length < 32 then ([E0], r, true) else ((if m then r.take 32 else E0) :: (runS ms (if m then r.drop 32 else r)).1, (runS ms (if m then r.drop 32 else r)).2)
def marksOf (bits : List UInt8) (n : Nat) : List Bool := (List.range n).map fun i => bitAt (bits.getD (i / 8) 0) (i % 8)
def rdQ (l : List UInt8) : Pf × Bool :=
  if l.length < 2 then (⟨[], .zero⟩, false) else
  if 256 < num 0 (l.take 2) then (⟨[], .zero⟩, false) else
  if (l.drop 2).length < (num 0 (l.take 2) + 7) / 8 then (⟨[], .zero⟩, false) else
  let x := runS (marksOf ((l.drop 2).take ((num 0 (l.take 2) + 7) / 8)) (num 0 (l.take 2))) ((l.drop 2).drop ((num 0 (l.take 2) + 7) / 8))
  if x.2.2 then (⟨x.1, .zero⟩, false) else (⟨x.1, dec x.2.1⟩, decide (decOk x.2.1))
end Go.Proofs.Ytigmpdhnhkdeiaa
/- Proofs as bytes: read, and told again. -/
namespace Go.Proofs.Ytigmpdhnhkdeiaa
open Go Go.RowKit
def Pf.zero : Pf := ⟨[], .zero⟩
def pOk (l : List UInt8) : Prop := (rdQ l).2 = true ∧ (rdQ l).1.chk = 0 ∧ (rdQ l).1.text = l
instance (l : List UInt8) : Decidable (pOk l) := inferInstanceAs (Decidable (_ ∧ _))
end Go.Proofs.Ytigmpdhnhkdeiaa
/- The digest at the top of a way: node.Up, and the document's. -/
namespace Go.Proofs.Ytigmpdhnhkdeiaa
open Go Go.RowKit
/-- One step up. -/
def stepH (key : List UInt8) (d : Nat) (x h : List UInt8) : List UInt8 := if bitN key d then innerH x h else innerH h x
/-- From the sides from the depth d on. -/
def upL (key : List UInt8) : Nat → List (List UInt8) → List UInt8 → List UInt8
  | _, [], h => h
  | d, x :: r, h => stepH key d x (upL key (d + 1) r h)
end Go.Proofs.Ytigmpdhnhkdeiaa
/- What a tree of digests says of a key (plain). -/
namespace Go.Proofs.Ytigmpdhnhkdeiaa
open Go Go.RowKit
structure Said (k : List UInt8) (d : Nat) (t : Tr) : Prop where
  up : upL k d (t.way k d) (sum (t.fin k d Nd.zero).text) = t.dg
  len : d + (t.way k d).length ≤ 256
  cases : (t.fin k d Nd.zero = Nd.zero ∧ ∀ v, (k, v) ∉ t.leaves) ∨ ∃ x, x ∈ t.leaves ∧ t.fin k d Nd.zero = Nd.one x.1 x.2 ∧ agree (d + (t.way k d).length) x.1 k ∧ ∀ v, (k, v) ∈ t.leaves → x = (k, v)
/-- What is read has what the parts have. -/
theorem rd_parts {op : List UInt8 → Nat → Bool} : ∀ {f : Nat} {top : List UInt8} {d : Nat} {l : List Br} {t : Tr} {r : List Br}, rdTr op f top d l = some (t, r) → (∀ b ∈ l, b.wf) → (∀ b ∈ r, b.wf) ∧ t.dg.length = 32 ∧ (∀ x ∈ t.leaves, x.1.length = 32 ∧ x.2.length = 32) ∧ (∀ k d, ∀ g ∈ t.way k d, g.length = 32) ∧ r.length < l.length ∧ t.leaves.length + r.length ≤ l.length
  | 0, top, d, l, t, r, h, _ => by simp [rdTr] at h
  | f + 1, top, d, [], t, r, h, _ => by simp [rdTr] at h
  | f + 1, top, d, b :: rest, t, r, h, hw => by
    have hw2 : ∀ b ∈ rest, b.wf := fun b hb => hw b (List.mem_cons_of_mem _ hb)
    have hb := hw b List.mem_cons_self
    unfold rdTr at h
    split at h
    · cases h
    · split at h
      · simp only [Option.some.injEq, Prod.mk.injEq] at h; obtain ⟨rfl, rfl⟩ := h
        exact ⟨hw2, sum_length _, fun x hx => (by cases hx), fun k d g hg => by simp [Tr.way] at hg, by simp, by simp [Tr.leaves]⟩
      · split at h
        · split at h
          · cases h
          · simp only [Option.some.injEq, Prod.mk.injEq] at h; obtain ⟨rfl, rfl⟩ := h
            exact ⟨hw2, hb.g, fun x hx => (by cases hx), fun k d g hg => by simp [Tr.way] at hg, by simp, by simp [Tr.leaves]⟩
        · split at h
          · cases h
          · split at h
            · split at h
              · simp only [Option.some.injEq, Prod.mk.injEq] at h; obtain ⟨rfl, rfl⟩ := h
                refine ⟨hw2, leafH_len _ _, fun x hx => ?_, fun k d g hg => by simp [Tr.way] at hg, by simp, by simp [Tr.leaves]; omega⟩
                simp only [Tr.leaves, List.mem_singleton] at hx; subst hx; exact ⟨hb.key, hb.v⟩
              · cases h
            · split at h
              · cases h
              · split at h
                · cases h
                · rename_i x r1 e1
                  split at h
                  · cases h
                  · rename_i y r2 e2
                    simp only [Option.some.injEq, Prod.mk.injEq] at h; obtain ⟨rfl, rfl⟩ := h
                    obtain ⟨a1, a2, a3, a4, a5, a6⟩ := rd_parts e1 hw2
                    obtain ⟨b1, b2, b3, b4, b5, b6⟩ := rd_parts e2 a1
                    refine ⟨b1, innerH_len _ _, fun z hz => ?_, fun k d g hg => ?_, by simp; omega, by simp [Tr.leaves]; omega⟩
                    · simp only [Tr.leaves, List.mem_append] at hz
                      exact hz.elim (a3 z) (b3 z)
                    · simp only [Tr.way] at hg
                      split at hg
                      · rcases List.mem_cons.1 hg with rfl | hg
                        · exact a2
                        · exact b4 _ _ _ hg
                      · rcases List.mem_cons.1 hg with rfl | hg
                        · exact b2
                        · exact a4 _ _ _ hg
end Go.Proofs.Ytigmpdhnhkdeiaa
/- New values in a sketch (plain). -/
namespace Go.Proofs.Ytigmpdhnhkdeiaa
open Go Go.RowKit
theorem ltB_any2 {p q : List UInt8} (hp : p.length = 32) (hq : q.length = 32) : p = q ∨ ltB p q ∨ ltB q p := by
  by_cases h : com p q < 256
  · have h1 := com_agree p q; have h2 := com_ne p q h
    cases hb : bitN p (com p q) with
    | false => exact .inr (.inl ⟨_, h, h1, hb, by rw [hb] at h2; simpa using h2.symm⟩)
    | true => exact .inr (.inr ⟨_, h, h1.symm, by rw [hb] at h2; simpa using h2.symm, hb⟩)
  · exact .inl (agree_eq hp hq fun t ht => com_agree p q t (by omega))
/-- How many entries lie ahead of a key. -/
def wiN (k : List UInt8) (l : List En) : Nat := (l.takeWhile fun y => decide (Lib.compareBytes y.1 k < 0)).length
theorem wiN_le (k : List UInt8) (l : List En) : wiN k l ≤ l.length := (List.takeWhile_sublist _).length_le
/-- Is a key among entries, where it would lie? -/
def wiB (k : List UInt8) (l : List En) : Bool := decide (wiN k l < l.length) && decide ((l.getD (wiN k l) ([], [])).1 = k)
def wiE (l : List En) (x : En) : List En := if wiB x.1 l then l else l.take (wiN x.1 l) ++ x :: l.drop (wiN x.1 l)
theorem wi_spec {d : Nat} {k : List UInt8} (hk : k.length = 32) : ∀ {l : List En}, (∀ y ∈ l, y.1.length = 32) → Rise d l → (∀ y ∈ l.take (wiN k l), ltB y.1 k) ∧ ((∀ y ∈ l.drop (wiN k l), ltB k y.1) ∨ ∃ z r, l.drop (wiN k l) = z :: r ∧ z.1 = k ∧ ∀ y ∈ r, ltB k y.1)
  | [], _, _ => ⟨fun y h => by simp at h, .inl fun y h => by simp at h⟩
  | a :: l, h, hr => by
    have ha := h a List.mem_cons_self
    have hr' := hr
    unfold Rise at hr'
    rw [List.pairwise_cons] at hr'
    by_cases hc : Lib.compareBytes a.1 k < 0
    · have hn : wiN k (a :: l) = wiN k l + 1 := by unfold wiN; rw [List.takeWhile_cons, decide_eq_true hc]; rfl
      obtain ⟨h1, h2⟩ := wi_spec hk (l := l) (fun y hy => h y (List.mem_cons_of_mem _ hy)) hr'.2
      rw [hn, List.take_succ_cons, List.drop_succ_cons]
      refine ⟨fun y hy => ?_, h2⟩
      rcases List.mem_cons.1 hy with rfl | hy
      · exact (cmp_ltB ha hk).1 hc
      · exact h1 y hy
    · have hn : wiN k (a :: l) = 0 := by unfold wiN; rw [List.takeWhile_cons, decide_eq_false hc]; rfl
      rw [hn, List.take_zero, List.drop_zero]
      refine ⟨fun y hy => (by cases hy), ?_⟩
      rcases ltB_any2 ha hk with e | e | e
      · exact .inr ⟨a, l, rfl, e, fun y hy => by rw [← e]; exact (hr'.1 y hy).2⟩
      · exact absurd ((cmp_ltB ha hk).2 e) hc
      · refine .inl fun y hy => ?_
        rcases List.mem_cons.1 hy with rfl | hy
        · exact e
        · exact e.trans (hr'.1 y hy).2
theorem wiB_any {d : Nat} {k : List UInt8} (hk : k.length = 32) {l : List En} (h : ∀ y ∈ l, y.1.length = 32) (hr : Rise d l) : wiB k l = l.any fun y => decide (y.1 = k) := by
  obtain ⟨h1, h2⟩ := wi_spec hk h hr
  have hsplit := List.take_append_drop (wiN k l) l
  have hirr : ∀ {p q : List UInt8}, ltB p q → p ≠ q := fun h e => by rw [e] at h; exact h.irr
  rcases h2 with h2 | ⟨z, r, h2, h3, h4⟩
  · have e1 : wiB k l = false := by
      unfold wiB
      by_cases hn : wiN k l < l.length
      · have hm : l[wiN k l] ∈ l.drop (wiN k l) := by rw [List.drop_eq_getElem_cons hn]; exact List.mem_cons_self
        have := h2 _ hm
        have hne : ¬ l[wiN k l].1 = k := fun e => hirr this e.symm
        rw [List.getD_eq_getElem?_getD, List.getElem?_eq_getElem hn, Option.getD_some, decide_eq_false hne, Bool.and_false]
      · rw [decide_eq_false hn, Bool.false_and]
    rw [e1, eq_comm, List.any_eq_false]
    intro y hy
    rw [← hsplit] at hy
    rw [decide_eq_true_eq]
    rcases List.mem_append.1 hy with hy | hy
    · exact hirr (h1 y hy)
    · exact fun e => hirr (h2 y hy) e.symm
  · have hn : wiN k l < l.length := by
      have := congrArg List.length h2
      rw [List.length_drop, List.length_cons] at this; omega
    have hz : l[wiN k l] = z := by
      rw [List.drop_eq_getElem_cons hn] at h2
      exact (List.cons.inj h2).1
    have e1 : wiB k l = true := by
      unfold wiB
      rw [List.getD_eq_getElem?_getD, List.getElem?_eq_getElem hn, Option.getD_some, hz, h3, decide_eq_true hn, decide_eq_true rfl]; rfl
    rw [e1, eq_comm, List.any_eq_true]
    exact ⟨z, by rw [← hz]; exact List.getElem_mem hn, decide_eq_true h3⟩
theorem wiE_rise {d : Nat} {x : En} (hx : x.1.length = 32) {l : List En} (h : ∀ y ∈ l, y.1.length = 32) (ha : ∀ y ∈ l, agree d x.1 y.1) (hr : Rise d l) : Rise d (wiE l x) := by
  unfold wiE
  split
  · exact hr
  · rename_i hb
    obtain ⟨h1, h2⟩ := wi_spec hx h hr
    have h2' : ∀ y ∈ l.drop (wiN x.1 l), ltB x.1 y.1 := by
      rcases h2 with h2 | ⟨z, r, h2, h3, h4⟩
      · exact h2
      · exfalso
        apply hb
        have hn : wiN x.1 l < l.length := by
          have := congrArg List.length h2
          rw [List.length_drop, List.length_cons] at this; omega
        have hz : l[wiN x.1 l] = z := by
          rw [List.drop_eq_getElem_cons hn] at h2
          exact (List.cons.inj h2).1
        unfold wiB
        rw [List.getD_eq_getElem?_getD, List.getElem?_eq_getElem hn, Option.getD_some, hz, h3, decide_eq_true hn, decide_eq_true rfl]; rfl
    have hsplit := List.take_append_drop (wiN x.1 l) l
    have hr2 : Rise d (l.take (wiN x.1 l) ++ l.drop (wiN x.1 l)) := by rw [hsplit]; exact hr
    unfold Rise at hr2 ⊢
    rw [List.pairwise_append] at hr2 ⊢
    refine ⟨hr2.1, List.pairwise_cons.2 ⟨fun y hy => ⟨ha y (List.mem_of_mem_drop hy), h2' y hy⟩, hr2.2.1⟩, fun a hta b hb => ?_⟩
    rcases List.mem_cons.1 hb with rfl | hb
    · exact ⟨(ha a (List.mem_of_mem_take hta)).symm, h1 a hta⟩
    · exact hr2.2.2 a hta b hb
theorem wiE_perm (l : List En) (x : En) (h : wiB x.1 l = false) : (wiE l x).Perm (l ++ [x]) := by
  unfold wiE
  rw [h, if_neg (by decide)]
  have h1 : (l.take (wiN x.1 l) ++ x :: l.drop (wiN x.1 l)).Perm (x :: (l.take (wiN x.1 l) ++ l.drop (wiN x.1 l))) := List.perm_middle
  rw [List.take_append_drop] at h1
  exact h1.trans (List.perm_append_singleton x l).symm
theorem wiE_wd {l : List En} {x : En} (h : Wd l) (hx : x.1.length = 32 ∧ x.2.length = 32) : Wd (wiE l x) := by
  intro y hy
  unfold wiE at hy
  split at hy
  · exact h y hy
  · rcases List.mem_append.1 hy with hy | hy
    · exact h y (List.mem_of_mem_take hy)
    · rcases List.mem_cons.1 hy with rfl | hy
      · exact hx
      · exact h y (List.mem_of_mem_drop hy)
theorem wiE_len (l : List En) (x : En) : (wiE l x).length ≤ l.length + 1 := by
  unfold wiE
  split
  · omega
  · have := wiN_le x.1 l
    simp; omega
/-- The order of entries counts for nothing. -/
theorem rootA_perm : ∀ (f d : Nat) (l l' : List En), f + d = 256 → Sep d l → l.Perm l' → rootA f d l = rootA f d l'
  | f, d, l, l', hf, hs, hp => by
    by_cases hl : l.length < 2
    · have : l = l' := by
        match l, hl, hp with
        | [], _, hp => exact (List.nil_perm.1 hp).symm
        | [a], _, hp => exact (List.singleton_perm.1 hp).symm ▸ rfl
      rw [this]
    · match f, hf with
      | 0, hf => exact absurd (hs.deep (by omega)) hl
      | f + 1, hf =>
        rw [rootA, rootA, if_neg hl, if_neg (by rw [← hp.length_eq]; exact hl),
          rootA_perm f (d + 1) _ (half false d l') (by omega) (hs.side false) (hp.filter _), rootA_perm f (d + 1) _ (half true d l') (by omega) (hs.side true) (hp.filter _)]
/-- The new digest of a place. -/
def nxT : Tr → List En → Nat → List UInt8
  | .e, l, d => rootA (256 - d) d l
  | .c g, _, _ => g
  | .l k v, l, d => rootA (256 - d) d (wiE l (k, v))
  | .n a b, l, d => innerH (nxT a (half false d l) (d + 1)) (nxT b (half true d l) (d + 1))
theorem nxT_len : ∀ (t : Tr) (l : List En) (d : Nat), t.dg.length = 32 → (nxT t l d).length = 32
  | .e, _, _, _ => rootA_len _ _ _
  | .c g, _, _, h => h
  | .l _ _, _, _, _ => rootA_len _ _ _
  | .n _ _, _, _, _ => innerH_len _ _
/-- Inner places and leaves are open. -/
def Tr.opn (op : List UInt8 → Nat → Bool) : Tr → List UInt8 → Nat → Prop
  | .n a b, p, d => d < 256 ∧ op p d = true ∧ a.opn op p (d + 1) ∧ b.opn op (flipL p d) (d + 1)
  | .l k _, p, d => op p d = true ∧ und d k p = true
  | .c _, p, d => op p d = false
  | .e, _, _ => True
theorem rd_opn {op : List UInt8 → Nat → Bool} : ∀ {f : Nat} {p : List UInt8} {d : Nat} {l : List Br} {t : Tr} {r : List Br}, rdTr op f p d l = some (t, r) → t.opn op p d
  | 0, p, d, l, t, r, h => by simp [rdTr] at h
  | f + 1, p, d, [], t, r, h => by simp [rdTr] at h
  | f + 1, p, d, b :: rest, t, r, h => by
    unfold rdTr at h
    split at h
    · cases h
    · split at h
      · simp only [Option.some.injEq, Prod.mk.injEq] at h; obtain ⟨rfl, rfl⟩ := h; trivial
      · split at h
        · split at h
          · cases h
          · rename_i ho
            simp only [Option.some.injEq, Prod.mk.injEq] at h; obtain ⟨rfl, rfl⟩ := h
            exact Bool.eq_false_iff.2 ho
        · split at h
          · cases h
          · rename_i ho
            split at h
            · split at h
              · rename_i h6
                simp only [Option.some.injEq, Prod.mk.injEq] at h; obtain ⟨rfl, rfl⟩ := h
                exact ⟨by simpa using ho, h6⟩
              · cases h
            · split at h
              · cases h
              · split at h
                · cases h
                · rename_i x r1 e1
                  split at h
                  · cases h
                  · rename_i y r2 e2
                    simp only [Option.some.injEq, Prod.mk.injEq] at h; obtain ⟨rfl, rfl⟩ := h
                    exact ⟨by omega, by simpa using ho, rd_opn e1, rd_opn e2⟩
theorem half_und {d : Nat} (hd : d < 256) {q : List UInt8} (hq : Low d q) (l : List En) : half false d (l.filter fun x => und d x.1 q) = l.filter (fun x => und (d + 1) x.1 q) ∧ half true d (l.filter fun x => und d x.1 q) = l.filter (fun x => und (d + 1) x.1 (flipL q d)) := by
  unfold half
  rw [List.filter_filter, List.filter_filter]
  constructor
  · refine List.filter_congr fun x _ => ?_
    rw [und_left hd hq]
    cases bitN x.1 d <;> cases und d x.1 q <;> rfl
  · refine List.filter_congr fun x _ => ?_
    rw [und_right hd hq]
    cases bitN x.1 d <;> cases und d x.1 q <;> rfl
end Go.Proofs.Ytigmpdhnhkdeiaa
/- Roots of entries, or the error: the program's. -/
namespace Go.Proofs.Ytigmpdhnhkdeiaa
open Go Go.RowKit
/-- Each key is greater than the one ahead, and shares its first d bits. -/
def Next (d : Nat) (ks : List (List UInt8)) (k : Nat) : Prop := agree d (ks.getD k []) (ks.getD (k + 1) []) ∧ ltB (ks.getD k []) (ks.getD (k + 1) [])
def Climb (d : Nat) (ks : List (List UInt8)) : Prop := ∀ k, k + 1 < ks.length → Next d ks k
theorem zip_fst : ∀ (ks vs : List (List UInt8)), ks.length = vs.length → (ks.zip vs).map Prod.fst = ks
  | [], [], _ => rfl
  | [], _ :: _, h => by cases h
  | _ :: _, [], h => by cases h
  | k :: ks, v :: vs, h => by simp [zip_fst ks vs (by simpa using h)]
theorem zip_snd : ∀ (ks vs : List (List UInt8)), ks.length = vs.length → (ks.zip vs).map Prod.snd = vs
  | [], [], _ => rfl
  | [], _ :: _, h => by cases h
  | _ :: _, [], h => by cases h
  | k :: ks, v :: vs, h => by simp [zip_snd ks vs (by simpa using h)]
theorem Climb.rise {d : Nat} {ks vs : List (List UInt8)} (h : Climb d ks) (hl : ks.length = vs.length) : Rise d (ks.zip vs) := by
  refine Rise.chain fun k hk => ?_
  have hk' : k + 1 < ks.length := by rw [List.length_zip] at hk; omega
  have := h k hk'
  unfold Next at this
  rw [← List.getElem_eq_getD (h := show k < ks.length by omega) [], ← List.getElem_eq_getD (h := hk') []] at this
  simpa using this
theorem zip_wd {ks vs : List (List UInt8)} (h1 : ∀ k ∈ ks, k.length = 32) (h2 : ∀ k ∈ vs, k.length = 32) : Wd (ks.zip vs) := fun x hx => by
  obtain ⟨k, v⟩ := x
  have := List.of_mem_zip hx
  exact ⟨h1 _ this.1, h2 _ this.2⟩
/-- What is told, or the error. -/
structure UpR (ks vs : List (List UInt8)) (d : Int) (r : List UInt8) (e : Int) : Prop where
  long : 65 < ks.length → r = z32 ∧ e = 4
  arg : ¬ 65 < ks.length → (vs.length ≠ ks.length ∨ d < 0 ∨ 256 < d ∨ ¬ Climb d.toNat ks) → r = z32 ∧ e = 2
  ok : ¬ 65 < ks.length → ks.length = vs.length → 0 ≤ d ∧ d ≤ 256 → Climb d.toNat ks → r = rootA (256 - d.toNat) d.toNat (ks.zip vs) ∧ e = 0
theorem UpR.all (ks vs : List (List UInt8)) (d : Int) : ∃ r e, UpR ks vs d r e := by
  by_cases h1 : 65 < ks.length
  · exact ⟨z32, 4, fun _ => ⟨rfl, rfl⟩, fun h => absurd h1 h, fun h => absurd h1 h⟩
  · by_cases h2 : vs.length ≠ ks.length ∨ d < 0 ∨ 256 < d ∨ ¬ Climb d.toNat ks
    · exact ⟨z32, 2, fun h => absurd h h1, fun _ _ => ⟨rfl, rfl⟩, fun _ k1 k2 k3 => by
        rcases h2 with h | h | h | h
        · omega
        · omega
        · omega
        · exact absurd k3 h⟩
    · exact ⟨_, 0, fun h => absurd h h1, fun _ h => absurd h h2, fun _ _ _ _ => ⟨rfl, rfl⟩⟩
end Go.Proofs.Ytigmpdhnhkdeiaa
/- Roots of entries: the document's. -/
namespace Go.Proofs.Ytigmpdhnhkdeiaa
open Go Go.RowKit
def enA (x : En) : AV := .st [.ba x.1, .ba x.2]
def ens (l : List En) : List AV := l.map enA
abbrev enT : Ty := .cn (.ba 32) (.cn (.ba 32) .nl)
theorem ens_len (l : List En) : (ens l).length = l.length := by simp [ens]
theorem ens_get (l : List En) (k : Nat) (hk : k < l.length) : (ens l).getD k .any = .st [.ba (l[k]).1, .ba (l[k]).2] := by simp [ens, enA, List.getD, hk]
theorem ens_app (l : List En) (x : En) : ens (l ++ [x]) = ens l ++ [.st [.ba x.1, .ba x.2]] := by simp [ens, enA]
theorem half_yes (b : Bool) (d : Nat) (l : List En) (k : Nat) (hk : k < l.length) (h : bitN l[k].1 d = b) : half b d (l.take (k + 1)) = half b d (l.take k) ++ [l[k]] := by
  unfold half; rw [List.take_succ_eq_append_getElem hk, List.filter_append]; congr 1; simp [List.filter_cons, h]
theorem half_no (b : Bool) (d : Nat) (l : List En) (k : Nat) (hk : k < l.length) (h : bitN l[k].1 d = !b) : half b d (l.take (k + 1)) = half b d (l.take k) := by
  unfold half; rw [List.take_succ_eq_append_getElem hk, List.filter_append]; simp [List.filter_cons, h]
set_option maxRecDepth 20000 in
theorem atR_small (f d : Nat) (l : List En) (hd : d ≤ 256) (hs : l.length < 2) (hw : Wd l) : VC Try.prog 202 [.sl enT (ens l) none, .v (.int .i64 (d : Int))] [] (.ba (rootA f d l)) := by
  rw [rootA_small f d l hs]
  match l, hs with
  | [], _ =>
    have hsl := sum_length [0]
    refine mE Try.func202 ?_; intro N w0 a w hN hR H
    simp only [ens, List.map_nil] at H
    refine mW ?_; clear H; intro a w H
    refine mC H (fun hb => ?_) (fun hb => ?_)
    · refine mW ?_; clear H; intro a w H
      refine mCall [] [] (emptyR_v) H ?_; clear H; intro a w H; try refine wpList_nil ?_
      refine mW ?_; clear H; intro a w H
      refine wp_ret ?_; exact mEnd [] [] [.cell 4 50] [_] hN hR H
    · simp at hb
  | [x], _ =>
    obtain ⟨h1, h2⟩ := hw x List.mem_cons_self
    have hlf := leafHR_v x.1 x.2 h1 h2
    have hsl := leafH_len x.1 x.2
    refine mE Try.func202 ?_; intro N w0 a w hN hR H
    simp only [ens, enA, List.map_cons, List.map_nil] at H
    refine mW ?_; clear H; intro a w H
    refine mC H (fun hb => ?_) (fun hb => ?_)
    · simp at hb
    · refine mW ?_; clear H; intro a w H
      refine mC H (fun hb => ?_) (fun hb => ?_)
      · refine mW ?_; clear H; intro a w H
        refine mS ?_; refine mD 0 [8, 9] [] H ?_; clear H; intro gS H; refine mT ?_; clear H; intro a w H
        refine mCallT [] [] (hlf) H ?_; clear H; intro a w H
        refine mT ?_; clear H; intro a w H
        refine v_drawNil H ?_; clear H; intro H
        refine wp_ret ?_; exact mEnd [] [] [.cell 4 50] [_] hN hR H
      · simp at hb
set_option maxRecDepth 20000 in
set_option maxHeartbeats 1000000 in
theorem atR_v : ∀ (f d : Nat) (l : List En), f + d = 256 → Sep d l → Wd l → l.length ≤ 34359730000 →
    VC Try.prog 202 [.sl enT (ens l) none, .v (.int .i64 (d : Int))] [] (.ba (rootA f d l)) := by
  intro f
  induction f with
  | zero =>
    intro d l hd hr hw hl
    exact atR_small 0 d l (by omega) (hr.deep (by omega)) hw
  | succ f ih =>
    intro d l hd hr hw hl
    by_cases hs : l.length < 2
    · exact atR_small _ d l (by omega) hs hw
    · rw [rootA, if_neg hs]
      have hxl := ens_len l
      have hd9 : d < 256 := by omega
      have c1 := ih (d + 1) (half false d l) (by omega) (hr.side false) (hw.half false d) (Nat.le_trans (half_le _ _ _) hl)
      have c2 := ih (d + 1) (half true d l) (by omega) (hr.side true) (hw.half true d) (Nat.le_trans (half_le _ _ _) hl)
      have r1 := rootA_len f (d + 1) (half false d l)
      have r2 := rootA_len f (d + 1) (half true d l)
      generalize rootA f (d + 1) (half false d l) = a1 at *
      generalize rootA f (d + 1) (half true d l) = a2 at *
      have hin := innerHR_v a1 a2 r1 r2
      have hsl := innerH_len a1 a2
      clear ih hr
      refine mE Try.func202 ?_; intro N w0 a w hN hR H
      have hX := @hxl
      refine mW ?_; clear H; intro a w H
      refine mC H (fun hb => ?_) (fun hb => ?_)
      · exfalso; rw [decide_eq_true_eq] at hb; omega
      · refine mW ?_; clear H; intro a w H
        refine mC H (fun hb => ?_) (fun hb => ?_)
        · exfalso; rw [decide_eq_true_eq] at hb; omega
        · refine mW ?_; clear H; intro a w H
          have H := v_nilE tab_ok H 5 226 (j := ti226) enT rfl (by decide) (by rfl)
          have H := v_nilE tab_ok H 6 226 (j := ti226) enT rfl (by decide) (by rfl)
          refine v_loop (fun k : Nat => ⟨[(7, none, .v (.int .i64 (k : Int))), (6, none, .sl enT (ens (half true d (l.take k))) (some 1)), (5, none, .sl enT (ens (half false d (l.take k))) (some 0)), (4, none, .ptr 0 []), (0, none, .sl enT (ens l) none), (1, none, .v (.int .i64 (d : Int)))], [(.ba 32, .ba z32)], [], [(226, (half false d (l.take k)).length), (226, (half true d (l.take k)).length)]⟩) (fun k => k ≤ l.length) (fun k => l.length - k) 0 (Nat.zero_le _) (H.to 1 2 ⟨Nat.le_trans hN (by decide), Nat.le_trans hR (by decide)⟩ ⟨rfl, rfl, rfl, rfl, rfl, rfl, trivial⟩ rfl rfl rfl rfl rfl) ?_
          clear H
          intro k a w hk H
          have hh1 : (half false d (l.take k)).length ≤ l.length := Nat.le_trans (half_le _ _ _) (List.length_take_le' _ _)
          have hh2 : (half true d (l.take k)).length ≤ l.length := Nat.le_trans (half_le _ _ _) (List.length_take_le' _ _)
          have hx1 := ens_len (half false d (l.take k))
          have hx2 := ens_len (half true d (l.take k))
          refine mW ?_; clear H; intro a w H
          refine mC H (fun hb => ?_) (fun hb => ?_)
          · have hlt : k < l.length := by rw [decide_eq_true_eq] at hb; omega
            have g1 := ens_get l k hlt
            obtain ⟨w1, w2⟩ := hw _ (List.getElem_mem hlt)
            have hbit := bitR_v l[k].1 w1 (d : Int)
            refine mS ?_
            clear hX; have hX := And.intro @hxl (And.intro @hx1 (And.intro @hx2 (@g1)))
            have hY := And.intro @w1 (@w2)
            (try refine wp_region_lit ?_); refine mN 3 hN H ?_; clear H; intro a w H
            refine mW ?_; clear H; intro a w H
            refine mCall [] [] (hbit) H ?_; clear H; intro a w H; try refine wpList_nil ?_
            refine mW ?_; clear H; intro a w H
            simp only [pbit_zero _ _ hd9] at H
            refine mC H (fun hb => ?_) (fun hb => ?_)
            · have hbf : bitN l[k].1 d = false := by cases h : bitN l[k].1 d; rfl; rw [h] at hb; simp at hb
              have q1 := half_yes false d l k hlt hbf
              have q2 := half_no true d l k hlt hbf
              refine mS ?_
              (try refine wp_region_lit ?_); refine mN 4 hN H ?_; clear H; intro a w H
              refine mW ?_; clear H; intro a w H
              exact ⟨k + 1, hlt, by omega, H.to 1 2 ⟨Nat.le_trans hN (by decide), Nat.le_trans hR (by decide)⟩ ⟨rfl, by rw [q2]; rfl, by rw [q1, ens_app]; rfl, rfl, rfl, rfl, trivial⟩ rfl (by rw [q1, q2, List.length_append]; rfl) rfl rfl rfl⟩
            · have hbt : bitN l[k].1 d = true := by cases h : bitN l[k].1 d; (rw [h] at hb; simp at hb); rfl
              have q1 := half_no false d l k hlt hbt
              have q2 := half_yes true d l k hlt hbt
              refine mS ?_
              (try refine wp_region_lit ?_); refine mN 4 hN H ?_; clear H; intro a w H
              refine mW ?_; clear H; intro a w H
              exact ⟨k + 1, hlt, by omega, H.to 1 2 ⟨Nat.le_trans hN (by decide), Nat.le_trans hR (by decide)⟩ ⟨rfl, by rw [q2, ens_app]; rfl, by rw [q1]; rfl, rfl, rfl, rfl, trivial⟩ rfl (by rw [q1, q2, List.length_append]; rfl) rfl rfl rfl⟩
          · have hge : k = l.length := by rw [decide_eq_false_iff_not] at hb; omega
            subst hge
            rw [List.take_length] at H
            clear hX
            refine mW ?_; clear H; intro a w H
            refine mCall [] [] (c1) H ?_; clear H; intro a w H; try refine wpList_nil ?_
            refine mW ?_; clear H; intro a w H
            refine mCall [] [] (c2) H ?_; clear H; intro a w H; try refine wpList_nil ?_
            refine mW ?_; clear H; intro a w H
            refine mCall [] [] (hin) H ?_; clear H; intro a w H; try refine wpList_nil ?_
            refine mW ?_; clear H; intro a w H
            refine wp_ret ?_; exact mEnd [] [] [.cell 4 50] [_] hN hR H
end Go.Proofs.Ytigmpdhnhkdeiaa
/- Places of a sketch (plain): what the document's reader tells. -/
namespace Go.Proofs.Ytigmpdhnhkdeiaa
open Go Go.RowKit
/-- A place: its part, its digest, its depth, a key that goes there, how many parts it and all below it have. -/
structure Pl where
  b : Br
  g : List UInt8
  d : Nat
  p : List UInt8
  n : Nat
def Tr.part : Tr → Br
  | .e => ⟨0, z32, z32, z32⟩
  | .c g => ⟨3, z32, z32, g⟩
  | .l k v => ⟨1, k, v, z32⟩
  | .n _ _ => ⟨2, z32, z32, z32⟩
def Tr.num : Tr → Nat
  | .n a b => 1 + a.num + b.num
  | _ => 1
def Tr.pl : Tr → List UInt8 → Nat → List Pl
  | .n a b, p, d => ⟨⟨2, z32, z32, z32⟩, innerH a.dg b.dg, d, p, 1 + a.num + b.num⟩ :: (a.pl p (d + 1) ++ b.pl (flipL p d) (d + 1))
  | .e, p, d => [⟨Tr.e.part, Tr.e.dg, d, p, 1⟩]
  | .c g, p, d => [⟨(Tr.c g).part, (Tr.c g).dg, d, p, 1⟩]
  | .l k v, p, d => [⟨(Tr.l k v).part, (Tr.l k v).dg, d, p, 1⟩]
theorem Tr.num_pos (t : Tr) : 0 < t.num := by cases t <;> simp [Tr.num]; omega
theorem Tr.pl_len (t : Tr) : ∀ p d, (t.pl p d).length = t.num := by
  induction t with
  | n a b ha hb => intro p d; simp only [Tr.pl, List.length_cons, List.length_append, ha, hb, Tr.num]; omega
  | _ => intro p d; rfl
theorem Tr.pl_head (t : Tr) (p : List UInt8) (d : Nat) : ∃ r, t.pl p d = ⟨t.part, t.dg, d, p, t.num⟩ :: r := by
  cases t <;> exact ⟨_, rfl⟩
theorem clean_e {b : Br} (h : b.clean = true) : (b.k = 0 → b = Tr.e.part) ∧ (b.k = 1 → b = (Tr.l b.key b.v).part) ∧ (b.k = 2 → b = ⟨2, z32, z32, z32⟩) ∧ (b.k = 3 → b = (Tr.c b.g).part) := by
  obtain ⟨k, key, v, g⟩ := b
  refine ⟨fun e => ?_, fun e => ?_, fun e => ?_, fun e => ?_⟩ <;> dsimp only at e <;> subst e <;> unfold Br.clean at h
  · rw [if_pos (Or.inl rfl), decide_eq_true_iff] at h; obtain ⟨h1, h2, h3⟩ := h; dsimp only at h1 h2 h3; rw [h1, h2, h3]; rfl
  · rw [if_neg (by dsimp only; decide), if_pos rfl, decide_eq_true_iff] at h; dsimp only at h; rw [h]; rfl
  · rw [if_pos (Or.inr rfl), decide_eq_true_iff] at h; obtain ⟨h1, h2, h3⟩ := h; dsimp only at h1 h2 h3; rw [h1, h2, h3]
  · rw [if_neg (by dsimp only; decide), if_neg (by dsimp only; decide), if_pos rfl, decide_eq_true_iff] at h; obtain ⟨h1, h2⟩ := h; dsimp only at h1 h2; rw [h1, h2]; rfl
/-- The document's reader. -/
def rdP (op : List UInt8 → Nat → Bool) : Nat → List Br → List UInt8 → Nat → List Pl × Bool
  | 0, _, _, _ => ([], false)
  | _ + 1, [], _, _ => ([], false)
  | f + 1, b :: r, p, d =>
    if b.clean = false then ([], false)
    else if b.k = 0 then ([⟨b, sum [0], d, p, 1⟩], true)
    else if op p d = false then ([⟨b, b.g, d, p, 1⟩], decide (b.k = 3))
    else if b.k = 1 then ([⟨b, leafH b.key b.v, d, p, 1⟩], und d b.key p)
    else if b.k ≠ 2 ∨ 255 < d then ([], false)
    else
      let x := rdP op f r p (d + 1)
      if x.2 = false then ([], false) else
      let y := rdP op f ((b :: r).drop (1 + ((x.1.head?.map Pl.n).getD 0))) (flipL p d) (d + 1)
      if y.2 = false then ([], false) else
      (⟨b, innerH ((x.1.head?.map Pl.g).getD z32) ((y.1.head?.map Pl.g).getD z32), d, p, 1 + ((x.1.head?.map Pl.n).getD 0) + ((y.1.head?.map Pl.n).getD 0)⟩ :: (x.1 ++ y.1), true)
theorem rdP_some {op : List UInt8 → Nat → Bool} : ∀ {f : Nat} {p : List UInt8} {d : Nat} {l : List Br} {t : Tr} {r : List Br}, f + d = 257 → rdTr op f p d l = some (t, r) → rdP op f l p d = (t.pl p d, true) ∧ l.drop t.num = r ∧ t.num ≤ l.length
  | 0, p, d, l, t, r, _, h => by simp [rdTr] at h
  | f + 1, p, d, [], t, r, _, h => by simp [rdTr] at h
  | f + 1, p, d, b :: rest, t, r, hf, h => by
    unfold rdTr at h
    unfold rdP
    split at h
    · cases h
    · rename_i h1
      rw [if_neg h1]
      have hc := clean_e (by simpa using h1)
      split at h
      · rename_i h2
        simp only [Option.some.injEq, Prod.mk.injEq] at h; obtain ⟨rfl, rfl⟩ := h
        rw [if_pos h2]
        refine ⟨?_, rfl, by simp [Tr.num]⟩
        rw [hc.1 h2]; rfl
      · rename_i h2
        rw [if_neg h2]
        split at h
        · rename_i h3
          split at h
          · cases h
          · rename_i h4
            simp only [Option.some.injEq, Prod.mk.injEq] at h; obtain ⟨rfl, rfl⟩ := h
            rw [if_pos (by simpa using h4)]
            refine ⟨?_, rfl, by simp [Tr.num]⟩
            simp only [Tr.pl, Tr.dg, Prod.mk.injEq, List.cons.injEq, Pl.mk.injEq, and_true]
            exact ⟨hc.2.2.2 h3, decide_eq_true h3⟩
        · rename_i h3
          split at h
          · cases h
          · rename_i h4
            rw [if_neg h4]
            split at h
            · rename_i h5
              rw [if_pos h5]
              split at h
              · rename_i h6
                simp only [Option.some.injEq, Prod.mk.injEq] at h; obtain ⟨rfl, rfl⟩ := h
                refine ⟨?_, rfl, by simp [Tr.num]⟩
                simp only [Tr.pl, Tr.dg, Prod.mk.injEq, List.cons.injEq, Pl.mk.injEq, and_true]
                exact ⟨hc.2.1 h5, h6⟩
              · cases h
            · rename_i h5
              rw [if_neg h5]
              split at h
              · cases h
              · rename_i h6
                have hk2 : b.k = 2 := by
                  rcases Br.clean_k (by simpa using h1) with q | q | q | q
                  · exact absurd q h2
                  · exact absurd q h5
                  · exact q
                  · exact absurd q h3
                rw [if_neg (by rintro (q | q); exact q hk2; omega)]
                split at h
                · cases h
                · rename_i x r1 e1
                  split at h
                  · cases h
                  · rename_i y r2 e2
                    simp only [Option.some.injEq, Prod.mk.injEq] at h; obtain ⟨rfl, rfl⟩ := h
                    obtain ⟨a1, a2, a3⟩ := rdP_some (by omega) e1
                    obtain ⟨b1, b2, b3⟩ := rdP_some (by omega) e2
                    obtain ⟨q1, hq1⟩ := x.pl_head p (d + 1)
                    obtain ⟨q2, hq2⟩ := y.pl_head (flipL p d) (d + 1)
                    have hdr : (b :: rest).drop (1 + x.num) = r1 := by rw [Nat.add_comm, List.drop_succ_cons]; exact a2
                    have hd1 : (((x.pl p (d + 1)).head?.map Pl.n).getD 0) = x.num := by rw [hq1]; rfl
                    have hd2 : (((y.pl (flipL p d) (d + 1)).head?.map Pl.n).getD 0) = y.num := by rw [hq2]; rfl
                    have hd3 : (((x.pl p (d + 1)).head?.map Pl.g).getD z32) = x.dg := by rw [hq1]; rfl
                    have hd4 : (((y.pl (flipL p d) (d + 1)).head?.map Pl.g).getD z32) = y.dg := by rw [hq2]; rfl
                    rw [a1]
                    dsimp only
                    rw [if_neg (by simp), hd1, hdr, b1]
                    dsimp only
                    rw [if_neg (by simp), hd2, hd3, hd4]
                    have hr1 : r1.length = rest.length - x.num := by rw [← a2, List.length_drop]
                    refine ⟨?_, ?_, ?_⟩
                    · simp only [Tr.pl, Prod.mk.injEq, List.cons.injEq, Pl.mk.injEq, and_true]
                      exact hc.2.2.1 hk2
                    · rw [Tr.num, show 1 + x.num + y.num = (x.num + y.num) + 1 by omega, List.drop_succ_cons, ← b2, ← a2, List.drop_drop]
                    · simp only [Tr.num, List.length_cons]; omega
theorem rdP_none {op : List UInt8 → Nat → Bool} : ∀ {f : Nat} {p : List UInt8} {d : Nat} {l : List Br}, f + d = 257 → rdTr op f p d l = none → (rdP op f l p d).2 = false
  | 0, p, d, l, _, h => by simp [rdP]
  | f + 1, p, d, [], _, h => by simp [rdP]
  | f + 1, p, d, b :: rest, hf, h => by
    unfold rdTr at h
    unfold rdP
    split at h
    · rename_i h1; rw [if_pos h1]
    · rename_i h1
      rw [if_neg h1]
      split at h
      · cases h
      · rename_i h2
        rw [if_neg h2]
        split at h
        · rename_i h3
          split at h
          · rename_i h4
            rw [if_neg (by rw [h4]; decide), if_neg (by rw [h3]; decide), if_pos (.inl (by rw [h3]; decide))]
          · cases h
        · rename_i h3
          split at h
          · rename_i h4; rw [if_pos h4]; exact decide_eq_false h3
          · rename_i h4
            rw [if_neg h4]
            split at h
            · rename_i h5
              rw [if_pos h5]
              split at h
              · cases h
              · rename_i h6; simpa using h6
            · rename_i h5
              rw [if_neg h5]
              split at h
              · rename_i h6
                rw [if_pos (.inr (by omega))]
              · rename_i h6
                split
                · rfl
                · split at h
                  · rename_i e1
                    dsimp only
                    rw [if_pos (rdP_none (by omega) e1)]
                  · rename_i x r1 e1
                    obtain ⟨a1, a2, a3⟩ := rdP_some (by omega) e1
                    obtain ⟨q1, hq1⟩ := x.pl_head p (d + 1)
                    have hd1 : (((x.pl p (d + 1)).head?.map Pl.n).getD 0) = x.num := by rw [hq1]; rfl
                    have hdr : (b :: rest).drop (1 + x.num) = r1 := by rw [Nat.add_comm, List.drop_succ_cons]; exact a2
                    split at h
                    · rename_i e2
                      rw [a1]
                      dsimp only
                      rw [if_neg (by simp), hd1, hdr, if_pos (rdP_none (by omega) e2)]
                    · cases h
end Go.Proofs.Ytigmpdhnhkdeiaa
/- A key's way through places (plain). -/
namespace Go.Proofs.Ytigmpdhnhkdeiaa
open Go Go.RowKit
/-- The place at which a key's way ends. -/
def Tr.last (key : List UInt8) : Nat → Tr → Tr
  | d, .n a b => if bitN key d then b.last key (d + 1) else a.last key (d + 1)
  | _, .e => .e
  | _, .c g => .c g
  | _, .l k v => .l k v
/-- A place of a list of places: a tree there, and what is after it. -/
def AtP (l : List Pl) (i : Nat) (u : Tr) (q : List UInt8) (e : Nat) : Prop := ∃ r, l.drop i = u.pl q e ++ r
theorem AtP.top (t : Tr) (p : List UInt8) (d : Nat) : AtP (t.pl p d) 0 t p d := ⟨[], by simp⟩
theorem AtP.get {l : List Pl} {i : Nat} {u : Tr} {q : List UInt8} {e : Nat} (h : AtP l i u q e) : i + u.num ≤ l.length ∧ l[i]? = some ⟨u.part, u.dg, e, q, u.num⟩ := by
  obtain ⟨r, h⟩ := h
  obtain ⟨r2, h2⟩ := u.pl_head q e
  have hl := congrArg List.length h
  rw [List.length_drop, List.length_append, Tr.pl_len] at hl
  have hp := u.num_pos
  refine ⟨by omega, ?_⟩
  have := congrArg (fun x => x[0]?) h
  simp only [List.getElem?_drop, Nat.add_zero] at this
  rw [this, h2]; rfl
theorem AtP.left {l : List Pl} {i : Nat} {a b : Tr} {q : List UInt8} {e : Nat} (h : AtP l i (.n a b) q e) : AtP l (i + 1) a q (e + 1) := by
  obtain ⟨r, h⟩ := h
  refine ⟨b.pl (flipL q e) (e + 1) ++ r, ?_⟩
  rw [← List.drop_drop, h]
  simp only [Tr.pl, List.cons_append, List.drop_succ_cons, List.drop_zero, List.append_assoc]
theorem AtP.right {l : List Pl} {i : Nat} {a b : Tr} {q : List UInt8} {e : Nat} (h : AtP l i (.n a b) q e) : AtP l (i + 1 + a.num) b (flipL q e) (e + 1) := by
  obtain ⟨r, h⟩ := h
  refine ⟨r, ?_⟩
  rw [← List.drop_drop, ← List.drop_drop, h]
  simp only [Tr.pl, List.cons_append, List.drop_succ_cons, List.drop_zero, List.append_assoc]
  rw [← Tr.pl_len a q (e + 1), List.drop_left]
def Pl.leaf (x : Pl) : Option (List UInt8 × List UInt8) := if x.b.k = 1 then some (x.b.key, x.b.v) else none
end Go.Proofs.Ytigmpdhnhkdeiaa
/- The document's keys with a bit as said: ref04.Set, Filled; what has to be open: ref20.Open of a stretch. -/
namespace Go.Proofs.Ytigmpdhnhkdeiaa
open Go Go.RowKit
def setL (p : List UInt8) (d : Nat) (b : Bool) : List UInt8 := if bitN p d = b then p else flipL p d
theorem setL_len (p : List UInt8) (d : Nat) (b : Bool) : (setL p d b).length = p.length := by unfold setL; split; rfl; exact flipL_len _ _
theorem setL_low {d : Nat} {p : List UInt8} (h : Low d p) (hd : d < 256) : setL p d false = p ∧ setL p d true = flipL p d := by
  unfold setL
  rw [h.2 d (Nat.le_refl _) hd]
  exact ⟨if_pos rfl, if_neg (by decide)⟩
set_option maxRecDepth 100000 in
theorem setX_ : ∀ (m : Fin 8) (x : Fin 256) (b : Bool), 0 ≤ (x.val : Int) + ((if b then 1 else 0) - (if bitAt (UInt8.ofNat x.val) m.val then 1 else 0)) * ((2 : Int) ^ (7 - m.val)) ∧ (x.val : Int) + ((if b then 1 else 0) - (if bitAt (UInt8.ofNat x.val) m.val then 1 else 0)) * ((2 : Int) ^ (7 - m.val)) ≤ 255 ∧
    UInt8.ofNat ((x.val : Int) + ((if b then 1 else 0) - (if bitAt (UInt8.ofNat x.val) m.val then 1 else 0)) * ((2 : Int) ^ (7 - m.val))).toNat = if bitAt (UInt8.ofNat x.val) m.val = b then UInt8.ofNat x.val else UInt8.ofNat x.val ^^^ UInt8.ofNat (128 / 2 ^ m.val) := by decide +kernel
set_option maxRecDepth 20000 in
theorem setR_v (p : List UInt8) (hp : p.length = 32) (d : Nat) (hd : d < 256) (b : Bool) : VC Try.prog 177 [.ba p, .v (.int .i64 (d : Int)), .v (.int .i64 (if b then 1 else 0))] [] (.ba (setL p d b)) := by
  have hbit := bitR_v p hp (d : Int)
  have hpb : pbit p (d : Int) = if bitN p d then 1 else 0 := by rw [pbit, if_pos (by omega), Int.toNat_natCast]
  rw [hpb] at hbit
  obtain ⟨s1, s2, s3⟩ := setX_ ⟨d % 8, by omega⟩ ⟨(p.getD (d / 8) 0).toNat, UInt8.toNat_lt _⟩ b
  simp only [UInt8.ofNat_toNat] at s1 s2 s3
  have hbn : bitAt (p.getD (d / 8) 0) (d % 8) = bitN p d := rfl
  rw [hbn] at s1 s2 s3
  have e8 : ((d : Int) / 8).toNat = d / 8 := by omega
  have hbi : (if b then (1 : Int) else 0) = 0 ∨ (if b then (1 : Int) else 0) = 1 := by cases b <;> simp
  have hbj : (if bitN p d then (1 : Int) else 0) = 0 ∨ (if bitN p d then (1 : Int) else 0) = 1 := by cases bitN p d <;> simp
  have hres : p.set (d / 8) (UInt8.ofNat (((p.getD (d / 8) 0).toNat : Int) + ((if b then 1 else 0) - (if bitN p d then 1 else 0)) * ((2 : Int) ^ (7 - d % 8))).toNat) = setL p d b := by
    rw [s3]; unfold setL
    split
    · rw [List.getD_eq_getElem?_getD, List.getElem?_eq_getElem (by omega)]; simp
    · rfl
  generalize hbv : (if b then (1 : Int) else 0) = bv at *
  generalize hbw : (if bitN p d then (1 : Int) else 0) = bw at *
  refine mE Try.func177 ?_; intro N w0 a w hN hR H
  refine mW ?_; clear H; intro a w H
  refine v_loop (fun i : Nat => ⟨[(8, none, .v (.int .i64 (i : Int))), (7, none, .v (.int .i64 ((2 ^ i : Nat) : Int))), (6, none, .ptr 1 []), (3, none, .ptr 0 []), (1, none, .v (.int .i64 (d : Int))), (2, none, .v (.int .i64 bv))], [(.ba 32, .ba p), (.ba 32, .ba (List.replicate 32 0))], [], []⟩)
    (fun i => i ≤ 7 - d % 8) (fun i => 7 - d % 8 - i) 0 (Nat.zero_le _) (H.to 2 0 ⟨Nat.le_trans hN (Nat.zero_le _), hR⟩ ⟨rfl, rfl, rfl, rfl, rfl, rfl, trivial⟩ rfl rfl rfl rfl rfl) ?_
  clear H
  intro i a w hi H
  have hi7 : i ≤ 7 := by omega
  have hp2 : 2 ^ i ≤ 128 := by
    have : 2 ^ i ≤ 2 ^ 7 := Nat.pow_le_pow_right (by decide) hi7
    exact this
  obtain ⟨v, hv⟩ : ∃ v, v = 2 ^ i := ⟨_, rfl⟩
  rw [← hv] at H hp2
  have hv' : PLift (v = 2 ^ i) := ⟨hv⟩
  clear hv
  refine mW ?_; clear H; intro a w H
  refine mC H (fun hb => ?_) (fun hb => ?_)
  · have hlt : i < 7 - d % 8 := by rw [decide_eq_true_eq] at hb; omega
    clear hb s1 s2 s3 hres
    refine mW ?_; clear H; intro a w H
    have e2 : (2 : Int) * (v : Int) = ((2 ^ (i + 1) : Nat) : Int) := by
      have hv : v = 2 ^ i := hv'.down
      rw [Nat.pow_succ, ← hv]; omega
    rw [e2] at H
    exact ⟨i + 1, by omega, by omega, H.to 2 0 ⟨Nat.le_trans hN (by decide), hR⟩ ⟨rfl, rfl, rfl, rfl, rfl, rfl, trivial⟩ rfl rfl rfl rfl rfl⟩
  · have hge : i = 7 - d % 8 := by rw [decide_eq_false_iff_not] at hb; omega
    clear hb
    subst hge
    have e9 : (2 : Int) ^ (7 - d % 8) = (v : Int) := by
      have hv : v = 2 ^ (7 - d % 8) := hv'.down
      rw [hv]; simp
    rw [e9] at s1 s2 s3 hres
    clear hv' e9
    have hx8 := (p.getD (d / 8) 0).toNat_lt
    refine mS ?_
    have hX := @e8
    have hY := @hp
    refine mS ?_; refine mD 2 [8] [0, 1, 2, 3, 4, 5, 10] H ?_; clear H; intro gS H; refine mT ?_; clear H; intro a w H
    refine mT ?_; clear H; intro a w H
    refine mCallT [] [] (hbit) H ?_; clear H; intro a w H
    refine mT ?_; clear H; intro a w H
    refine v_drawNil H ?_; clear H; intro H
    refine mW ?_; clear H; intro a w H
    rw [Int.emod_eq_of_lt s1 (by omega), hres] at H
    have hsl := setL_len p d b
    rw [hp] at hsl
    clear hX; have hX := @hsl
    refine wp_ret ?_; exact mEnd [] [] [.cell 6 49] [_] hN hR H
end Go.Proofs.Ytigmpdhnhkdeiaa
/- The document's keys from a depth on (ref04.Filled); what has to be open for a stretch (ref20.Open). -/
namespace Go.Proofs.Ytigmpdhnhkdeiaa
open Go Go.RowKit
end Go.Proofs.Ytigmpdhnhkdeiaa
/- The arguments of a statement, as values; what a statement's form asks for, out of a contract in values. -/
namespace Go.Proofs.Ytigmpdhnhkdeiaa
open Go Go.RowKit
theorem bulk_part {H : Type} {d : DataW H} : ∀ {l : List (DataW H)}, d ∈ l → Rows.uptoBulk d ≤ Rows.uptoBulkAll l
  | x :: l, h => by
    rcases List.mem_cons.1 h with e | e
    · subst e; simp only [Rows.uptoBulkAll]; omega
    · have := bulk_part e; simp only [Rows.uptoBulkAll]; omega
theorem bulk_one {H : Type} (d : DataW H) : 1 ≤ Rows.uptoBulk d := by
  cases d with
  | lit l => cases l <;> simp [Rows.uptoBulk]
  | _ => simp [Rows.uptoBulk]
theorem bulk_len {H : Type} : ∀ l : List (DataW H), l.length ≤ Rows.uptoBulkAll l
  | [] => by simp
  | x :: l => by have := bulk_one x; have := bulk_len l; simp only [Rows.uptoBulkAll, List.length_cons]; omega
def isU8 (τ : Tab) (e : Nat) : Bool := match Tab.get e τ with
  | some j => (match j.d with | .int .u8 => true | _ => false)
  | none => false
def tyOf (τ : Tab) (e : Nat) : Ty := match Tab.get e τ with
  | some j => j.ty
  | none => .sc
def ShL (f : Nat → AV → Prop) : List Nat → List AV → Prop
  | [], [] => True
  | t :: ts, a :: az => f t a ∧ ShL f ts az
  | _, _ => False
/-- The values that a type may have: each stretch no longer than M. -/
def Sh (τ : Tab) (M : Nat) : Nat → Nat → AV → Prop
  | 0, _, _ => False
  | d + 1, t, a => match (Tab.get t τ).map TI.d with
    | some (.int k) => ∃ n, a = .v (.int k n) ∧ ilo k ≤ n ∧ n ≤ ihi k
    | some .bool => ∃ b, a = .v (.bool b)
    | some .str => ∃ s : ByteArray, a = .v (.string s) ∧ s.size ≤ M
    | some (.slc e) => if isU8 τ e then ∃ l, a = .bs l none ∧ l.length ≤ M else ∃ es, a = .sl (tyOf τ e) es none ∧ es.length ≤ M ∧ ∀ x ∈ es, Sh τ M d e x
    | some (.arr n _) => ∃ l, a = .ba l ∧ l.length = n
    | some (.rcd fs) => ∃ az, a = .st az ∧ ShL (Sh τ M d) (fs.map (·.2)) az
    | _ => False
def lay (τ : Tab) : List (Nat × Nat) → Nat → Ty → Bool
  | [], _, .nl => true
  | (o, t) :: fs, off, .cn T Ts => o == off && (Tab.get t τ).isSome && tyOf τ t == T && lay τ fs (off + T.size) Ts
  | _, _, _ => false
def okT (τ : Tab) : Nat → Nat → Bool
  | 0, _ => false
  | d + 1, t => match Tab.get t τ with
    | some i => (match i.d with
      | .int _ => i.ty == .sc
      | .bool => i.ty == .sc
      | .str => i.ty == .sc
      | .slc e => i.ty == .sc && (Tab.get e τ).isSome && decide (0 < (tyOf τ e).size) && (isU8 τ e && tyOf τ e == .sc || !isU8 τ e && okT τ d e)
      | .arr n e => isU8 τ e && i.ty == .ba n && tyOf τ e == .sc
      | .rcd fs => lay τ fs 0 i.ty && i.ty.agg && fs.all fun f => okT τ d f.2
      | _ => false)
    | none => false
section
variable {τ : Tab} {M d t : Nat} {a : AV} {i : TI}
theorem Sh.int {k : IntKind} (ht : Tab.get t τ = some i) (hd : i.d = .int k) (h : Sh τ M (d + 1) t a) : ∃ n, a = .v (.int k n) ∧ ilo k ≤ n ∧ n ≤ ihi k := by
  unfold Sh at h; simp only [ht, Option.map_some, hd] at h; exact h
theorem Sh.bool (ht : Tab.get t τ = some i) (hd : i.d = .bool) (h : Sh τ M (d + 1) t a) : ∃ b, a = .v (.bool b) := by
  unfold Sh at h; simp only [ht, Option.map_some, hd] at h; exact h
theorem Sh.str (ht : Tab.get t τ = some i) (hd : i.d = .str) (h : Sh τ M (d + 1) t a) : ∃ s : ByteArray, a = .v (.string s) ∧ s.size ≤ M := by
  unfold Sh at h; simp only [ht, Option.map_some, hd] at h; exact h
theorem Sh.bytes {e : Nat} (ht : Tab.get t τ = some i) (hd : i.d = .slc e) (hu : isU8 τ e = true) (h : Sh τ M (d + 1) t a) : ∃ l, a = .bs l none ∧ l.length ≤ M := by
  unfold Sh at h; simp only [ht, Option.map_some, hd, hu, if_true] at h; exact h
theorem Sh.slc {e : Nat} (ht : Tab.get t τ = some i) (hd : i.d = .slc e) (hu : isU8 τ e = false) (h : Sh τ M (d + 1) t a) : ∃ es, a = .sl (tyOf τ e) es none ∧ es.length ≤ M ∧ ∀ x ∈ es, Sh τ M d e x := by
  unfold Sh at h; simp only [ht, Option.map_some, hd, hu, Bool.false_eq_true, if_false] at h; exact h
theorem Sh.arr {n e : Nat} (ht : Tab.get t τ = some i) (hd : i.d = .arr n e) (h : Sh τ M (d + 1) t a) : ∃ l, a = .ba l ∧ l.length = n := by
  unfold Sh at h; simp only [ht, Option.map_some, hd] at h; exact h
theorem Sh.rcd {fs : List (Nat × Nat)} (ht : Tab.get t τ = some i) (hd : i.d = .rcd fs) (h : Sh τ M (d + 1) t a) : ∃ az, a = .st az ∧ ShL (Sh τ M d) (fs.map (·.2)) az := by
  unfold Sh at h; simp only [ht, Option.map_some, hd] at h; exact h
theorem shl_nil {f : Nat → AV → Prop} {az : List AV} (h : ShL f [] az) : az = [] := by
  cases az with
  | nil => rfl
  | cons _ _ => exact h.elim
theorem shl_cons {f : Nat → AV → Prop} {t : Nat} {ts : List Nat} {az : List AV} (h : ShL f (t :: ts) az) : ∃ a r, az = a :: r ∧ f t a ∧ ShL f ts r := by
  cases az with
  | nil => exact h.elim
  | cons a r => exact ⟨a, r, rfl, h.1, h.2⟩
/-- Elements, each of a form. -/
theorem sh_list {α : Type} {p : AV → Prop} {q : α → Prop} {f : α → AV} (hp : ∀ x, p x → ∃ y, x = f y ∧ q y) : ∀ {es : List AV}, (∀ x ∈ es, p x) → ∃ ys : List α, es = ys.map f ∧ ∀ y ∈ ys, q y
  | [], _ => ⟨[], rfl, fun y h => by cases h⟩
  | x :: es, h => by
    obtain ⟨y, rfl, hy⟩ := hp x (h x List.mem_cons_self)
    obtain ⟨ys, rfl, hys⟩ := sh_list hp (es := es) fun x hx => h x (List.mem_cons_of_mem _ hx)
    exact ⟨y :: ys, rfl, fun z hz => by rcases List.mem_cons.1 hz with e | e; (subst e; exact hy); exact hys z e⟩
theorem u8_of {n : Int} (h : ilo .u8 ≤ n ∧ n ≤ ihi .u8) : ∃ k : UInt8, Value.int .u8 n = B8 k := ⟨UInt8.ofNat n.toNat, by
  simp only [ilo, ihi] at h
  simp only [B8, UInt8.toNat_ofNat']
  congr 1; omega⟩
end
/-- All cells of a memory. -/
def allOf (w : World) : Gh := ⟨fun b o => w.cell? ⟨b, o, none⟩, [], []⟩
section
variable {H : Type} {enc : TypeId × Value → H} {P : Program} {τ : Tab} {w : World} {sp : Nat → Bool} {held : Bool} {M : Nat}
theorem wf_lohi {k : IntKind} {n : Int} (h : (Lit.int k n).wf = true) : ilo k ≤ n ∧ n ≤ ihi k := by
  cases k <;> simp [Lit.wf, IntKind.min, IntKind.max, IntKind.signed, IntKind.bits] at h <;> simp only [ilo, ihi] <;> omega
theorem isU8_ok (hτ : τ.ok P) {e : Nat} (h : isU8 τ e = true) : P.underlying e = some (.int .u8) := by
  unfold isU8 at h
  split at h
  · rename_i j hj
    have hok := (Tab.get_ok hτ hj).d
    split at h
    · rename_i hd; rw [hd] at hok; exact hok
    · cases h
  · cases h
theorem cells_ty (hτ : τ.ok P) {e : Nat} (h : (Tab.get e τ).isSome = true) : P.cellsOf e = (tyOf τ e).size := by
  unfold tyOf
  cases hj : Tab.get e τ with
  | none => rw [hj] at h; cases h
  | some j =>
    obtain ⟨inf, z, h1, h2, _⟩ := (Tab.get_ok hτ hj).info
    simp [Program.cellsOf, h1, h2]
theorem isU8_some {e : Nat} (h : isU8 τ e = true) : (Tab.get e τ).isSome = true := by
  unfold isU8 at h
  split at h
  · rename_i j hj; rw [hj]; rfl
  · cases h
theorem B8_of {n : Int} (h : 0 ≤ n ∧ n ≤ 255) : B8 (UInt8.ofNat n.toNat) = .int .u8 n := by
  simp only [B8, UInt8.toNat_ofNat']
  congr 1; omega
theorem trod_rc (hτ : τ.ok P) : ∀ (d : Nat) {t fuel : Nat} {cs : List Value} {x : DataW H × List MemPlace}, okT τ d t = true → DataW.trod enc P w 0 sp held fuel t cs = some x → Rows.uptoBulk x.1 ≤ M →
    ∃ a, Sh τ M d t a ∧ RC (allOf w) (tyOf τ t) a cs := by
  intro d
  induction d with
  | zero => intro t fuel cs x h; cases h
  | succ d ih =>
    intro t fuel cs x hok hx hM
    unfold okT at hok
    cases hg : Tab.get t τ with
    | none => rw [hg] at hok; cases hok
    | some i =>
    rw [hg] at hok
    have hi := Tab.get_ok hτ hg
    have hty : tyOf τ t = i.ty := by unfold tyOf; rw [hg]
    have hdd := hi.d
    have hsz : P.cellsOf t = i.ty.size := by rw [← hty]; exact cells_ty hτ (by rw [hg]; rfl)
    rw [hty]
    dsimp only at hok
    have sh : ∀ a, (match some i.d with
      | some (.int k) => ∃ n, a = AV.v (.int k n) ∧ ilo k ≤ n ∧ n ≤ ihi k
      | some .bool => ∃ b, a = .v (.bool b)
      | some .str => ∃ s : ByteArray, a = .v (.string s) ∧ s.size ≤ M
      | some (.slc e) => if isU8 τ e then ∃ l, a = .bs l none ∧ l.length ≤ M else ∃ es, a = .sl (tyOf τ e) es none ∧ es.length ≤ M ∧ ∀ x ∈ es, Sh τ M d e x
      | some (.arr n _) => ∃ l, a = .ba l ∧ l.length = n
      | some (.rcd fs) => ∃ az, a = .st az ∧ ShL (Sh τ M d) (fs.map (·.2)) az
      | _ => False) → Sh τ M (d + 1) t a := fun a h => by unfold Sh; rw [hg]; exact h
    generalize hdi : i.d = D' at hok hdd sh
    cases D' with
    | int k =>
      obtain ⟨n, rfl, rfl, hw⟩ := DataW.trod_int hdd hx
      rw [eq_of_beq hok]
      exact ⟨.v (.int k n), sh _ ⟨n, rfl, wf_lohi hw⟩, .v rfl⟩
    | bool =>
      obtain ⟨b, rfl, rfl⟩ := DataW.trod_bool hdd hx
      rw [eq_of_beq hok]
      exact ⟨.v (.bool b), sh _ ⟨b, rfl⟩, .v rfl⟩
    | str =>
      obtain ⟨s, rfl, rfl, hs⟩ := DataW.trod_string hdd hx
      rw [eq_of_beq hok]
      refine ⟨.v (.string s), sh _ ⟨s, rfl, ?_⟩, .v rfl⟩
      simp only [Rows.uptoBulk] at hM
      have : s.data.toList.length = s.size := by rw [Array.length_toList]; rfl
      omega
    | slc e =>
      simp only [Bool.and_eq_true, Bool.or_eq_true, Bool.not_eq_true', decide_eq_true_eq] at hok
      obtain ⟨⟨⟨h1, h2⟩, h3⟩, h4⟩ := hok
      have hce := cells_ty hτ h2
      rw [eq_of_beq h1]
      by_cases hu : isU8 τ e = true
      · have hu1 : tyOf τ e = .sc := by rcases h4 with h4 | h4; exact eq_of_beq h4.2; rw [h4.1] at hu; cases hu
        have hs0 : P.cellsOf e = 1 := by rw [hce, hu1]; rfl
        rcases ChangeShapes.open_ints hdd (isU8_ok hτ hu) hs0 hx with ⟨rfl, rfl⟩ | ⟨A, len, cap, zs, rfl, _, hl, hm, hz, rfl, hc, hw⟩
        · refine ⟨.bs [] none, sh _ ?_, RC.nil1 rfl⟩
          show ite _ _ _
          rw [if_pos hu]; exact ⟨[], rfl, Nat.zero_le _⟩
        · have hlz : len ≤ zs.length := by rw [hz]; split <;> omega
          have hll : ((zs.take len).map fun n => UInt8.ofNat n.toNat).length = len := by simp [hlz]
          refine ⟨.bs ((zs.take len).map fun n => UInt8.ofNat n.toNat) none, sh _ ?_, ?_⟩
          · show ite _ _ _
            rw [if_pos hu]
            refine ⟨_, rfl, ?_⟩
            rw [hll]
            simp only [Rows.uptoBulk] at hM
            have h5 := bulk_len (ChangeShapes.lits (H := H) .u8 (zs.take len))
            have h6 : (ChangeShapes.lits (H := H) .u8 (zs.take len)).length = len := by simp [ChangeShapes.lits, hlz]
            omega
          · have := RC.bs (g := allOf w) (l := (zs.take len).map fun n => UInt8.ofNat n.toNat) (tok := none) (A := some A) (c := cap) (by rw [hll]; exact hl) hm ?_ (fun i hi => by cases hi)
            · rw [hll] at this; exact this
            · rcases Nat.eq_zero_or_pos len with h0 | h0
              · left; rw [h0]; rfl
              · right
                obtain ⟨b, o, rfl, hcc⟩ := ints_at hc (by omega)
                refine ⟨b, o, rfl, fun j hj => ?_⟩
                rw [hll] at hj
                have h7 := hcc j (by omega)
                show w.cell? _ = _
                rw [h7]
                have h8 : zs.getD j 0 = zs[j]'(by omega) := by simp [List.getD, show j < zs.length by omega]
                have h9 := wf_lohi (hw _ (List.getElem_mem (show j < zs.length by omega)))
                simp only [ilo, ihi] at h9
                rw [h8]
                simp only [List.getElem_map, List.getElem_take]
                rw [B8_of h9]
      · have h4' : okT τ d e = true := by rcases h4 with h4 | h4; exact absurd h4.1 hu; exact h4.2
        rcases DataW.trod_slice hdd hx with ⟨rfl, rfl⟩ | ⟨A, len, cap, elems, rest, n, _, rfl, rfl, _, hl, hm, hlen, hel, _, _⟩
        · refine ⟨.sl (tyOf τ e) [] none, sh _ ?_, RC.nil2 rfl⟩
          show ite _ _ _
          rw [if_neg hu]; exact ⟨[], rfl, Nat.zero_le _, fun x hx => by cases hx⟩
        · simp only [Rows.uptoBulk] at hM
          have hb1 := bulk_len (elems.map (·.1))
          rw [List.length_map, hlen] at hb1
          have each : ∀ k, ∃ p : List Value × AV, k < len → w.cells? 0 (A.add (k * P.cellsOf e)) (P.cellsOf e) = some p.1 ∧ Sh τ M d e p.2 ∧ RC (allOf w) (tyOf τ e) p.2 p.1 := fun k => by
            by_cases hk : k < len
            · have h5 := hel k hk
              rw [List.getElem?_eq_getElem (by omega)] at h5
              obtain ⟨cs', h6, h7⟩ := Option.bind_eq_some_iff.1 h5
              have h8 : Rows.uptoBulk (elems[k]'(by omega)).1 ≤ M := by
                have := bulk_part (List.mem_map_of_mem (f := (·.1)) (List.getElem_mem (show k < elems.length by omega)))
                omega
              obtain ⟨a, ha1, ha2⟩ := ih h4' h7 h8
              exact ⟨(cs', a), fun _ => ⟨h6, ha1, ha2⟩⟩
            · exact ⟨([], .any), fun h => absurd h hk⟩
          obtain ⟨f, hf⟩ := Classical.axiomOfChoice each
          have hll : ((List.range len).map fun k => (f k).2).length = len := by simp
          refine ⟨.sl (tyOf τ e) ((List.range len).map fun k => (f k).2) none, sh _ ?_, ?_⟩
          · show ite _ _ _
            rw [if_neg hu]
            refine ⟨_, rfl, by rw [hll]; omega, fun x hx => ?_⟩
            obtain ⟨k, hk, rfl⟩ := List.mem_map.1 hx
            exact (hf k (List.mem_range.1 hk)).2.1
          · have := RC.sl (g := allOf w) (T := tyOf τ e) (es := (List.range len).map fun k => (f k).2) (tok := none) (A := some A) (c := cap) (by rw [hll]; exact hl) hm (fun k => (f k).1) ?_ (fun k hk => ?_) (fun i hi => by cases hi)
            · rw [hll] at this; exact this
            · rcases Nat.eq_zero_or_pos len with h0 | h0
              · left; rw [h0]; rfl
              · right
                obtain ⟨b, o, spot⟩ := A
                have hs0 : spot = none := by
                  obtain ⟨_, h6, h7⟩ := World.cells?_some (hf 0 h0).1
                  have h8 := h7 0 (by omega)
                  have : 0 < (f 0).1.length := by omega
                  rw [List.getElem?_eq_getElem this] at h8
                  have := World.cell?_spot h8
                  simpa [Addr.add] using this
                subst hs0
                refine ⟨b, o, rfl, fun k hk j u hu => ?_⟩
                rw [hll] at hk
                obtain ⟨_, h6, h7⟩ := World.cells?_some (hf k hk).1
                have hj := (List.getElem?_eq_some_iff.1 hu).1
                have h8 := h7 j (by omega)
                rw [hu, addr_add, addr_add, hce] at h8
                exact h8
            · have hk' : k < len := by rw [hll] at hk; exact hk
              simp only [List.getElem_map, List.getElem_range]
              exact (hf k hk').2.2
    | arr n e =>
      simp only [Bool.and_eq_true] at hok
      obtain ⟨⟨h1, h2⟩, h3⟩ := hok
      have hce : P.cellsOf e = 1 := by rw [cells_ty hτ (isU8_some h1), eq_of_beq h3]; rfl
      obtain ⟨xs, m, _, rfl, hcl, hxl, hx1⟩ := DataW.trod_array hdd.1 hx
      rw [eq_of_beq h2]
      have hn : cs.length = n := by rw [hcl, hsz, eq_of_beq h2]; rfl
      have key : ∀ k (hk : k < cs.length), ∃ q : Int, cs[k] = .int .u8 q ∧ 0 ≤ q ∧ q ≤ 255 := fun k hk => by
        have h5 := hx1 k (by omega)
        rw [List.getElem?_eq_getElem (by omega)] at h5
        obtain ⟨q, h6, _, h7⟩ := DataW.trod_int (isU8_ok hτ h1) h5
        rw [hce, Nat.mul_one] at h6
        have h8 : ((cs.drop k).take 1)[0]? = some (.int .u8 q) := by rw [h6]; rfl
        rw [List.getElem?_take, if_pos (by decide), List.getElem?_drop, Nat.add_zero, List.getElem?_eq_getElem hk] at h8
        injection h8 with h8
        have := wf_lohi h7
        exact ⟨q, h8, this⟩
      have hcs : cs = (cs.map fun v => match v with | .int _ q => UInt8.ofNat q.toNat | _ => 0).map B8 := by
        apply List.ext_getElem
        · simp
        · intro k hk _
          obtain ⟨q, h5, h6⟩ := key k hk
          simp only [List.getElem_map, h5]
          exact (B8_of h6).symm
      obtain ⟨l, hl⟩ : ∃ l : List UInt8, cs = l.map B8 := ⟨_, hcs⟩
      subst hl
      exact ⟨.ba l, sh _ ⟨l, rfl, by simpa using hn⟩, .ba (by simpa using hn)⟩
    | rcd fs =>
      simp only [Bool.and_eq_true, List.all_eq_true] at hok
      obtain ⟨⟨h1, h2⟩, h3⟩ := hok
      obtain ⟨F, hu, hF, _⟩ := hdd
      obtain ⟨xs, m, _, rfl, hcl, hxl, hx1⟩ := DataW.trod_struct hu hx
      simp only [Rows.uptoBulk] at hM
      rw [hsz] at hcl
      have key : ∀ (L : List (Nat × Nat)) (off : Nat) (T : Ty) (k : Nat), fs.drop k = L → lay τ L off T = true → cs.length = off + T.size → ∃ az, ShL (Sh τ M d) (L.map (·.2)) az ∧ RC (allOf w) T (.st az) (cs.drop off) := by
        intro L
        induction L with
        | nil =>
          intro off T k _ hlay hc
          cases T with
          | nl => rw [show cs.drop off = [] from List.drop_eq_nil_of_le (by rw [hc]; exact Nat.le_refl _)]; exact ⟨[], trivial, .nl⟩
          | _ => cases hlay
        | cons p L ihL =>
          intro off T k hk hlay hc
          cases T with
          | cn T Ts =>
            obtain ⟨o, ft⟩ := p
            simp only [lay, Bool.and_eq_true] at hlay
            obtain ⟨⟨⟨h4, h5⟩, h6⟩, h7⟩ := hlay
            obtain rfl := eq_of_beq h4
            obtain rfl := eq_of_beq h6
            have hfk : fs[k]? = some (o, ft) := by
              have : (fs.drop k)[0]? = some (o, ft) := by rw [hk]; rfl
              rw [List.getElem?_drop, Nat.add_zero] at this; exact this
            have hFk : ∃ fl, F[k]? = some fl ∧ fl.offset = o ∧ fl.type = ft := by
              rw [← hF, List.getElem?_map] at hfk
              obtain ⟨fl, h8, h9⟩ := Option.map_eq_some_iff.1 hfk
              simp only [Prod.mk.injEq] at h9
              exact ⟨fl, by simpa using h8, h9.1, h9.2⟩
            obtain ⟨fl, hfl, rfl, rfl⟩ := hFk
            have h8 := hx1 k fl hfl
            have hkx : k < xs.length := by rw [hxl]; have := (Array.getElem?_eq_some_iff.1 hfl).1; exact this
            rw [List.getElem?_eq_getElem hkx] at h8
            have h9 : Rows.uptoBulk xs[k].1 ≤ M := by
              have := bulk_part (List.mem_map_of_mem (f := (·.1)) (List.getElem_mem hkx))
              omega
            obtain ⟨a, ha1, ha2⟩ := ih (h3 _ (List.mem_of_getElem? hfk)) h8 h9
            obtain ⟨az, hz1, hz2⟩ := ihL (fl.offset + (tyOf τ fl.type).size) Ts (k + 1) (by rw [← List.drop_drop, hk]; rfl) h7 (by rw [hc]; simp only [Ty.size]; omega)
            refine ⟨a :: az, ⟨ha1, hz1⟩, ?_⟩
            have := RC.cn ha2 hz2
            rw [cells_ty hτ h5, ← List.drop_drop, List.take_append_drop] at this
            exact this
          | _ => cases hlay
      obtain ⟨az, hz1, hz2⟩ := key fs 0 i.ty 0 rfl h1 (by rw [hcl]; omega)
      exact ⟨.st az, sh _ ⟨az, rfl, hz1⟩, hz2⟩
    | _ => cases hok
theorem arg_rv (hτ : τ.ok P) {d t b0 : Nat} {r : Reach} {v : Value} {x : DataW H} {ps : List MemPlace} (hok : okT τ d t = true) (hval : Value.okWide P w r b0 t v) (hx : DataW.Trod enc P w 0 sp held t v x ps) (hM : Rows.uptoBulk x ≤ M) :
    ∃ a, Sh τ M d t a ∧ RV (allOf w) a v := by
  obtain ⟨fuel, hf⟩ := hx
  obtain ⟨a, h1, h2⟩ := trod_rc hτ d hok hf hM
  refine ⟨a, h1, ?_⟩
  cases d with
  | zero => cases hok
  | succ d =>
  unfold okT at hok
  cases hg : Tab.get t τ with
  | none => rw [hg] at hok; cases hok
  | some i =>
  rw [hg] at hok
  have hdd := (Tab.get_ok hτ hg).d
  have hty : tyOf τ t = i.ty := by unfold tyOf; rw [hg]
  rw [hty] at h2
  dsimp only at hok
  have hag : i.ty.agg = true → (∃ cs, v = .agg cs) → RV (allOf w) a v := fun h3 ⟨cs, hv⟩ => by
    subst hv
    refine (show RV1 (allOf w) a (.agg cs) from .inl ⟨i.ty, cs.toList, h3, h2, rfl⟩).rv
  have hsc : i.ty = .sc → v.cells.toList = [v] → RV (allOf w) a v := fun h3 hv => by
    rw [h3, hv] at h2; exact h2.rvp
  generalize i.d = D' at hok hdd
  cases D' with
  | int k => obtain ⟨n, rfl⟩ := WideShapes.okWide_int hdd hval; exact hsc (eq_of_beq hok) rfl
  | bool => obtain ⟨n, rfl⟩ := WideShapes.okWide_bool hdd hval; exact hsc (eq_of_beq hok) rfl
  | str => obtain ⟨n, rfl⟩ := WideShapes.okWide_string hdd hval; exact hsc (eq_of_beq hok) rfl
  | slc e =>
    obtain ⟨A, len, cap, rfl⟩ := WideShapes.okWide_slice hdd hval
    simp only [Bool.and_eq_true] at hok
    exact hsc (eq_of_beq hok.1.1.1) rfl
  | arr n e =>
    simp only [Bool.and_eq_true] at hok
    have hu := hdd.1
    simp only [Value.okWide, hu] at hval
    obtain ⟨cs, rfl, _⟩ := hval
    exact hag (by rw [eq_of_beq hok.1.2]; rfl) ⟨cs, rfl⟩
  | rcd fs =>
    simp only [Bool.and_eq_true] at hok
    obtain ⟨F, hu, _⟩ := hdd
    obtain ⟨cs, rfl, _⟩ := WideShapes.okWide_struct hu hval
    exact hag hok.1.2 ⟨cs, rfl⟩
  | _ => cases hok
/-- All arguments. -/
theorem args_rv (hτ : τ.ok P) {d b0 : Nat} {r : Reach} : ∀ {ts : List TypeId} {vs : List Value} {ds : List (DataW H)} {ps : List MemPlace}, (ts.all fun t => okT τ d t) = true → DataW.TrodAll enc P w 0 sp held ts vs ds ps →
    (∀ (j : Nat) t v, ts[j]? = some t → vs[j]? = some v → Value.okWide P w r b0 t v) → Rows.uptoBulkAll ds ≤ M →
    ∃ az, ShL (Sh τ M d) ts az ∧ vs.length = az.length ∧ ∀ (i : Nat) x v, az[i]? = some x → vs[i]? = some v → RV (allOf w) x v
  | [], [], [], _, _, _, _, _ => ⟨[], trivial, rfl, fun i x v h => by simp at h⟩
  | t :: ts, v :: vs, x :: ds, _, hok, h, hval, hM => by
    obtain ⟨p, q, h1, h2, _⟩ := h
    simp only [List.all_cons, Bool.and_eq_true] at hok
    simp only [Rows.uptoBulkAll] at hM
    obtain ⟨a, ha1, ha2⟩ := arg_rv (M := M) hτ hok.1 (hval 0 t v rfl rfl) h1 (by omega)
    obtain ⟨az, hz1, hz2, hz3⟩ := args_rv hτ hok.2 h2 (fun j t v hj hv => hval (j + 1) t v hj hv) (by omega)
    refine ⟨a :: az, ⟨ha1, hz1⟩, by simp [hz2], fun i y u hy hu => ?_⟩
    cases i with
    | zero =>
      simp only [List.getElem?_cons_zero, Option.some.injEq] at hy hu
      subst hy hu; exact ha2
    | succ i => exact hz3 i y u (by simpa using hy) (by simpa using hu)
  | [], _ :: _, _, _, _, h, _, _ => by cases h
  | [], [], _ :: _, _, _, h, _, _ => by cases h
  | _ :: _, [], _, _, _, h, _, _ => by cases h
  | _ :: _, _ :: _, [], _, _, h, _, _ => by cases h
theorem allOf_inv (P : Program) (w : World) : Inv P w (allOf w) (allOf w) [] [] [] w := by
  have nb : ∀ (i : Nat) (x : Bx), (allOf w).bx[i]? = some x → False := fun i x h => by simp [allOf] at h
  have nr : ∀ (i : Nat) (x : Rw), (allOf w).rw[i]? = some x → False := fun i x h => by simp [allOf] at h
  refine ⟨⟨fun b o u h => h, fun i x hx => (nb i x hx).elim, fun i x hx => (nb i x hx).elim, fun i x hx => (nb i x hx).elim, fun i r hr => (nr i r hr).elim, fun i x hx => (nb i x hx).elim, fun i x hx => (nb i x hx).elim, fun i j x y hx => (nb i x hx).elim, fun i r k hr => (nr i r hr).elim, fun i r k hr => (nr i r hr).elim, fun i j x r hx => (nb i x hx).elim, fun i j r s k hr => (nr i r hr).elim⟩,
    ⟨Kept.refl _ _, fun i x hx => (nb i x hx).elim, fun i r k hr => (nr i r hr).elim, fun b _ _ o => rfl, Gh.le.refl _⟩, ⟨rfl, fun i T a h => by simp at h⟩, fun i x hx => (nb i x hx).elim, rfl, fun r hr => by simp [allOf] at hr⟩
/-- A law's function, called: true, and nothing old has turned. -/
theorem law_calls (hτ : τ.ok P) {f : FuncId} {fn : Func} {d b0 : Nat} {r : Reach} {args : Array Value} {ds : List (DataW H)} {ps : List MemPlace} (hok : (fn.params.toList.all fun t => okT τ d t) = true)
    (hT : DataW.TrodAll enc P w 0 sp held fn.params.toList args.toList ds ps) (hval : ∀ (j : Nat) t v, fn.params[j]? = some t → args[j]? = some v → Value.okWide P w r b0 t v) (hM : Rows.uptoBulkAll ds ≤ M)
    (h : ∀ az, ShL (Sh τ M d) fn.params.toList az → VC P f az [] (.v (.bool true))) : Calls P f args w fun e w' => e = .returned (.bool true) ∧ Below w.heap.size w w' := by
  obtain ⟨az, h1, h2, h3⟩ := args_rv (M := M) hτ hok hT (fun j t v hj hv => hval j t v (by simpa using hj) (by simpa using hv)) hM
  have := (h az h1).2 w (allOf w) args.toList (allOf_inv P w) h2 h3
  refine this.mono fun e w' hp => ?_
  obtain ⟨g, v, rfl, hi, hv⟩ := hp
  refine ⟨by rw [hv.v_inv], hi.fr.kept.below (Nat.le_refl _) fun k _ hk => ?_⟩
  rcases hk with ⟨x, hx, _⟩ | ⟨x, hx, _⟩ <;> simp [allOf] at hx
theorem trodAll_below (hl : laidOutB P = true) {W W' : World} (hb : Below W.heap.size W W') : ∀ {ts : List TypeId} {vs : List Value} {ds : List (DataW H)} {ps : List MemPlace}, (ts.all fun t => P.readableRec t && decide (t < P.types.size)) = true →
    DataW.TrodAll enc P W 0 (fun _ => true) true ts vs ds ps → (∀ x ∈ ps, x.block < W.heap.size) → DataW.TrodAll enc P W' 0 (fun b => decide (b < W.heap.size)) true ts vs ds ps
  | [], [], [], _, _, h, _ => h
  | t :: ts, v :: vs, x :: ds, _, hr, h, hlt => by
    obtain ⟨p, q, h1, h2, rfl⟩ := h
    simp only [List.all_cons, Bool.and_eq_true, decide_eq_true_eq] at hr
    exact ⟨p, q, Below.trod hl hr.1.1 hr.1.2 h1 hb (fun x hx => hlt x (List.mem_append_left _ hx)), trodAll_below hl hb hr.2 h2 (fun x hx => hlt x (List.mem_append_right _ hx)), rfl⟩
  | [], _ :: _, _, _, _, h, _ => by cases h
  | [], [], _ :: _, _, _, h, _ => by cases h
  | _ :: _, [], _, _, _, h, _ => by cases h
  | _ :: _, _ :: _, [], _, _, h, _ => by cases h
/-- What a statement's form asks for: true is handed back, the arguments are as they were. -/
theorem post_true (hl : laidOutB P = true) {fn : Func} {s : ChangeSpec} {W W' : World} {args : Array Value} {ds gs : List (DataW H)} {before : List MemPlace} {bt : TypeId}
    (hW : DataW.Whole enc P fn.params.toList s.vars false W args.toList ds gs before) (hb : Below W.heap.size W W') (hr : (fn.params.toList.all fun t => P.readableRec t && decide (t < P.types.size)) = true) (hv : s.vars = []) (hrt : fn.resultTypes = #[bt]) (hbt : P.underlying bt = some .bool)
    (hs : s.fn H (ds ++ gs) = ⟨[.lit (.bool true)], ds, []⟩) : s.post enc P fn false true false false W args (.bool true) W' := by
  have hlt := fun x hx => hW.lt x hx
  obtain ⟨p, q, hA, hV, rfl, hfz, hnd⟩ := id hW
  refine ⟨ds, gs, p ++ q, [], p, [], hW, ?_, ?_, ?_, hb.frame _, fun h => by cases h⟩
  · rw [hrt, hs]
    exact ⟨[], [], ⟨1, by simp [DataW.trod, hbt, Value.cells]⟩, rfl, rfl⟩
  · rw [hs]
    exact trodAll_below hl hb hr hA fun x hx => by simpa using hlt x (List.mem_append_left _ hx)
  · rw [hs, hv]; rfl
end
end Go.Proofs.Ytigmpdhnhkdeiaa
/- What grows, lent to a call that only reads it. -/
namespace Go.Proofs.Ytigmpdhnhkdeiaa
open Go Go.RowKit
def flat : Nat → AV → Bool
  | _, .v _ => true
  | _, .ba _ => true
  | d + 1, .st fs => fs.all (flat d)
  | d + 1, .tup fs => fs.all (flat d)
  | _, _ => false
section
variable {P : Program} {τ : Tab} {w0 w : World} {N : Gh} {g gS : Gh} {st st' sq sq' : St} {nt : Nat} {a : Act}
theorem RC.flat_ {g g' : Gh} : ∀ {d : Nat} {T : Ty} {x : AV} {cs : List Value}, RC g T x cs → flat d x = true → RC g' T x cs := by
  intro d
  induction d with
  | zero => intro T x cs h hp; cases h <;> first | exact .v ‹_› | exact .ba ‹_› | (simp [flat] at hp)
  | succ d ih =>
    have key : ∀ {T : Ty} {cs : List Value} {fs : List AV}, RC g T (.st fs) cs → fs.all (flat d) = true → RC g' T (.st fs) cs := by
      intro T
      induction T with
      | cn T Ts _ ihs =>
        intro cs fs h hp
        cases h with
        | cn h hs =>
          simp only [List.all_cons, Bool.and_eq_true] at hp
          exact .cn (ih h hp.1) (ihs hs hp.2)
      | nl => intro cs fs h hp; cases h; exact .nl
      | _ => intro cs fs h hp; cases h
    intro T x cs h hp
    cases h with
    | v h => exact .v h
    | ba h => exact .ba h
    | nl => exact .nl
    | cn h hs => exact key (.cn h hs) hp
    | _ => simp [flat] at hp
theorem RV1.flat_ {g g' : Gh} {d : Nat} {x : AV} {v : Value} (h : RV1 g x v) (hp : flat d x = true) : RV1 g' x v := by
  rcases h with ⟨T, cs, h1, h2, h3⟩ | h
  · exact .inl ⟨T, cs, h1, h2.flat_ hp, h3⟩
  · exact .inr (h.flat_ hp)
theorem RV.flat_ {g g' : Gh} {d : Nat} {x : AV} {v : Value} (h : RV g x v) (hp : flat (d + 1) x = true) : RV g' x v := by
  cases x with
  | any => trivial
  | tup az =>
    obtain ⟨vs, h1, h2, h3⟩ := h
    simp only [flat, List.all_eq_true] at hp
    exact ⟨vs, h1, h2, fun i a u ha hu => (h3 i a u ha hu).flat_ (hp a (List.mem_of_getElem? ha))⟩
  | _ => exact RV1.flat_ (d := d + 1) h hp
end
section
variable {P : Program} {τ : Tab} {w0 w : World} {N : Gh} {g gS : Gh} {st st' sq sq' : St} {nt : Nat} {a : Act} {r : AV} {cd : Prop}
end
end Go.Proofs.Ytigmpdhnhkdeiaa
/- The statements' kit: do lists share memory? -/
namespace Go.Proofs.Ytigmpdhnhkdeiaa
open Go Go.RowKit
attribute [local irreducible] wpT
/-- A slice, in its three parts. -/
abbrev SV := Option Addr × Nat × Nat
abbrev SV.v (x : SV) : Value := .slice x.1 x.2.1 x.2.2
/-- A row, and what the list that names it says of it. -/
abbrev ARow := SV × List UInt8 × List UInt8 × TypeId
abbrev ARow.str (x : ARow) : Value := .string (strOf (x.2.1 ++ x.2.2.1))
/-- Rows that do not share memory. -/
structure Apart (w : World) (base : Nat) (L : List ARow) : Prop where
  own : ∀ i (hi : i < L.length), Own (byteT L[i].2.2.2) w base L[i].1.v L[i].2.1 L[i].2.2.1
  ne : ∀ i j (hi : i < L.length) (hj : j < L.length), i ≠ j → L[i].1.v.ownBlock = none ∨ L[i].1.v.ownBlock ≠ L[j].1.v.ownBlock
theorem Apart.below {w w' : World} {base : Nat} {L : List ARow} (h : Apart w base L) (hb : Below w.heap.size w w') : Apart w' base L :=
  ⟨fun i hi => (h.own i hi).belowSize hb, h.ne⟩
end Go.Proofs.Ytigmpdhnhkdeiaa
/- ApartBytes of slices that own their memory, written out where they are asked about; guards that are known to hold. -/
namespace Go.Proofs.Ytigmpdhnhkdeiaa
open Go Go.RowKit
section
variable {P : Program} {τ : Tab} {w0 w : World} {N : Gh} {g gS : Gh} {st st' sq sq' : St} {nt : Nat} {a : Act}
theorem zero_u8 : zeroOf Try.prog 5 = [.int .u8 0] := by kernel_rfl
theorem flat_z (m : Nat) : (List.replicate m [Value.int .u8 0]).flatten = (List.replicate m (0 : UInt8)).map B8 := by
  induction m with
  | zero => rfl
  | succ m ih => rw [List.replicate_succ, List.flatten_cons, ih, List.replicate_succ]; rfl
end
end Go.Proofs.Ytigmpdhnhkdeiaa
/- Rows that no frame owns: lists of bytes, each with memory of its own; contracts that hand them out. -/
namespace Go.Proofs.Ytigmpdhnhkdeiaa
open Go Go.RowKit
/-- A slice on its own: its block, its length and room, the block's cells; the first k of them stay as they are. -/
structure XR where
  A : Option Nat
  n : Nat
  c : Nat
  tid : TypeId
  cells : List Value
  k : Nat
def XR.v (x : XR) : Value := .slice (x.A.map fun b => ⟨b, 0, none⟩) x.n x.c
theorem XR.own (x : XR) : x.v.ownBlock = x.A := by unfold XR.v; cases x.A <;> rfl
structure XOk (lo : Nat) (g : Gh) (w : World) (x : XR) : Prop where
  le : x.n ≤ x.c ∧ x.c ≤ maxLen
  nil : x.A = none → x.c = 0
  own : ∀ b, x.A = some b → ¬ g.has b ∧ lo ≤ b ∧ Blk w b x.tid x.cells.toArray ∧ ∀ o u, o < x.k → x.cells[o]? = some u → g.ro b o = some u
theorem XOk.lt {lo : Nat} {g : Gh} {w : World} {x : XR} (h : XOk lo g w x) {b : Nat} (hb : x.A = some b) : b < w.heap.size := (h.own b hb).2.2.1.lt
def XApart (X : List XR) : Prop := X.Pairwise fun x y => x.A = none ∨ x.A ≠ y.A
structure Xs (lo : Nat) (g : Gh) (w : World) (X : List XR) : Prop where
  ok : ∀ x ∈ X, XOk lo g w x
  un : XApart X
/-- As Fr, but for blocks from lo on. -/
structure FrX (lo : Nat) (w0 : World) (N g : Gh) (w : World) : Prop where
  os : w.os = w0.os
  tape : w.tape = w0.tape
  output : w.output = w0.output
  size : w0.heap.size ≤ w.heap.size
  block : ∀ k, k < w0.heap.size → k < lo → ¬ N.has k → w.heap[k]? = w0.heap[k]?
  bx : ∀ (i : Nat) (x : Bx), g.bx[i]? = some x → x.off = false → w0.heap.size ≤ x.blk ∨ ∃ y, N.bx[i]? = some y ∧ y.off = false ∧ y.blk = x.blk
  rw : ∀ (i : Nat) (r : Rw) (k : Nat), g.rw[i]? = some r → r.v.ownBlock = some k → w0.heap.size ≤ k ∨ ∃ s, N.rw[i]? = some s ∧ s.v.ownBlock = some k
  ro : ∀ b, b < w0.heap.size → b < lo → ¬ N.has b → ∀ o, g.ro b o = N.ro b o
  le : N.le g
section
variable {P : Program} {τ : Tab} {w0 w w1 w2 : World} {N N1 N2 : Gh} {g g1 gS : Gh} {st st' sq sq' : St} {nt : Nat} {a : Act} {lo : Nat} {X Y : List XR}
theorem FrX.of (h : Fr w0 N g w) (lo : Nat) : FrX lo w0 N g w := ⟨h.kept.os, h.kept.tape, h.kept.output, h.kept.size, fun k hk _ hn => h.kept.block k hk hn, h.bx, h.rw, fun b hb _ hn => h.ro b hb hn, h.le⟩
theorem FrX.fr (h : FrX lo w0 N g w) (hlo : w0.heap.size ≤ lo) : Fr w0 N g w := ⟨⟨h.os, h.tape, h.output, h.size, fun k hk hn => h.block k hk (by omega) hn⟩, h.bx, h.rw, fun b hb hn => h.ro b hb (by omega) hn, h.le⟩
theorem FrX.back (h : FrX lo w0 N g w) {b : Nat} (hb : b < w0.heap.size) (hh : g.has b) : N.has b := by
  rcases hh with ⟨y, hy, hyo, he⟩ | ⟨s, hr, he⟩
  · obtain ⟨i, hi⟩ := List.getElem?_of_mem hy
    rcases h.bx i y hi hyo with h3 | ⟨z, h3, h4, h5⟩
    · omega
    · exact .inl ⟨z, List.mem_of_getElem? h3, h4, h5.trans he⟩
  · obtain ⟨i, hi⟩ := List.getElem?_of_mem hr
    rcases h.rw i s b hi he with h3 | ⟨z, h3, h4⟩
    · omega
    · exact .inr ⟨z, List.mem_of_getElem? h3, h4⟩
theorem FrX.trans (h : FrX lo w0 N N1 w1) (k : FrX lo w1 N1 g w) : FrX lo w0 N g w := by
  have hs := h.size
  refine ⟨k.os.trans h.os, k.tape.trans h.tape, k.output.trans h.output, Nat.le_trans h.size k.size, fun b hb hl hn => (k.block b (by omega) hl (fun hh => hn (h.back hb hh))).trans (h.block b hb hl hn), fun i x hx hxo => ?_, fun i r b hr hrb => ?_, fun b hb hl hn o => (k.ro b (by omega) hl (fun hh => hn (h.back hb hh)) o).trans (h.ro b hb hl hn o), h.le.trans k.le⟩
  · rcases k.bx i x hx hxo with h1 | ⟨y, h1, h2, h3⟩
    · exact .inl (by omega)
    · rw [← h3]; exact h.bx i y h1 h2
  · rcases k.rw i r b hr hrb with h1 | ⟨s, h1, h2⟩
    · exact .inl (by omega)
    · exact h.rw i s b h1 h2
theorem Inv.self {bx : List (Ty × AV)} {fz : List Nat} {rw : List (TypeId × Nat)} (HI : Inv P w0 N g bx fz rw w) : Inv P w g g bx fz rw w :=
  ⟨HI.mem, ⟨Kept.refl _ _, fun i x hx hxo => .inr ⟨x, hx, hxo, rfl⟩, fun i r k hr hrk => .inr ⟨r, hr, hrk⟩, fun _ _ _ _ => rfl, Gh.le.refl _⟩, HI.br, HI.fz, HI.wr, HI.wz⟩
theorem XOk.step {x : XR} (h : XOk lo N1 w1 x) {bx : List (Ty × AV)} {fz : List Nat} {rw : List (TypeId × Nat)} (HI : Inv P w1 N1 g bx fz rw w) : XOk lo g w x := by
  have hB := FrX.of HI.fr w1.heap.size
  refine ⟨h.le, h.nil, fun b hb => ?_⟩
  obtain ⟨h1, h2, h3, h4⟩ := h.own b hb
  exact ⟨fun hh => h1 (hB.back h3.lt hh), h2, h3.kept HI.fr.kept h1, fun o u ho hu => HI.fr.le.ro _ _ _ (h4 o u ho hu)⟩
theorem Xs.step (h : Xs lo N1 w1 X) {bx : List (Ty × AV)} {fz : List Nat} {rw : List (TypeId × Nat)} (HI : Inv P w1 N1 g bx fz rw w) : Xs lo g w X := ⟨fun x hx => (h.ok x hx).step HI, h.un⟩
/-- A frame, and rows on their own. -/
def RelX (lo : Nat) (P : Program) (w0 : World) (N : Gh) (nt : Nat) (st : St) (X : List XR) (a : Act) (w : World) : Prop :=
  ∃ g, Inv P w g g st.bx st.fz st.rw w ∧ FrX lo w0 N g w ∧ FR g nt st a ∧ Xs lo g w X
theorem Rel.toX (H : Rel P w0 N nt st a w) (lo : Nat) : RelX lo P w0 N nt st [] a w := by
  obtain ⟨g, HI, hF⟩ := H
  exact ⟨g, HI.self, .of HI.fr lo, hF, ⟨fun x hx => (by cases hx), List.Pairwise.nil⟩⟩
theorem RelX.open_ (H : RelX lo P w0 N nt st X a w) : ∃ N1, FrX lo w0 N N1 w ∧ Xs lo N1 w X ∧ Rel P w N1 nt st a w ∧ N1.bx.length = st.bx.length ∧ N1.rw.length = st.rw.length := by
  obtain ⟨g, HI, hB, hF, hX⟩ := H
  exact ⟨g, hB, hX, ⟨g, HI, hF⟩, HI.br.len, by rw [← HI.wr, List.length_map]⟩
theorem RelX.close (hB : FrX lo w0 N N1 w1) (hX : Xs lo N1 w1 X) (H : Rel P w1 N1 nt st a w) : RelX lo P w0 N nt st X a w := by
  obtain ⟨g, HI, hF⟩ := H
  exact ⟨g, HI.self, hB.trans (.of HI.fr lo), hF, hX.step HI⟩
theorem RelX.eq (H : RelX lo P w0 N nt st X a w) (h : X = Y) : RelX lo P w0 N nt st Y a w := h ▸ H
/-- Lent bytes that are the last box become a slice on its own. -/
theorem v_pubC0 (HI : Inv P w g g st.bx st.fz st.rw w) (hB : FrX lo w0 N g w) (hF : FR g nt st a) (hX : Xs lo g w X) (hlo : lo ≤ w0.heap.size) (ks : List Nat) (d i : Nat) {full : List UInt8} {n m : Nat} {l' : List UInt8} (hi : st.bx.length = i + 1) (hNi : N.bx.length ≤ i) (hd : find d st.t = some (none, .bc full n (some i))) (hbx0 : st.bx[i]? = some (.ba m, .ba l'))
    (h1 : keepT ks i st.rw.length st.t = true) (h2 : (st.bx.take i).all (fun x => low i st.rw.length 4 x.2) = true) :
    ∃ x : XR, (x.n = n ∧ x.c = full.length ∧ x.k = full.length ∧ x.cells = full.map B8) ∧ Inv P w (g.cut i st.rw.length) (g.cut i st.rw.length) (st.bx.take i) (st.fz.filter (fun j => decide (j < i))) (st.rw.take st.rw.length) w ∧ FrX lo w0 N (g.cut i st.rw.length) w ∧ FR (g.cut i st.rw.length) nt ⟨(d, none, .v x.v) :: st.t.filter (fun p => ks.contains p.1), st.bx.take i, st.fz.filter (fun j => decide (j < i)), st.rw.take st.rw.length⟩ a ∧ Xs lo (g.cut i st.rw.length) w (X ++ [x]) := by
  have hbl : g.bx.length = i + 1 := by rw [← hi]; exact HI.br.len
  have hrl : g.rw.length = st.rw.length := by rw [← HI.wr, List.length_map]
  have hbs := (hF.t _ (find_mem hd) trivial).bc_inv
  generalize hvd : a.tmps.getD d undef = vd at hbs
  cases hbs with
  | bc hn hm hr ht =>
    rename_i A
    obtain ⟨y, hy, hA, hty⟩ := ht i rfl
    obtain ⟨y', hy', hT, hrc⟩ := HI.br.at_ i _ _ hbx0
    rw [hy] at hy'; injection hy' with hy'; subst hy'
    rw [hty] at hT; injection hT with hT
    obtain ⟨hyo, hym, hrc⟩ := hrc.rc rfl
    have hblk := (HI.mem.bx i y hy hyo).c hym
    have hcells : y.cells = l'.map B8 ∧ l'.length = m := by
      generalize hcs : y.cells = cs at hrc
      cases hrc with
      | ba h => exact ⟨rfl, h⟩
    have hll : l'.length = full.length := by rw [hcells.2, hT]
    have hfl : l' = full := by
      apply List.ext_getElem hll
      intro j hj1 hj2
      rcases hr with h | ⟨b, o, hb, hj⟩
      · subst h; simp at hj2
      · rw [hA] at hb
        injection hb with hb
        injection hb with hb1 hb2
        have h5 := HI.mem.ro _ _ _ (hj j hj2)
        rw [← hb1, ← hb2, Nat.zero_add, hblk.cell, hcells.1] at h5
        simp only [List.getElem?_toArray, List.getElem?_map, List.getElem?_eq_getElem hj1, Option.map_some, Option.some.injEq] at h5
        have h6 : B8 l'[j] = B8 full[j] := h5
        simp only [B8, Value.int.injEq, true_and] at h6
        exact UInt8.toNat_inj.1 (by omega)
    subst hfl
    have hcut := HI.loose.cut (nb := i) (nr := st.rw.length) (Nat.zero_le _) (Nat.zero_le _) h2
    have hbx : ∀ {j : Nat} {x : Bx}, (g.cut i st.rw.length).bx[j]? = some x → j < i ∧ g.bx[j]? = some x := fun {j x} hx => by
      have : (g.bx.take i)[j]? = some x := hx
      rw [List.getElem?_take] at this; split at this; exact ⟨by assumption, this⟩; cases this
    have hrw : ∀ {j : Nat} {x : Rw}, (g.cut i st.rw.length).rw[j]? = some x → g.rw[j]? = some x := fun {j x} hx => by
      have : (g.rw.take st.rw.length)[j]? = some x := hx
      rw [List.getElem?_take] at this; split at this; exact this; cases this
    have hhas : ∀ b, (g.cut i st.rw.length).has b → g.has b := fun b hh => by
      rcases hh with ⟨y, hy, h⟩ | ⟨s, hs, h⟩
      · exact .inl ⟨y, List.mem_of_mem_take hy, h⟩
      · exact .inr ⟨s, List.mem_of_mem_take hs, h⟩
    have hself := hcut.self
    refine ⟨⟨some y.blk, n, l'.length, y.tid, l'.map B8, l'.length⟩, ⟨rfl, rfl, rfl, rfl⟩, ⟨hself.mem, hself.fr, hself.br, fun j x hx hf => ?_, hself.wr, hself.wz⟩, ⟨hB.os, hB.tape, hB.output, hB.size, hB.block, fun j x hx => hB.bx j x (hbx hx).2, fun j s b hs => hB.rw j s b (hrw hs), hB.ro, hB.le.ro, fun j x hx => ?_, fun j s hs => ?_⟩, ⟨hF.sz, hF.df, fun p hp hg => ?_, fun p hp hg => ?_⟩, ⟨fun x hx => ?_, ?_⟩⟩
    · exact List.mem_filter.2 ⟨HI.fz j x (hbx hx).2 hf, decide_eq_true (hbx hx).1⟩
    · obtain ⟨x', q1, q2⟩ := hB.le.bx j x hx
      refine ⟨x', ?_, q2⟩
      show (g.bx.take i)[j]? = _
      rw [List.getElem?_take, if_pos (Nat.lt_of_lt_of_le (List.getElem?_eq_some_iff.1 hx).1 hNi)]; exact q1
    · obtain ⟨x', q1, q2⟩ := hB.le.rw j s hs
      refine ⟨x', ?_, q2⟩
      show (g.rw.take st.rw.length)[j]? = _
      rw [List.getElem?_take, if_pos (by rw [← hrl]; exact (List.getElem?_eq_some_iff.1 q1).1)]; exact q1
    · rcases List.mem_cons.1 hp with rfl | hp
      · show RV _ (.v _) (a.tmps.getD d undef)
        rw [hvd, hA]; exact RV.v_of rfl
      · simp only [List.mem_filter] at hp
        simp only [keepT, List.all_eq_true, Bool.or_eq_true, Bool.not_eq_true'] at h1
        have hl : low i st.rw.length 4 p.2.2 = true := by
          rcases h1 p hp.1 with h | h
          · rw [h] at hp; cases hp.2
          · exact h
        exact (hF.t p hp.1 hg).low_ (d := 3) hl
    · rcases List.mem_cons.1 hp with rfl | hp
      · exact absurd trivial hg
      · simp only [List.mem_filter] at hp; exact hF.u p hp.1 hg
    · rcases List.mem_append.1 hx with hx | hx
      · have h := hX.ok x hx
        exact ⟨h.le, h.nil, fun b hb => ⟨fun hh => (h.own b hb).1 (hhas b hh), (h.own b hb).2⟩⟩
      · simp only [List.mem_singleton] at hx
        subst hx
        refine ⟨⟨hn, hm⟩, fun hA => (by cases hA), fun b hb => ?_⟩
        injection hb with hb
        subst hb
        refine ⟨fun hh => ?_, ?_, by rw [← hcells.1]; exact hblk, fun o u ho hu => ?_⟩
        · rcases hh with ⟨z, hz, hzo, he⟩ | ⟨s, hs, he⟩
          · obtain ⟨j, hj⟩ := List.getElem?_of_mem hz
            have := HI.mem.bb j i z y (hbx hj).2 hy hzo hyo he
            have := (hbx hj).1
            omega
          · obtain ⟨j, hj⟩ := List.getElem?_of_mem hs
            exact HI.mem.rb i j y s hy (hrw hj) hyo he
        · rcases hB.bx i y hy hyo with h | ⟨s, h, _⟩
          · omega
          · have := (List.getElem?_eq_some_iff.1 h).1; omega
        · rcases hr with h | ⟨b, o', hb, hj⟩
          · subst h; simp at hu
          · rw [hA] at hb
            injection hb with hb
            injection hb with hb1 hb2
            have hol : o < l'.length := ho
            have := hj o hol
            rw [← hb1, ← hb2, Nat.zero_add] at this
            have hu : (l'.map B8)[o]? = some u := hu
            rw [List.getElem?_map, List.getElem?_eq_getElem hol] at hu
            show g.ro y.blk o = some u
            rw [this]; exact hu
    · unfold XApart
      rw [List.pairwise_append]
      refine ⟨hX.un, List.pairwise_singleton _ _, fun x hx z hz => ?_⟩
      simp only [List.mem_singleton] at hz
      subst hz
      cases hb : x.A with
      | none => exact .inl rfl
      | some b =>
        refine .inr fun e => ?_
        injection e with e
        exact ((hX.ok x hx).own b hb).1 (.inl ⟨y, List.mem_of_getElem? hy, hyo, e.symm⟩)
/-- Rows on their own are seen as bytes. -/
inductive SeeX (X : List XR) : AV → AV → Prop
  | refl (x : AV) : SeeX X x x
  | pub (x : XR) (l : List UInt8) (h : x ∈ X) (hk : l.length ≤ x.k) (hn : x.n = l.length) (hc : x.cells.take l.length = l.map B8) : SeeX X (.v x.v) (.bs l none)
  | pubc (x : XR) (full : List UInt8) (h : x ∈ X) (hk : full.length ≤ x.k) (hc : x.c = full.length) (hs : x.cells = full.map B8) : SeeX X (.v x.v) (.bc full x.n none)
  | bs (l : List UInt8) (tok : Option Nat) : SeeX X (.bs l tok) (.bs l none)
  | bc (full l : List UInt8) (n : Nat) (tok : Option Nat) (h : full.take n = l) : SeeX X (.bc full n tok) (.bs l none)
  | nil : SeeX X (.v (.slice none 0 0)) (.bs [] none)
  | st {fs fs' : List AV} (hl : fs.length = fs'.length) (h : ∀ i (h1 : i < fs.length) (h2 : i < fs'.length), SeeX X fs[i] fs'[i]) : SeeX X (.st fs) (.st fs')
  | sl {T : Ty} {es es' : List AV} {tok : Option Nat} (hl : es.length = es'.length) (h : ∀ i (h1 : i < es.length) (h2 : i < es'.length), SeeX X es[i] es'[i]) : SeeX X (.sl T es tok) (.sl T es' none)
theorem RC.seeX {x y : AV} (hX : Xs lo N w0 X) (hs : SeeX X x y) : ∀ {g : Gh} {T : Ty} {cs : List Value}, (∀ b o u, N.ro b o = some u → g.ro b o = some u) → RC g T x cs → RC g T y cs := by
  induction hs with
  | refl x => intro g T cs _ h; exact h
  | pub x l hx hk hn hc =>
    intro g T cs hro h
    obtain ⟨rfl, rfl⟩ := h.v_inv
    have ho := hX.ok x hx
    unfold XR.v
    rw [hn]
    refine .bs (by have := ho.le.1; omega) ho.le.2 ?_ fun i hi => by cases hi
    cases hA : x.A with
    | none => left; have := ho.nil hA; have := ho.le.1; exact List.length_eq_zero_iff.1 (by omega)
    | some b =>
      right
      refine ⟨b, 0, rfl, fun j hj => ?_⟩
      rw [Nat.zero_add]
      refine hro _ _ _ ((ho.own b hA).2.2.2 j _ (by omega) ?_)
      have : (x.cells.take l.length)[j]? = some (B8 l[j]) := by rw [hc, List.getElem?_map, List.getElem?_eq_getElem hj]; rfl
      rwa [List.getElem?_take, if_pos hj] at this
  | pubc x full hx hk hc hs =>
    intro g T cs hro h
    obtain ⟨rfl, rfl⟩ := h.v_inv
    have ho := hX.ok x hx
    unfold XR.v
    rw [hc]
    refine .bc (by have := ho.le.1; omega) (by have := ho.le.2; omega) ?_ fun i hi => by cases hi
    cases hA : x.A with
    | none => left; have := ho.nil hA; exact List.length_eq_zero_iff.1 (by omega)
    | some b =>
      right
      refine ⟨b, 0, rfl, fun j hj => ?_⟩
      rw [Nat.zero_add]
      refine hro _ _ _ ((ho.own b hA).2.2.2 j _ (by omega) ?_)
      rw [hs, List.getElem?_map, List.getElem?_eq_getElem hj]; rfl
  | bs l tok => intro g T cs _ h; cases h with | bs hc hm hr ht => exact .bs hc hm hr fun i hi => by cases hi
  | bc full l n tok hl =>
    intro g T cs _ h
    cases h with
    | bc hn hm hr ht =>
      rename_i A
      have hll : l.length = n := by rw [← hl, List.length_take]; omega
      rw [← hll]
      refine .bs (by omega) hm ?_ fun i hi => by cases hi
      rcases hr with h | ⟨b, o, hb, hj⟩
      · left; rw [← hl, h]; simp
      · refine .inr ⟨b, o, hb, fun j hj2 => ?_⟩
        have := hj j (by omega)
        subst hl
        simpa using this
  | nil => intro g T cs _ h; obtain ⟨rfl, rfl⟩ := h.v_inv; exact RC.nil1 rfl
  | @st fs fs' hl hsub ih =>
    intro g T cs hro h
    induction T generalizing cs fs fs' with
    | cn T Ts _ ihs =>
      cases h with
      | cn h hs =>
        cases fs' with
        | nil => cases hl
        | cons b m =>
          refine .cn (ih 0 (by simp) (by simp) hro h) (ihs (by simpa using hl) (fun i h1 h2 => hsub (i + 1) (by simpa using h1) (by simpa using h2)) (fun i h1 h2 => ?_) hs)
          intro g T cs hro h
          exact ih (i + 1) (by simpa using h1) (by simpa using h2) hro (by simpa using h)
    | nl => cases h; cases fs' with | nil => exact .nl | cons _ _ => cases hl
    | _ => cases h
  | @sl T es es' tok hl _ ih =>
    intro g T2 cs hro h
    cases h with
    | @sl _ _ _ _ A c hc hm F hr hv ht =>
      rw [hl] at hc ⊢
      refine .sl hc hm F ?_ (fun k hk => ih k (by rw [hl]; exact hk) hk (fun b o u hu => hro b o u hu) (hv k (by rw [hl]; exact hk))) fun i hi => by cases hi
      rcases hr with h | ⟨b, o, hA, hj⟩
      · left; subst h; exact List.length_eq_zero_iff.1 hl.symm
      · exact .inr ⟨b, o, hA, fun k hk => hj k (by rw [hl]; exact hk)⟩
theorem SeeX.not {x y : AV} (h : SeeX X x y) : (x = .any → y = .any) ∧ (∀ az, x = .tup az → y = .tup az) := by
  cases h <;> exact ⟨fun e => (by first | exact e | cases e), fun az e => (by first | exact e | cases e)⟩
theorem RV.seeX {x y : AV} (hX : Xs lo N w0 X) (hs : SeeX X x y) (hro : ∀ b o u, N.ro b o = some u → g.ro b o = some u) {v : Value} (h : RV g x v) : RV g y v := by
  by_cases h1 : x = .any
  · rw [hs.not.1 h1]; trivial
  by_cases h2 : ∃ az, x = .tup az
  · obtain ⟨az, h2⟩ := h2
    rw [hs.not.2 az h2]; rw [h2] at h; exact h
  have h3 : RV1 g x v := by
    cases x with
    | any => exact absurd rfl h1
    | tup az => exact absurd ⟨az, rfl⟩ h2
    | _ => exact h
  rcases h3 with ⟨T, cs, e1, e2, e3⟩ | h3
  · exact RV1.rv (.inl ⟨T, cs, e1, e2.seeX hX hs hro, e3⟩)
  · exact RV1.rv (.inr (h3.seeX hX hs hro))
theorem v_seeX (hX : Xs lo N w0 X) (H : Rel P w0 N nt st a w) (d : Nat) {x : AV} (y : AV) (hs : SeeX X x y) (hd : find d st.t = some (none, x)) : Rel P w0 N nt ⟨nilT d y st.t, st.bx, st.fz, st.rw⟩ a w := by
  obtain ⟨g, HI, hF⟩ := H
  refine ⟨g, HI, hF.sz, hF.df, fun p hp hg => ?_, fun p hp hg => by rcases nilT_mem hp with h | h; (subst h; exact absurd trivial hg); exact hF.u p h hg⟩
  rcases nilT_mem hp with h | h
  · subst h; exact (hF.t _ (find_mem hd) trivial).seeX hX hs fun b o u hu => HI.fr.le.ro b o u hu
  · exact hF.t p h hg
/-- A contract that hands out rows on their own. -/
def PostX (P : Program) (w0 : World) (N : Gh) (R : List XR → List (Ty × AV) → List (TypeId × Nat) → AV → Prop) (e : Ending) (w' : World) : Prop :=
  ∃ X bx' rw' res g v, R X bx' rw' res ∧ e = .returned v ∧ Inv P w0 N g bx' [] rw' w' ∧ RV g res v ∧ Xs w0.heap.size g w' X
def VE (P : Program) (f : FuncId) (args : List AV) (R : List XR → List (Ty × AV) → List (TypeId × Nat) → AV → Prop) : Prop :=
  Fok P f ∧ ∀ (w : World) (N : Gh) (vs : List Value), Inv P w N N [] [] [] w → vs.length = args.length → (∀ (i : Nat) x v, args[i]? = some x → vs[i]? = some v → RV N x v) → Calls P f vs.toArray w (PostX P w N R)
theorem v_endG {fn : Func} {rs : List ResultVar} {nb nr : Nat} (js ks : List Nat) (hτ : τ.ok P) (hM : N.bx.length ≤ nb ∧ N.rw.length ≤ nr) (hr : fn.results = rs.toArray) (HI : Inv P w0 N g st.bx st.fz st.rw w) (hF : FR g nt st a)
    (hchk : (okSel js st.bx.length && okSel ks st.rw.length && usesB js st.bx && preOk js nb && preOk ks nr && rs.all (fun x => argOk js (resv τ st x))) = true)
    {bx' : List (Ty × AV)} {fz' : List Nat} {rw' : List (TypeId × Nat)} {ress : List AV} {res : AV} (hf : fzOk js st.fz fz' 0 = true) (hb : bxs (pickB js ks st.bx) bx') (hw : ks.filterMap (st.rw[·]?) = rw')
    (he : allP (sub 4) (rs.map fun x => ren (idx? js) (idx? ks) 4 (resv τ st x)) ress) (ht : tupOf ress = res) :
    a.defers = [] ∧ ∃ v, (results fn a.tmps).run P w = .ok v w ∧ Inv P w0 N (g.pick js ks) bx' fz' rw' w ∧ RV (g.pick js ks) res v := by
  subst ht
  simp only [Bool.and_eq_true] at hchk
  obtain ⟨⟨⟨⟨⟨c1, c2⟩, c3⟩, c4⟩, c5⟩, c6⟩ := hchk
  obtain ⟨hj, nj⟩ := okSel_ok c1
  obtain ⟨hk, nk⟩ := okSel_ok c2
  have hlr : g.rw.length = st.rw.length := by rw [← HI.wr, List.length_map]
  have hj' : ∀ j ∈ js, j < g.bx.length := fun j hm => by rw [HI.br.len]; exact hj j hm
  have hk' : ∀ k ∈ ks, k < g.rw.length := fun k hm => by rw [hlr]; exact hk k hm
  have p1 := fun j hj => preOk_ok c4 j (Nat.lt_of_lt_of_le hj hM.1)
  have p2 := fun j hj => preOk_ok c5 j (Nat.lt_of_lt_of_le hj hM.2)
  have hfr : Fr w0 N (g.pick js ks) w := by
    refine ⟨HI.fr.kept, fun i x hx hxo => ?_, fun i r k hr hrk => ?_, HI.fr.ro, ⟨HI.fr.le.ro, fun i x hx => ?_, fun i r hr => ?_⟩⟩
    · have hx' : (js.filterMap (g.bx[·]?))[i]? = some x := hx
      rw [pick_get hj'] at hx'
      obtain ⟨j, h1, h2⟩ := Option.bind_eq_some_iff.1 hx'
      rcases HI.fr.bx j x h2 hxo with h3 | ⟨y, h3, h4⟩
      · exact .inl h3
      · have := nodup_get nj h1 (p1 j (List.getElem?_eq_some_iff.1 h3).1); subst this
        exact .inr ⟨y, h3, h4⟩
    · have hx' : (ks.filterMap (g.rw[·]?))[i]? = some r := hr
      rw [pick_get hk'] at hx'
      obtain ⟨j, h1, h2⟩ := Option.bind_eq_some_iff.1 hx'
      rcases HI.fr.rw j r k h2 hrk with h3 | ⟨y, h3, h4⟩
      · exact .inl h3
      · have := nodup_get nk h1 (p2 j (List.getElem?_eq_some_iff.1 h3).1); subst this
        exact .inr ⟨y, h3, h4⟩
    · obtain ⟨x', h1, h2⟩ := HI.fr.le.bx i x hx
      refine ⟨x', ?_, h2⟩
      show (js.filterMap (g.bx[·]?))[i]? = _
      rw [pick_get hj', p1 i (List.getElem?_eq_some_iff.1 hx).1]; exact h1
    · obtain ⟨x', h1, h2⟩ := HI.fr.le.rw i r hr
      refine ⟨x', ?_, h2⟩
      show (ks.filterMap (g.rw[·]?))[i]? = _
      rw [pick_get hk', p2 i (List.getElem?_eq_some_iff.1 hr).1]; exact h1
  have HP : Inv P w0 N (g.pick js ks) bx' fz' rw' w := HI.pick js ks hj hk nj nk (usesB_ok c3) hb (fun i j hi hm => by simpa using fzOk_ok hf i j hi hm) hw hfr
  have key : ∀ (l : List ResultVar) (ress : List AV), l.all (fun x => argOk js (resv τ st x)) = true → allP (sub 4) (l.map fun x => ren (idx? js) (idx? ks) 4 (resv τ st x)) ress → ∃ vs : List Value, (l.mapM fun x : ResultVar => (match x with
      | .tmp t => pure (a.tmps.getD t undef)
      | .cell p t => (do loadVar t (← asAddr (a.tmps.getD p undef))) : Sem Value)).run P w = .ok vs w ∧ vs.length = l.length ∧ vs.length = ress.length ∧ ∀ (i : Nat) x v, ress[i]? = some x → vs[i]? = some v → RV1 (g.pick js ks) x v := by
    intro l
    induction l with
    | nil => intro ress _ he; cases ress with
      | nil => exact ⟨[], rfl, rfl, rfl, fun i x v h => by simp at h⟩
      | cons _ _ => exact he.elim
    | cons x l ih =>
      intro ress hp he
      cases ress with
      | nil => exact he.elim
      | cons y ress =>
      simp only [List.all_cons, Bool.and_eq_true] at hp
      obtain ⟨vs, h1, h2, h2', h3⟩ := ih ress hp.2 he.2
      have hc := hp.1
      simp only [argOk, Bool.and_eq_true, Bool.not_eq_true'] at hc
      obtain ⟨v, h4, h5⟩ := resv_sound (P := P) hτ HI hF x hc.1.2
      have ht : ∀ az, resv τ st x ≠ .tup az := fun az e => by rw [e] at hc; simp at hc
      have h6 := ((h5.pick_ (d := 3) hj' hk' hc.1.1).rv1 (ren_any hc.1.2) (ren_tup ht)).sub_ he.1
      refine ⟨v :: vs, ?_, by simp [h2], by simp [h2'], fun i z u hz hu => ?_⟩
      · rw [List.mapM_cons]
        cases x <;> (dsimp only at h4 ⊢; simp only [Sem.run_bind, h4, Result.andThen_ok, h1, Sem.run_pure])
      · cases i with
        | zero =>
          simp only [List.getElem?_cons_zero, Option.some.injEq] at hz hu
          subst hz hu; exact h6
        | succ i => exact h3 i z u (by simpa using hz) (by simpa using hu)
  obtain ⟨vs, h1, h2, h2', h3⟩ := key rs ress c6 he
  have hres : (results fn a.tmps).run P w = .ok (if h : vs.length = 1 then vs[0] else .tuple vs.toArray) w := by
    have e : results fn a.tmps = (do
        let vs ← rs.toArray.mapM fun x : ResultVar => (match x with
          | .tmp t => pure (a.tmps.getD t undef)
          | .cell p t => (do loadVar t (← asAddr (a.tmps.getD p undef))) : Sem Value)
        pure (if h : vs.size = 1 then vs[0] else .tuple vs)) := by unfold results; rw [hr]; rfl
    rw [e]
    simp only [Sem.run_bind, Array.mapM_eq_mapM_toList, Sem.run_map]
    rw [h1]
    simp
  refine ⟨hF.df, _, hres, HP, ?_⟩
  by_cases hl : vs.length = 1
  · rw [dif_pos hl]
    obtain ⟨x, rfl⟩ : ∃ x, ress = [x] := by
      match ress, h2' with
      | [x], _ => exact ⟨x, rfl⟩
      | [], h => simp at h; rw [h] at hl; cases hl
      | x :: y :: l, h => simp at h; omega
    exact (h3 0 _ _ rfl (List.getElem?_eq_getElem (by omega))).rv
  · rw [dif_neg hl]
    have htu : tupOf ress = .tup ress := by
      match ress, h2' with
      | [x], h => simp at h; exact absurd h hl
      | [], h => rfl
      | x :: y :: l, h => rfl
    rw [htu]
    exact ⟨vs, rfl, h2', fun i x u hx hu => h3 i x u hx hu⟩

theorem pick_has {js ks : List Nat} {b : Nat} (h : (g.pick js ks).has b) : g.has b := by
  rcases h with ⟨y, hy, h⟩ | ⟨s, hs, h⟩
  · obtain ⟨j, _, hj⟩ := List.mem_filterMap.1 hy; exact .inl ⟨y, List.mem_of_getElem? hj, h⟩
  · obtain ⟨j, _, hj⟩ := List.mem_filterMap.1 hs; exact .inr ⟨s, List.mem_of_getElem? hj, h⟩
/-- A call of such a contract: a new base. -/
theorem v_callE {ops : Array Oper} {Q : Exit → Act → World → Prop} {rest : List Oper} {o : Oper} {f : FuncId} {xs : List Operand} {ats : Array TypeId} {args : List AV} {R : List XR → List (Ty × AV) → List (TypeId × Nat) → AV → Prop}
    (hc : VE P f args R) (hB : FrX lo w0 N N1 w1) (hlo : lo ≤ w0.heap.size) (hX : Xs lo N1 w1 X) (H : Rel P w1 N1 nt st a w)
    (hRu : ∀ Y bx' rw' res, R Y bx' rw' res → uses some 4 res = true ∧ bx'.all (fun x => uses some 4 x.2) = true)
    (k : ∀ Y bx' rw' res a w, R Y bx' rw' res → RelX lo P w0 N nt ((⟨st.t, mergeL st.bx [] (renB [] [] st.bx.length st.rw.length bx'), st.fz, mergeL st.rw [] rw'⟩ : St).put o.dst none (ren (fun k => some (nth [] st.bx.length k)) (fun k => some (nth [] st.rw.length k)) 4 res)) (X ++ Y) a w → wpList P ops Q rest a w)
    (hgd : o.guard = none := by rfl) (ho : o.op = .call ⟨.value (.func f), xs.toArray, ats⟩ := by rfl) (hchk : (xs.all (fun x => argOk [] (st.ev none x)) && okDst nt none o.dst) = true := by rfl) (ha : allP (sub 4) (cargs st [] [] xs) args := by exact caX) : wpList P ops Q (o :: rest) a w := by
  obtain ⟨hfok, hcall⟩ := hc
  obtain ⟨g, HI, hF⟩ := H
  simp only [Bool.and_eq_true] at hchk
  obtain ⟨c5, c8⟩ := hchk
  obtain ⟨h1, h2⟩ := cargs_ok HI hF (js := []) (ks := []) (fun j hj => by cases hj) (fun j hj => by cases hj) c5 ha
  refine wpList_plain hgd fun K hK => ?_
  unfold Oper.wp
  rw [run_callF hfok xs ats ho w, Oper.upon_enter]
  have HP : Inv P w (g.pick [] []) (g.pick [] []) [] [] [] w := HI.pick (bx2 := []) (fz2 := []) (rw2 := []) [] [] (fun j hj => by cases hj) (fun j hj => by cases hj) List.nodup_nil List.nodup_nil (fun j hj => by cases hj) trivial (fun i j hi => by simp at hi) rfl
    ⟨Kept.refl _ _, fun i x hx hxo => .inr ⟨x, hx, hxo, rfl⟩, fun i r k hr hrk => .inr ⟨r, hr, hrk⟩, fun _ _ _ _ => rfl, Gh.le.refl _⟩
  refine (hcall w (g.pick [] []) (xs.map a.eval) HP (by simp [h1]) h2).mono fun e w' hp => ?_
  obtain ⟨Y, bx', rw', res, g1, v, hRR, rfl, HI1, hv, hY⟩ := hp
  obtain ⟨c6, c7⟩ := hRu _ _ _ _ hRR
  obtain ⟨k1, k2, k3, k4⟩ := HI.call HI1 (fun j hj => by cases hj) (fun j hj => by cases hj) List.nodup_nil List.nodup_nil (fun x hx => List.all_eq_true.1 c7 x hx)
  have hv' := hv.ren_ (g1 := g1) (g2 := ⟨g1.ro, mergeL g.bx [] g1.bx, mergeL g.rw [] g1.rw⟩) (fb := fun k => some (nth [] st.bx.length k)) (fr := fun k => some (nth [] st.rw.length k)) (d := 3) rfl (fun i j x hij hx => by injection hij with hij; subst hij; exact k3 i x hx) (fun i j x hij hx => by injection hij with hij; subst hij; exact k4 i x hx) (uses_some c6)
  have hX' : Xs lo (⟨g1.ro, mergeL g.bx [] g1.bx, mergeL g.rw [] g1.rw⟩ : Gh) w' X := hX.step k2
  have hsz : w.heap.size ≤ w'.heap.size := HI1.fr.kept.size
  have hws : w1.heap.size ≤ w.heap.size := HI.fr.kept.size
  have hY' : ∀ y ∈ Y, XOk lo (⟨g1.ro, mergeL g.bx [] g1.bx, mergeL g.rw [] g1.rw⟩ : Gh) w' y := fun y hy => by
    have h := hY.ok y hy
    refine ⟨h.le, h.nil, fun b hb => ?_⟩
    obtain ⟨q1, q2, q3⟩ := h.own b hb
    refine ⟨fun hh => ?_, by have := hB.size; omega, q3⟩
    have hm : ∀ {α : Type} {l m : List α} {x : α}, x ∈ mergeL l [] m → x ∈ l ∨ x ∈ m := fun {α l m x} h => by
      unfold mergeL at h
      rw [show setAll l [] m = l by cases m <;> rfl] at h
      simpa using h
    rcases hh with ⟨z, hz, hzo, he⟩ | ⟨s, hs, he⟩
    · rcases hm hz with hz | hz
      · obtain ⟨i, hi⟩ := List.getElem?_of_mem hz
        have := (HI.mem.bx i z hi hzo).lt; omega
      · exact q1 (.inl ⟨z, hz, hzo, he⟩)
    · rcases hm hs with hs | hs
      · obtain ⟨i, hi⟩ := List.getElem?_of_mem hs
        have := (HI.mem.rw i s hi).lt he; omega
      · exact q1 (.inr ⟨s, hs, he⟩)
  have hun : XApart (X ++ Y) := by
    unfold XApart
    rw [List.pairwise_append]
    refine ⟨hX.un, hY.un, fun x hx y hy => ?_⟩
    cases hb : x.A with
    | none => exact .inl rfl
    | some b =>
      refine .inr fun e => ?_
      have h1 := (hX.ok x hx).lt hb
      have h2 := ((hY.ok y hy).own b e.symm).2.1
      omega
  refine hK _ _ (k Y bx' rw' res _ _ hRR ⟨_, ?_, ?_, (hF.mono k1).put c8 (fun _ => hv') rfl (fun h => absurd trivial h), ⟨fun x hx => (List.mem_append.1 hx).elim (hX'.ok x) (hY' x), hun⟩⟩)
  · have := k2.self
    cases o.dst <;> simpa [St.put] using this
  · exact hB.trans (.of k2.fr lo)
/-- A loop, by a family of what holds. -/
theorem v_loopI {ι : Type} {c : Code} {Q : Exit → Act → World → Prop} (F : ι → Act → World → Prop) (C : ι → Prop) (μ : ι → Nat) (i0 : ι) (h0 : C i0) (H : F i0 a w)
    (round : ∀ i a w, C i → F i a w → c.wp P (Exit.then (fun a' w' => ∃ i', C i' ∧ μ i' < μ i ∧ F i' a' w') Q) a w) : (Code.loop c).wp P Q a w := by
  have hp : ∀ a w, (∃ i, C i ∧ F i a w) → ∃ m, (∃ i, (C i ∧ F i a w) ∧ μ i = m) ∧ ∀ k, (∃ i, (C i ∧ F i a w) ∧ μ i = k) → m ≤ k := fun a w ⟨i, hi⟩ => min_ex ⟨_, i, hi, rfl⟩
  obtain ⟨m, hm⟩ : ∃ m : Act → World → Nat, ∀ a w, (∃ i, C i ∧ F i a w) → (∃ i, (C i ∧ F i a w) ∧ μ i = m a w) ∧ ∀ k, (∃ i, (C i ∧ F i a w) ∧ μ i = k) → m a w ≤ k := by
    classical
    refine ⟨fun a w => if h : ∃ i, C i ∧ F i a w then Classical.choose (hp a w h) else 0, fun a w h => ?_⟩
    have := Classical.choose_spec (hp a w h)
    simp only [dif_pos h]
    exact this
  refine wp_loop (fun a w => ∃ i, C i ∧ F i a w) m ⟨i0, h0, H⟩ fun a w hi => ?_
  obtain ⟨⟨i, hi', hmi⟩, _⟩ := hm a w hi
  refine Code.wp_mono (fun e a' w' q => ?_) (round i a w hi'.1 hi'.2)
  cases e with
  | normal => obtain ⟨i', h1, h2, h3⟩ := q; exact ⟨⟨i', h1, h3⟩, by have := (hm a' w' ⟨i', h1, h3⟩).2 _ ⟨i', ⟨h1, h3⟩, rfl⟩; omega⟩
  | _ => exact q
end
end Go.Proofs.Ytigmpdhnhkdeiaa
/- What has to be open for a stretch: ref20.Open. -/
namespace Go.Proofs.Ytigmpdhnhkdeiaa
open Go Go.RowKit
end Go.Proofs.Ytigmpdhnhkdeiaa
/- Parts of a sketch that are clean. -/
namespace Go.Proofs.Ytigmpdhnhkdeiaa
open Go Go.RowKit
theorem kz (k : UInt8) (n : Nat) (hn : n < 256) : decide ((k.toNat : Int) = (n : Int)) = decide (k = UInt8.ofNat n) := by
  rw [decide_eq_decide]
  constructor
  · intro h; exact UInt8.toNat_inj.1 (by rw [UInt8.toNat_ofNat']; omega)
  · intro h; rw [h, UInt8.toNat_ofNat']; omega
theorem clean0 (key v g : List UInt8) : Br.clean ⟨0, key, v, g⟩ = (decide (key = List.replicate 32 0) && (decide (v = List.replicate 32 0) && decide (g = List.replicate 32 0))) := by
  rw [Bool.eq_iff_iff]; unfold Br.clean; rw [if_pos (Or.inl rfl), Bool.and_eq_true, Bool.and_eq_true, decide_eq_true_iff, decide_eq_true_iff, decide_eq_true_iff, decide_eq_true_iff]; exact Iff.rfl
theorem clean2 (key v g : List UInt8) : Br.clean ⟨2, key, v, g⟩ = (decide (key = List.replicate 32 0) && (decide (v = List.replicate 32 0) && decide (g = List.replicate 32 0))) := by
  rw [Bool.eq_iff_iff]; unfold Br.clean; rw [if_pos (Or.inr rfl), Bool.and_eq_true, Bool.and_eq_true, decide_eq_true_iff, decide_eq_true_iff, decide_eq_true_iff, decide_eq_true_iff]; exact Iff.rfl
theorem clean1 (key v g : List UInt8) : Br.clean ⟨1, key, v, g⟩ = decide (g = List.replicate 32 0) := by
  rw [Bool.eq_iff_iff]; unfold Br.clean; rw [if_neg (by dsimp only; decide), if_pos rfl, decide_eq_true_iff, decide_eq_true_iff]; exact Iff.rfl
theorem clean3 (key v g : List UInt8) : Br.clean ⟨3, key, v, g⟩ = (decide (((3 : UInt8).toNat : Int) = 3) && (decide (key = List.replicate 32 0) && decide (v = List.replicate 32 0))) := by
  rw [show decide (((3 : UInt8).toNat : Int) = 3) = true from by decide, Bool.true_and, Bool.eq_iff_iff]; unfold Br.clean; rw [if_neg (by dsimp only; decide), if_neg (by dsimp only; decide), if_pos rfl, Bool.and_eq_true, decide_eq_true_iff, decide_eq_true_iff, decide_eq_true_iff]; exact Iff.rfl
end Go.Proofs.Ytigmpdhnhkdeiaa
/- Parts of a sketch that are clean: ref20.clean. -/
namespace Go.Proofs.Ytigmpdhnhkdeiaa
open Go Go.RowKit
theorem and3_bif (a b c : Bool) : (a && (b && c)) = (bif (bif a then b else false) then c else false) := by cases a <;> cases b <;> cases c <;> rfl
theorem clean0r (key v g : List UInt8) : Br.clean ⟨0, key, v, g⟩ = (bif (bif decide (key = List.replicate 32 0) then decide (v = List.replicate 32 0) else false) then decide (g = List.replicate 32 0) else false) := by
  rw [clean0, and3_bif]
theorem clean2r (key v g : List UInt8) : Br.clean ⟨2, key, v, g⟩ = (bif (bif decide (key = List.replicate 32 0) then decide (v = List.replicate 32 0) else false) then decide (g = List.replicate 32 0) else false) := by
  rw [clean2, and3_bif]
theorem clean3r (key v g : List UInt8) : Br.clean ⟨3, key, v, g⟩ = (bif decide (key = List.replicate 32 0) then decide (v = List.replicate 32 0) else false) := by
  rw [clean3, show decide (((3 : UInt8).toNat : Int) = 3) = true from by decide, Bool.true_and]
  cases decide (key = List.replicate 32 0) <;> rfl
set_option maxRecDepth 20000 in
theorem cleanR_v (b : Br) (hw : b.wf) : VC Try.prog 172 [b.av] [] (.v (.bool b.clean)) := by
  obtain ⟨h1, h2, h3⟩ := id hw
  obtain ⟨k, key, v, g⟩ := b
  dsimp only at h1 h2 h3
  have hz2 := z32_len
  have hzl : (List.replicate 32 (0 : UInt8)).length = 32 := List.length_replicate
  have k0 : decide ((k.toNat : Int) = 0) = decide (k = 0) := kz k 0 (by decide)
  have k1 : decide ((k.toNat : Int) = 1) = decide (k = 1) := kz k 1 (by decide)
  have k2 : decide ((k.toNat : Int) = 2) = decide (k = 2) := kz k 2 (by decide)
  have k3 : decide ((k.toNat : Int) = 3) = decide (k = 3) := kz k 3 (by decide)
  refine mE Try.func172 ?_; intro N w0 a w hN hR H
  simp only [Br.av] at H
  have hX := @hzl
  have hY := And.intro @h1 (And.intro @h2 (@h3))
  refine mW ?_; clear H; intro a w H
  refine mC H (fun hb => ?_) (fun hb => ?_)
  · rw [k0, decide_eq_true_eq] at hb
    subst hb
    refine mW ?_; clear H; intro a w H
    refine mC H (fun hb => ?_) (fun hb => ?_)
    · refine mW ?_; clear H; intro a w H
      rw [clean0r]
      refine wp_ret ?_; exact mEnd [] [] [.tmp 2] [_] hN hR H
    · exact absurd hb (by decide)
  · rw [k0, decide_eq_false_iff_not] at hb
    have hk0 := hb
    clear hb
    refine mW ?_; clear H; intro a w H
    refine mC H (fun hb => ?_) (fun hb => ?_)
    · rw [k2, decide_eq_true_eq] at hb
      subst hb
      refine mW ?_; clear H; intro a w H
      rw [clean2r]
      refine wp_ret ?_; exact mEnd [] [] [.tmp 2] [_] hN hR H
    · rw [k2, decide_eq_false_iff_not] at hb
      have hk2 := hb
      clear hb
      refine mW ?_; clear H; intro a w H
      refine mC H (fun hb => ?_) (fun hb => ?_)
      · rw [k1, decide_eq_true_eq] at hb
        subst hb
        refine mW ?_; clear H; intro a w H
        rw [clean1]
        refine wp_ret ?_; exact mEnd [] [] [.tmp 2] [_] hN hR H
      · rw [k1, decide_eq_false_iff_not] at hb
        have hk1 := hb
        clear hb
        refine mW ?_; clear H; intro a w H
        refine mC H (fun hb => ?_) (fun hb => ?_)
        · rw [k3, decide_eq_true_eq] at hb
          subst hb
          refine mW ?_; clear H; intro a w H
          rw [clean3r]
          refine wp_ret ?_; exact mEnd [] [] [.tmp 2] [_] hN hR H
        · rw [k3, decide_eq_false_iff_not] at hb
          refine mW ?_; clear H; intro a w H
          have e : Br.clean ⟨k, key, v, g⟩ = false := by
            unfold Br.clean
            rw [if_neg (by simp [hk0, hk2]), if_neg hk1, if_neg hb]
          rw [e]
          refine wp_ret ?_; exact mEnd [] [] [.tmp 2] [_] hN hR H
end Go.Proofs.Ytigmpdhnhkdeiaa
/- A region in every order of its loud operations: the steps as theorems that a tactic can try one after another. -/
namespace Go.Proofs.Ytigmpdhnhkdeiaa
open Go Go.RowKit
section
variable {P : Program} {ops : Array Oper} {Q : Exit → Act → World → Prop} {S : World → Prop} {L A : List Nat} {U : List (Nat × Nat)}
theorem wpT_at {l : List Oper} {a : Act} {w : World} (i : Nat) (h : wpT P ops Q S L A l i a w) : wpT P ops Q S L A l i a w := h
theorem wpZ_q1 {i n : Nat} {rest : List Nat} {o : Oper} {a : Act} {w : World} (hL : L.contains i = false) (ho : (ops.toList.drop i).head? = some o)
    (h : wpT P ops (fun _ a w => wpZ P ops Q S L A U n rest a w) S L A [o] i a w) : wpZ P ops Q S L A U (n + 1) (i :: rest) a w := by
  have ho : ops[i]? = some o := by rw [List.head?_drop, Array.getElem?_toList] at ho; exact ho
  unfold wpZ; rw [if_neg (by rw [hL]; exact Bool.false_ne_true)]; unfold tOp; simp only [ho]; exact h
theorem wpZ_l1 {i n : Nat} {rest : List Nat} {o : Oper} {a : Act} {w : World} (hL : L.contains i = true) (hc : altZ U i rest = []) (ho : (ops.toList.drop i).head? = some o)
    (h : wpT P ops (fun _ a w => wpZ P ops Q S L A U n rest a w) S L A [o] i a w) : wpZ P ops Q S L A U (n + 1) (i :: rest) a w := by
  refine wpZ_two hL hc (all1 ?_)
  exact wpZ_pick (by simp) ho h
theorem wpZ_l2 {i m n : Nat} {rest r2 : List Nat} {o o2 : Oper} {a : Act} {w : World} (hL : L.contains i = true) (hc : altZ U i rest = [m]) (ho : (ops.toList.drop i).head? = some o) (ho2 : (ops.toList.drop m).head? = some o2) (hr2 : (i :: rest).erase m = r2)
    (h : wpT P ops (fun _ a w => wpZ P ops Q S L A U n rest a w) S L A [o] i a w) (h2 : wpT P ops (fun _ a w => wpZ P ops Q S L A U n r2 a w) S L A [o2] m a w) : wpZ P ops Q S L A U (n + 1) (i :: rest) a w := by
  refine wpZ_two hL hc (all2 ⟨?_, ?_⟩)
  · exact wpZ_pick (by simp) ho h
  · exact wpZ_pick hr2 ho2 h2
theorem wpZ_l3 {i m k n : Nat} {rest r2 r3 : List Nat} {o o2 o3 : Oper} {a : Act} {w : World} (hL : L.contains i = true) (hc : altZ U i rest = [m, k]) (ho : (ops.toList.drop i).head? = some o) (ho2 : (ops.toList.drop m).head? = some o2) (ho3 : (ops.toList.drop k).head? = some o3) (hr2 : (i :: rest).erase m = r2) (hr3 : (i :: rest).erase k = r3)
    (h : wpT P ops (fun _ a w => wpZ P ops Q S L A U n rest a w) S L A [o] i a w) (h2 : wpT P ops (fun _ a w => wpZ P ops Q S L A U n r2 a w) S L A [o2] m a w) (h3 : wpT P ops (fun _ a w => wpZ P ops Q S L A U n r3 a w) S L A [o3] k a w) : wpZ P ops Q S L A U (n + 1) (i :: rest) a w := by
  refine wpZ_two hL hc (all3 ⟨?_, ?_, ?_⟩)
  · exact wpZ_pick (by simp) ho h
  · exact wpZ_pick hr2 ho2 h2
  · exact wpZ_pick hr3 ho3 h3
theorem all4 {p : Nat → Prop} {x y z u : Nat} (h : p x ∧ p y ∧ p z ∧ p u) : ∀ m ∈ [x, y, z, u], p m := fun m hm => by
  simp at hm
  rcases hm with rfl | rfl | rfl | rfl
  · exact h.1
  · exact h.2.1
  · exact h.2.2.1
  · exact h.2.2.2
theorem wpZ_l4 {i m k j n : Nat} {rest r2 r3 r4 : List Nat} {o o2 o3 o4 : Oper} {a : Act} {w : World} (hL : L.contains i = true) (hc : altZ U i rest = [m, k, j]) (ho : (ops.toList.drop i).head? = some o) (ho2 : (ops.toList.drop m).head? = some o2) (ho3 : (ops.toList.drop k).head? = some o3) (ho4 : (ops.toList.drop j).head? = some o4) (hr2 : (i :: rest).erase m = r2) (hr3 : (i :: rest).erase k = r3) (hr4 : (i :: rest).erase j = r4)
    (h : wpT P ops (fun _ a w => wpZ P ops Q S L A U n rest a w) S L A [o] i a w) (h2 : wpT P ops (fun _ a w => wpZ P ops Q S L A U n r2 a w) S L A [o2] m a w) (h3 : wpT P ops (fun _ a w => wpZ P ops Q S L A U n r3 a w) S L A [o3] k a w) (h4 : wpT P ops (fun _ a w => wpZ P ops Q S L A U n r4 a w) S L A [o4] j a w) : wpZ P ops Q S L A U (n + 1) (i :: rest) a w := by
  refine wpZ_two hL hc (all4 ⟨?_, ?_, ?_, ?_⟩)
  · exact wpZ_pick (by simp) ho h
  · exact wpZ_pick hr2 ho2 h2
  · exact wpZ_pick hr3 ho3 h3
  · exact wpZ_pick hr4 ho4 h4
end
end Go.Proofs.Ytigmpdhnhkdeiaa
/- A reader of a stretch: (*span.reader).leaf. -/
namespace Go.Proofs.Ytigmpdhnhkdeiaa
open Go Go.RowKit
abbrev brT : Ty := ti54.ty
def brs (l : List Br) : List AV := l.map Br.av
theorem brs_len (l : List Br) : (brs l).length = l.length := by simp [brs]
structure RS.wf (s : RS) : Prop where
  rest : ∀ b ∈ s.rest, b.wf
  ks : ∀ k ∈ s.ks, k.length = 32
  ds : ∀ k ∈ s.ds, k.length = 32
  sd : ∀ k ∈ s.sd, k.length = 32
  en : s.en.wf
  lk : s.ks.length + s.rest.length ≤ 100000
  ld : s.ds.length + s.rest.length ≤ 100000
  ls : s.sd.length + s.rest.length ≤ 100000
theorem cutG9 {B R : Act → World → Prop} {G : Prop} (h : (∀ a w, R a w → B a w) → G) (k : ∀ a w, R a w → B a w) : G := h k
end Go.Proofs.Ytigmpdhnhkdeiaa
/- The document's reader of a sketch: ref20.Read, by what has to be open. -/
namespace Go.Proofs.Ytigmpdhnhkdeiaa
open Go Go.RowKit
/-- What is asked. -/
abbrev askE (ks : List (List UInt8)) (sp : Bool) (fr to : List UInt8) : AV := .st [.sl (.ba 32) (bas ks) none, .v (.bool sp), .ba fr, .ba to]
def Pl.av (x : Pl) : AV := .st [x.b.av, .ba x.g, .v (.int .i64 (x.d : Int)), .ba x.p, .v (.int .i64 (x.n : Int))]
def pls (l : List Pl) : List AV := l.map Pl.av
theorem pls_len (l : List Pl) : (pls l).length = l.length := by simp [pls]
abbrev plT : Ty := ti56.ty
theorem rd_dgl : ∀ {op : List UInt8 → Nat → Bool} {f : Nat} {p : List UInt8} {d : Nat} {l : List Br} {t : Tr} {r : List Br}, (∀ b ∈ l, b.wf) → rdTr op f p d l = some (t, r) → t.dg.length = 32 ∧ ∀ b ∈ r, b.wf
  | op, 0, p, d, l, t, r, _, h => by simp [rdTr] at h
  | op, f + 1, p, d, [], t, r, _, h => by simp [rdTr] at h
  | op, f + 1, p, d, b :: rest, t, r, hw, h => by
    have hw2 : ∀ b ∈ rest, b.wf := fun b hb => hw b (List.mem_cons_of_mem _ hb)
    unfold rdTr at h
    split at h
    · cases h
    · split at h
      · simp only [Option.some.injEq, Prod.mk.injEq] at h; obtain ⟨rfl, rfl⟩ := h; exact ⟨sum_length _, hw2⟩
      · split at h
        · split at h
          · cases h
          · simp only [Option.some.injEq, Prod.mk.injEq] at h; obtain ⟨rfl, rfl⟩ := h; exact ⟨(hw b List.mem_cons_self).g, hw2⟩
        · split at h
          · cases h
          · split at h
            · split at h
              · simp only [Option.some.injEq, Prod.mk.injEq] at h; obtain ⟨rfl, rfl⟩ := h; exact ⟨leafH_len _ _, hw2⟩
              · cases h
            · split at h
              · cases h
              · split at h
                · cases h
                · rename_i x r1 e1
                  split at h
                  · cases h
                  · rename_i y r2 e2
                    simp only [Option.some.injEq, Prod.mk.injEq] at h; obtain ⟨rfl, rfl⟩ := h
                    exact ⟨innerH_len _ _, (rd_dgl (rd_dgl hw2 e1).2 e2).2⟩
theorem rdP_cons (op : List UInt8 → Nat → Bool) (f : Nat) (b : Br) (r : List Br) (p : List UInt8) (d : Nat) : rdP op (f + 1) (b :: r) p d =
    if b.clean = false then ([], false)
    else if b.k = 0 then ([⟨b, sum [0], d, p, 1⟩], true)
    else if op p d = false then ([⟨b, b.g, d, p, 1⟩], decide (b.k = 3))
    else if b.k = 1 then ([⟨b, leafH b.key b.v, d, p, 1⟩], und d b.key p)
    else if b.k ≠ 2 ∨ 255 < d then ([], false)
    else
      if (rdP op f r p (d + 1)).2 = false then ([], false) else
      if (rdP op f ((b :: r).drop (1 + (((rdP op f r p (d + 1)).1.head?.map Pl.n).getD 0))) (flipL p d) (d + 1)).2 = false then ([], false) else
      (⟨b, innerH (((rdP op f r p (d + 1)).1.head?.map Pl.g).getD z32) (((rdP op f ((b :: r).drop (1 + (((rdP op f r p (d + 1)).1.head?.map Pl.n).getD 0))) (flipL p d) (d + 1)).1.head?.map Pl.g).getD z32), d, p, 1 + (((rdP op f r p (d + 1)).1.head?.map Pl.n).getD 0) + (((rdP op f ((b :: r).drop (1 + (((rdP op f r p (d + 1)).1.head?.map Pl.n).getD 0))) (flipL p d) (d + 1)).1.head?.map Pl.n).getD 0)⟩ :: ((rdP op f r p (d + 1)).1 ++ (rdP op f ((b :: r).drop (1 + (((rdP op f r p (d + 1)).1.head?.map Pl.n).getD 0))) (flipL p d) (d + 1)).1), true) := rfl
theorem Tr.pl_top (t : Tr) (p : List UInt8) (d : Nat) : ((t.pl p d).head?.map Pl.n).getD 0 = t.num ∧ ((t.pl p d).head?.map Pl.g).getD z32 = t.dg ∧ (pls (t.pl p d)).getD 0 .any = (⟨t.part, t.dg, d, p, t.num⟩ : Pl).av := by
  obtain ⟨r, h⟩ := t.pl_head p d
  rw [h]; exact ⟨rfl, rfl, rfl⟩
attribute [local irreducible] wpT
abbrev read20 (ks : List (List UInt8)) (sp : Bool) (fr to : List UInt8) (l : List Br) (p : List UInt8) (d : Nat) (L : List Pl) (o : Bool) : Prop :=
  VC Try.prog 111 [askE ks sp fr to, .sl brT (brs l) none, .ba p, .v (.int .i64 (d : Int))] [] (.tup [.sl plT (pls L) none, .v (.bool o)])
set_option maxRecDepth 20000 in
theorem read20_nil (ks : List (List UInt8)) (sp : Bool) (fr to p : List UInt8) (d : Nat) (h1 : fr.length = 32) (h2 : to.length = 32) (ht : p.length = 32) : read20 ks sp fr to [] p d [] false := by
  have hbl : (brs []).length = 0 := rfl
  unfold read20
  simp only [pls, List.map_nil]
  refine mE Try.func111 ?_; intro N w0 a w hN hR H
  have hX := And.intro @hbl (And.intro @ht (And.intro @h1 (@h2)))
  refine mW ?_; clear H; intro a w H
  refine mSk (.v (.bool true)) H ?_; clear H; intro a w H
  refine mW ?_; clear H; intro a w H
  refine mC H (fun hb => ?_) (fun hb => ?_)
  · refine mW ?_; clear H; intro a w H
    refine wp_ret ?_; exact mEnd [] [] [.tmp 8, .tmp 9] [_, _] hN hR H
  · exact absurd hb (by decide)
set_option maxRecDepth 20000 in
set_option maxHeartbeats 4000000 in
/-- What is read of a part that is none of an inner place. -/
theorem read20_one (ks : List (List UInt8)) (sp : Bool) (fr to : List UInt8) (op : List UInt8 → Nat → Bool) (h1 : fr.length = 32) (h2 : to.length = 32) (p : List UInt8) (d : Nat) (ht : p.length = 32) (hd256 : d ≤ 256) (b : Br) (rest : List Br) (hbw : b.wf)
    (hop1 : VC Try.prog 174 [askE ks sp fr to, .ba p, .v (.int .i64 ((d : Nat) : Int))] [] (.v (.bool (op p d)))) (hl : rest.length < 65536)
    (hno : b.clean = false ∨ b.k = 0 ∨ op p d = false ∨ b.k = 1 ∨ b.k ≠ 2 ∨ 255 < d) (f : Nat) :
    read20 ks sp fr to (b :: rest) p d (rdP op (f + 1) (b :: rest) p d).1 (rdP op (f + 1) (b :: rest) p d).2 := by
  have hcl := cleanR_v b hbw
  have hem := emptyR_v
  unfold read20
  rw [rdP_cons]
  obtain ⟨bk, bkey, bv, bg⟩ := b
  obtain ⟨q1, q2, q3⟩ := id hbw
  dsimp only at q1 q2 q3 hno
  have hun := underR_v bkey p q1 ht (d : Int)
  have eu : decide (0 ≤ (d : Int) ∧ (d : Int) ≤ 256 ∧ (d : Int) ≤ (com bkey p : Int)) = und d bkey p := by
    unfold und; rw [decide_eq_decide]; omega
  rw [eu] at hun
  have hlf := leafHR_v bkey bv q1 q2
  have hll := leafH_len bkey bv
  generalize hbe : brs (⟨bk, bkey, bv, bg⟩ :: rest) = B
  have hbl : B.length = rest.length + 1 := by rw [← hbe]; simp [brs]
  have hb0 : B.getD 0 .any = .st [.v (B8 bk), .ba bkey, .ba bv, .ba bg] := by rw [← hbe]; rfl
  have e0 : decide (((rest.length + 1 : Nat) : Int) = 0) = false := decide_eq_false (by omega)
  have k0 : decide ((bk.toNat : Int) = 0) = decide (bk = 0) := kz bk 0 (by decide)
  have k1 : decide ((bk.toNat : Int) = 1) = decide (bk = 1) := kz bk 1 (by decide)
  have k2 : decide ((bk.toNat : Int) = 2) = decide (bk = 2) := kz bk 2 (by decide)
  have k3 : decide ((bk.toNat : Int) = 3) = decide (bk = 3) := kz bk 3 (by decide)
  have hs0 : (sum [0]).length = 32 := sum_length _
  have hfit : fit (Ty.sc.cn ((Ty.ba 32).cn ((Ty.ba 32).cn ((Ty.ba 32).cn Ty.nl)))) (B.getD 0 AV.any) := by rw [hb0]; exact ⟨trivial, q1, q2, q3, trivial⟩
  dsimp only
  simp only [Br.av] at hcl
  clear hbe
  refine mE Try.func111 ?_; intro N w0 a w hN hR H
  have hX := And.intro @hbl (And.intro @hb0 (And.intro @ht (And.intro @q1 (And.intro @q2 (And.intro @q3 (And.intro @hs0 (And.intro @h1 (@h2))))))))
  refine mW ?_; clear H; intro a w H
  refine mCallG [] [] (hcl) H ?_; clear H; intro a w H; try refine wpList_nil ?_
  simp only [e0] at H
  refine mW ?_; clear H; intro a w H
  refine mC H (fun hb => ?_) (fun hb => ?_)
  · have hc : Br.clean ⟨bk, bkey, bv, bg⟩ = false := by simpa using hb
    rw [if_pos hc]
    simp only [pls, List.map_nil]
    refine mW ?_; clear H; intro a w H
    refine wp_ret ?_; exact mEnd [] [] [.tmp 8, .tmp 9] [_, _] hN hR H
  · have hc : Br.clean ⟨bk, bkey, bv, bg⟩ = true := by simpa using hb
    rw [if_neg (by rw [hc]; decide)]
    rw [hc] at hno
    clear hb
    refine mS ?_
    replace H := mK [0, 1, 2, 3, 4, 6, 8, 9] 2 0 hN hR H
    refine mW ?_; clear H; intro a w H
    refine mCall [] [] (hem) H ?_; clear H; intro a w H; try refine wpList_nil ?_
    refine mW ?_; clear H; intro a w H
    refine mC H (fun hb => ?_) (fun hb => ?_)
    · rw [k0, decide_eq_true_eq] at hb
      rw [if_pos hb]
      simp only [pls, List.map_cons, List.map_nil, Pl.av, Br.av]
      refine mW ?_; clear H; intro a w H
      refine wp_ret ?_; exact mEnd [] [] [.tmp 8, .tmp 9] [_, _] hN hR H
    · rw [k0, decide_eq_false_iff_not] at hb
      rw [if_neg hb]
      have n0 := hb
      clear hb
      refine mS ?_
      replace H := mK [0, 1, 2, 3, 4, 6, 8, 9, 10, 11] 5 0 hN hR H
      refine mW ?_; clear H; intro a w H
      refine mCall [] [] (hop1) H ?_; clear H; intro a w H; try refine wpList_nil ?_
      refine mW ?_; clear H; intro a w H
      refine mC H (fun hb => ?_) (fun hb => ?_)
      · have ho : op p d = false := by simpa using hb
        rw [if_pos ho]
        simp only [pls, List.map_cons, List.map_nil, Pl.av, Br.av]
        refine mW ?_; clear H; intro a w H
        refine mS ?_; refine mD 5 [1] [2, 3, 4] H ?_; clear H; intro gS H
        refine mT ?_; clear H; intro a w H
        refine v_drawNil H ?_; clear H; intro H
        simp only [k3] at H
        refine mW ?_; clear H; intro a w H
        refine wp_ret ?_; exact mEnd [] [] [.tmp 8, .tmp 9] [_, _] hN hR H
      · have ho : op p d = true := by simpa using hb
        rw [if_neg (by rw [ho]; decide)]
        rw [ho] at hno
        clear hb
        refine mS ?_
        replace H := mK [0, 1, 2, 3, 4, 6, 8, 9, 10, 11] 5 0 hN hR H
        refine mW ?_; clear H; intro a w H
        refine mC H (fun hb => ?_) (fun hb => ?_)
        · rw [k1, decide_eq_true_eq] at hb
          rw [if_pos hb]
          simp only [pls, List.map_cons, List.map_nil, Pl.av, Br.av]
          clear hX; have hX := And.intro @hbl (And.intro @hb0 (And.intro @ht (And.intro @q1 (And.intro @q2 (And.intro @q3 (And.intro @hs0 (And.intro @h1 (And.intro @h2 (@hll)))))))))
          refine mW ?_; clear H; intro a w H
          refine mCall [] [] (hlf) H ?_; clear H; intro a w H; try refine wpList_nil ?_
          refine mW ?_; clear H; intro a w H
          repeat (first | refine wp_seq ?_ | refine wp_block ?_)
          refine v_drawZ 5 [0, 2, 3, 4, 5, 1, 6, 7, 8] [1, 6] [0, 2, 3, 4, 5] [(1, 6)] (by kernel_rfl) (by kernel_rfl) (by kernel_rfl) (by kernel_rfl) (by kernel_rfl) H (by rfl) ?_; clear H; intro gS H; try replace H := ntf H
          repeat' ((first | refine wpZ_q1 rfl rfl ?_ | refine wpZ_l1 rfl rfl rfl ?_ | refine wpZ_l2 rfl rfl rfl rfl rfl ?_ ?_ | refine wpZ_l3 rfl rfl rfl rfl rfl rfl rfl ?_ ?_ ?_ | refine wpZ_l4 rfl rfl rfl rfl rfl rfl rfl rfl rfl ?_ ?_ ?_ ?_) <;> ((first | (refine wpT_at 6 ?_; refine mCallT [] [] (hun) H ?_; clear H; intro a w H) | (refine v_someT 1 tab_ok hN H rfl ctX ?_; clear H; intro a w H; replace H := ntf H; simp only [List.drop_succ_cons, List.drop_zero, List.drop_nil])); refine wpT_nil ?_; try dsimp only))
          all_goals (refine wpZ_nil ?_; replace H := RelT.toRel H)
          all_goals
            refine mW ?_; clear H; intro a w H
            refine wp_ret ?_; exact mEnd [] [] [.tmp 8, .tmp 9] [_, _] hN hR H
        · rw [k1, decide_eq_false_iff_not] at hb
          rw [if_neg hb]
          have n1 := hb
          clear hb
          refine mW ?_; clear H; intro a w H
          simp only [k2] at H
          have e : bk ≠ 2 ∨ 255 < d := by
            rcases hno with h | h | h | h | h
            · cases h
            · exact absurd h n0
            · cases h
            · exact absurd h n1
            · exact h
          refine mC H (fun hb => ?_) (fun hb => ?_)
          · rw [if_pos e]
            simp only [pls, List.map_nil]
            refine mW ?_; clear H; intro a w H
            refine wp_ret ?_; exact mEnd [] [] [.tmp 8, .tmp 9] [_, _] hN hR H
          · exfalso
            by_cases hk : bk = 2
            · rw [hk] at hb
              have : decide (255 < (d : Int)) = false := hb
              rw [decide_eq_false_iff_not] at this
              rcases e with e | e
              · exact e hk
              · omega
            · rw [decide_eq_false hk] at hb; cases hb
end Go.Proofs.Ytigmpdhnhkdeiaa
/- The document's reader of a sketch at an inner place. -/
namespace Go.Proofs.Ytigmpdhnhkdeiaa
open Go Go.RowKit
attribute [local irreducible] wpT
set_option maxRecDepth 20000 in
set_option maxHeartbeats 4000000 in
theorem read20_in1 (ks : List (List UInt8)) (sp : Bool) (fr to : List UInt8) (h1 : fr.length = 32) (h2 : to.length = 32) (p : List UInt8) (d : Nat) (hlow : Low d p) (hd : d < 256) (rest : List Br)
    (hop1 : VC Try.prog 174 [askE ks sp fr to, .ba p, .v (.int .i64 ((d : Nat) : Int))] [] (.v (.bool true))) (hl : rest.length < 65536) (L1 : List Pl)
    (c1 : read20 ks sp fr to rest p (d + 1) L1 false) :
    read20 ks sp fr to (⟨2, z32, z32, z32⟩ :: rest) p d [] false := by
  have ht := hlow.1
  have hz2 : (List.replicate 32 (0 : UInt8)).length = 32 := List.length_replicate
  have hcl := cleanR_v ⟨2, List.replicate 32 0, List.replicate 32 0, List.replicate 32 0⟩ ⟨hz2, hz2, hz2⟩
  rw [show Br.clean ⟨2, List.replicate 32 0, List.replicate 32 0, List.replicate 32 0⟩ = true by decide +kernel] at hcl
  have hem := emptyR_v
  unfold read20 at *
  simp only [z32]
  have hs1 := setR_v p ht d hd false
  have hs2 := setR_v p ht d hd true
  obtain ⟨w1, w2⟩ := setL_low hlow hd
  rw [w1] at hs1
  rw [w2] at hs2
  simp only [Bool.false_eq_true, if_false, if_true] at hs1 hs2
  have hfl := flipL_len p d
  rw [ht] at hfl
  rw [show ((d + 1 : Nat) : Int) = (d : Int) + 1 by omega] at *
  generalize hbe : brs (⟨2, List.replicate 32 0, List.replicate 32 0, List.replicate 32 0⟩ :: rest) = B
  have hbl : B.length = rest.length + 1 := by rw [← hbe]; simp [brs]
  have hb0 : B.getD 0 .any = .st [.v (B8 2), .ba (List.replicate 32 0), .ba (List.replicate 32 0), .ba (List.replicate 32 0)] := by rw [← hbe]; rfl
  have hbs : List.drop 1 B = brs rest := by rw [← hbe]; rfl
  have e0 : decide (((rest.length + 1 : Nat) : Int) = 0) = false := decide_eq_false (by omega)
  have e2 : decide ((255 : Int) < (d : Int)) = false := decide_eq_false (by omega)
  have hs0 : (sum [0]).length = 32 := sum_length _
  have hfit : fit (Ty.sc.cn ((Ty.ba 32).cn ((Ty.ba 32).cn ((Ty.ba 32).cn Ty.nl)))) (B.getD 0 AV.any) := by rw [hb0]; exact ⟨trivial, hz2, hz2, hz2, trivial⟩
  simp only [Br.av] at hcl
  refine mE Try.func111 ?_; intro N w0 a w hN hR H
  have hX := And.intro @hbl (And.intro @hb0 (And.intro @ht (And.intro @hz2 (And.intro @hs0 (And.intro @h1 (@h2))))))
  refine mW ?_; clear H; intro a w H
  refine mCallG [] [] (hcl) H ?_; clear H; intro a w H; try refine wpList_nil ?_
  simp only [e0] at H
  refine mW ?_; clear H; intro a w H
  refine mC H (fun hb => ?_) (fun hb => ?_)
  · exact absurd hb (by decide)
  · clear hb
    refine mS ?_
    replace H := mK [0, 1, 2, 3, 4, 6, 8, 9] 2 0 hN hR H
    refine mW ?_; clear H; intro a w H
    refine mCall [] [] (hem) H ?_; clear H; intro a w H; try refine wpList_nil ?_
    refine mW ?_; clear H; intro a w H
    refine mC H (fun hb => ?_) (fun hb => ?_)
    · exact absurd hb (by decide)
    · clear hb
      refine mS ?_
      replace H := mK [0, 1, 2, 3, 4, 6, 8, 9, 10, 11] 5 0 hN hR H
      refine mW ?_; clear H; intro a w H
      refine mCall [] [] (hop1) H ?_; clear H; intro a w H; try refine wpList_nil ?_
      refine mW ?_; clear H; intro a w H
      refine mC H (fun hb => ?_) (fun hb => ?_)
      · exact absurd hb (by decide)
      · clear hb
        refine mS ?_
        replace H := mK [0, 1, 2, 3, 4, 6, 8, 9, 10, 11] 5 0 hN hR H
        refine mW ?_; clear H; intro a w H
        refine mC H (fun hb => ?_) (fun hb => ?_)
        · exact absurd hb (by decide)
        · clear hb
          refine mW ?_; clear H; intro a w H
          simp only [e2] at H
          refine mC H (fun hb => ?_) (fun hb => ?_)
          · exact absurd hb (by decide)
          · clear hb
            refine mS ?_
            replace H := mK [0, 1, 2, 3, 4, 6, 8, 9, 11] 5 0 hN hR H
            refine mS ?_; refine mD 5 [5, 8] [0, 1, 2, 6, 7] H ?_; clear H; intro gS H
            refine mT ?_; clear H; intro a w H
            refine mCallT [] [] (hs1) H ?_; clear H; intro a w H
            refine mT ?_; clear H; intro a w H
            simp only [hbs] at H
            refine mCallT [] [] (c1) H ?_; clear H; intro a w H
            refine mT ?_; clear H; intro a w H
            refine v_drawNil H ?_; clear H; intro H
            refine mW ?_; clear H; intro a w H
            refine mC H (fun hb => ?_) (fun hb => ?_)
            · simp only [pls, List.map_nil]
              refine mW ?_; clear H; intro a w H
              refine wp_ret ?_; exact mEnd [] [] [.tmp 8, .tmp 9] [_, _] hN hR H
            · exact absurd hb (by decide)
end Go.Proofs.Ytigmpdhnhkdeiaa
