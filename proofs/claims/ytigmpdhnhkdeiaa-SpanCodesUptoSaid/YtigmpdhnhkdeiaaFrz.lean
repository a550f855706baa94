/- Parts of a sketch that are clean. -/
import Derived.Test.YtigmpdhnhkdeiaaSk
import Derived.Test.YtigmpdhnhkdeiaaRows
import Derived.OpenShut
import Derived.Carry
import Derived.WalkKit
import Derived.ProofKit
import Derived.JoinedCond
import Derived.Test.YtigmpdhnhkdeiaaA1
import Derived.Deep.OwnRows
import Derived.BigQuiet
import Derived.BigRegion
import Derived.Deep.Draws
import Derived.Deep.LoopGhost
set_option linter.unusedSimpArgs false
set_option linter.unusedVariables false
namespace Go.Proofs.Ytigmpdhnhkdeiaa
open Go Go.RowKit
theorem kz (k : UInt8) (n : Nat) (hn : n < 256) : decide ((k.toNat : Int) = (n : Int)) = decide (k = UInt8.ofNat n) := by
  rw [decide_eq_decide]
  constructor
  · intro h; exact UInt8.toNat_inj.1 (by rw [UInt8.toNat_ofNat']; omega)
  · intro h; rw [h, UInt8.toNat_ofNat']; omega
theorem clean0 (key v g : List UInt8) : Br.clean ⟨0, key, v, g⟩ = (decide (key = List.replicate 32 0) && (decide (v = List.replicate 32 0) && decide (g = List.replicate 32 0))) := by
  rw [Bool.eq_iff_iff]; unfold Br.clean; rw [if_pos (Or.inl rfl), Bool.and_eq_true, Bool.and_eq_true, decide_eq_true_iff, decide_eq_true_iff, decide_eq_true_iff, decide_eq_true_iff]; exact Iff.rfl
theorem clean2 (key v g : List UInt8) : Br.clean ⟨2, key, v, g⟩ = (decide (key = List.replicate 32 0) && (decide (v = List.replicate 32 0) && decide (g = List.replicate 32 0))) := by
  rw [Bool.eq_iff_iff]; unfold Br.clean; rw [if_pos (Or.inr rfl), Bool.and_eq_true, Bool.and_eq_true, decide_eq_true_iff, decide_eq_true_iff, decide_eq_true_iff, decide_eq_true_iff]; exact Iff.rfl
theorem clean1 (key v g : List UInt8) : Br.clean ⟨1, key, v, g⟩ = decide (g = List.replicate 32 0) := by
  rw [Bool.eq_iff_iff]; unfold Br.clean; rw [if_neg (by dsimp only; decide), if_pos rfl, decide_eq_true_iff, decide_eq_true_iff]; exact Iff.rfl
theorem clean3 (key v g : List UInt8) : Br.clean ⟨3, key, v, g⟩ = (decide (((3 : UInt8).toNat : Int) = 3) && (decide (key = List.replicate 32 0) && decide (v = List.replicate 32 0))) := by
  rw [show decide (((3 : UInt8).toNat : Int) = 3) = true from by decide, Bool.true_and, Bool.eq_iff_iff]; unfold Br.clean; rw [if_neg (by dsimp only; decide), if_neg (by dsimp only; decide), if_pos rfl, Bool.and_eq_true, decide_eq_true_iff, decide_eq_true_iff, decide_eq_true_iff]; exact Iff.rfl
end Go.Proofs.Ytigmpdhnhkdeiaa
/- Parts of a sketch that are clean: ref20.clean. -/
namespace Go.Proofs.Ytigmpdhnhkdeiaa
open Go Go.RowKit
theorem and3_bif (a b c : Bool) : (a && (b && c)) = (bif (bif a then b else false) then c else false) := by cases a <;> cases b <;> cases c <;> rfl
theorem clean0r (key v g : List UInt8) : Br.clean ⟨0, key, v, g⟩ = (bif (bif decide (key = List.replicate 32 0) then decide (v = List.replicate 32 0) else false) then decide (g = List.replicate 32 0) else false) := by
  rw [clean0, and3_bif]
theorem clean2r (key v g : List UInt8) : Br.clean ⟨2, key, v, g⟩ = (bif (bif decide (key = List.replicate 32 0) then decide (v = List.replicate 32 0) else false) then decide (g = List.replicate 32 0) else false) := by
  rw [clean2, and3_bif]
theorem clean3r (key v g : List UInt8) : Br.clean ⟨3, key, v, g⟩ = (bif decide (key = List.replicate 32 0) then decide (v = List.replicate 32 0) else false) := by
  rw [clean3, show decide (((3 : UInt8).toNat : Int) = 3) = true from by decide, Bool.true_and]
  cases decide (key = List.replicate 32 0) <;> rfl
end Go.Proofs.Ytigmpdhnhkdeiaa
/- Parts that are clean: mpack.clean, multi.clean, ref21.clean. -/
namespace Go.Proofs.Ytigmpdhnhkdeiaa
open Go Go.RowKit
set_option maxRecDepth 20000 in
theorem mclean_v (b : Br) (hw : b.wf) : VC Try.prog 217 [b.av] [] (.v (.bool b.clean)) := by
  obtain ⟨h1, h2, h3⟩ := id hw
  obtain ⟨k, key, v, g⟩ := b
  dsimp only at h1 h2 h3
  have hz2 := z32_len
  have hzl : (List.replicate 32 (0 : UInt8)).length = 32 := List.length_replicate
  have k0 : decide ((k.toNat : Int) = 0) = decide (k = 0) := kz k 0 (by decide)
  have k1 : decide ((k.toNat : Int) = 1) = decide (k = 1) := kz k 1 (by decide)
  have k2 : decide ((k.toNat : Int) = 2) = decide (k = 2) := kz k 2 (by decide)
  have k3 : decide ((k.toNat : Int) = 3) = decide (k = 3) := kz k 3 (by decide)
  refine mE Try.func217 ?_; intro N w0 a w hN hR H
  simp only [Br.av] at H
  have hX := @hzl
  have hY := And.intro @h1 (And.intro @h2 (@h3))
  refine mW ?_; clear H; intro a w H
  refine mC H (fun hb => ?_) (fun hb => ?_)
  · rw [k0, decide_eq_true_eq] at hb
    subst hb
    refine mW ?_; clear H; intro a w H
    refine mC H (fun hb => ?_) (fun hb => ?_)
    · refine mW ?_; clear H; intro a w H
      rw [clean0]
      refine wp_ret ?_; exact mEnd [] [] [.tmp 2] [_] hN hR H
    · exact absurd hb (by decide)
  · rw [k0, decide_eq_false_iff_not] at hb
    have hk0 := hb
    clear hb
    refine mW ?_; clear H; intro a w H
    refine mC H (fun hb => ?_) (fun hb => ?_)
    · rw [k2, decide_eq_true_eq] at hb
      subst hb
      refine mW ?_; clear H; intro a w H
      rw [clean2]
      refine wp_ret ?_; exact mEnd [] [] [.tmp 2] [_] hN hR H
    · rw [k2, decide_eq_false_iff_not] at hb
      have hk2 := hb
      clear hb
      refine mW ?_; clear H; intro a w H
      refine mC H (fun hb => ?_) (fun hb => ?_)
      · rw [k1, decide_eq_true_eq] at hb
        subst hb
        refine mW ?_; clear H; intro a w H
        rw [clean1]
        refine wp_ret ?_; exact mEnd [] [] [.tmp 2] [_] hN hR H
      · rw [k1, decide_eq_false_iff_not] at hb
        have hk1 := hb
        clear hb
        refine mW ?_; clear H; intro a w H
        refine mC H (fun hb => ?_) (fun hb => ?_)
        · rw [k3, decide_eq_true_eq] at hb
          subst hb
          refine mW ?_; clear H; intro a w H
          rw [clean3]
          refine wp_ret ?_; exact mEnd [] [] [.tmp 2] [_] hN hR H
        · rw [k3, decide_eq_false_iff_not] at hb
          refine mW ?_; clear H; intro a w H
          have e : Br.clean ⟨k, key, v, g⟩ = false := by
            unfold Br.clean
            rw [if_neg (by simp [hk0, hk2]), if_neg hk1, if_neg hb]
          rw [e]
          refine wp_ret ?_; exact mEnd [] [] [.tmp 2] [_] hN hR H
set_option maxRecDepth 20000 in
theorem cleanR21_v (b : Br) (hw : b.wf) : VC Try.prog 219 [b.av] [] (.v (.bool b.clean)) := by
  obtain ⟨h1, h2, h3⟩ := id hw
  obtain ⟨k, key, v, g⟩ := b
  dsimp only at h1 h2 h3
  have hz2 := z32_len
  have hzl : (List.replicate 32 (0 : UInt8)).length = 32 := List.length_replicate
  have k0 : decide ((k.toNat : Int) = 0) = decide (k = 0) := kz k 0 (by decide)
  have k1 : decide ((k.toNat : Int) = 1) = decide (k = 1) := kz k 1 (by decide)
  have k2 : decide ((k.toNat : Int) = 2) = decide (k = 2) := kz k 2 (by decide)
  have k3 : decide ((k.toNat : Int) = 3) = decide (k = 3) := kz k 3 (by decide)
  refine mE Try.func219 ?_; intro N w0 a w hN hR H
  simp only [Br.av] at H
  have hX := @hzl
  have hY := And.intro @h1 (And.intro @h2 (@h3))
  refine mW ?_; clear H; intro a w H
  refine mC H (fun hb => ?_) (fun hb => ?_)
  · rw [k0, decide_eq_true_eq] at hb
    subst hb
    refine mW ?_; clear H; intro a w H
    refine mC H (fun hb => ?_) (fun hb => ?_)
    · refine mW ?_; clear H; intro a w H
      rw [clean0r]
      refine wp_ret ?_; exact mEnd [] [] [.tmp 2] [_] hN hR H
    · exact absurd hb (by decide)
  · rw [k0, decide_eq_false_iff_not] at hb
    have hk0 := hb
    clear hb
    refine mW ?_; clear H; intro a w H
    refine mC H (fun hb => ?_) (fun hb => ?_)
    · rw [k2, decide_eq_true_eq] at hb
      subst hb
      refine mW ?_; clear H; intro a w H
      rw [clean2r]
      refine wp_ret ?_; exact mEnd [] [] [.tmp 2] [_] hN hR H
    · rw [k2, decide_eq_false_iff_not] at hb
      have hk2 := hb
      clear hb
      refine mW ?_; clear H; intro a w H
      refine mC H (fun hb => ?_) (fun hb => ?_)
      · rw [k1, decide_eq_true_eq] at hb
        subst hb
        refine mW ?_; clear H; intro a w H
        rw [clean1]
        refine wp_ret ?_; exact mEnd [] [] [.tmp 2] [_] hN hR H
      · rw [k1, decide_eq_false_iff_not] at hb
        have hk1 := hb
        clear hb
        refine mW ?_; clear H; intro a w H
        refine mC H (fun hb => ?_) (fun hb => ?_)
        · rw [k3, decide_eq_true_eq] at hb
          subst hb
          refine mW ?_; clear H; intro a w H
          rw [clean3r]
          refine wp_ret ?_; exact mEnd [] [] [.tmp 2] [_] hN hR H
        · rw [k3, decide_eq_false_iff_not] at hb
          refine mW ?_; clear H; intro a w H
          have e : Br.clean ⟨k, key, v, g⟩ = false := by
            unfold Br.clean
            rw [if_neg (by simp [hk0, hk2]), if_neg hk1, if_neg hb]
          rw [e]
          refine wp_ret ?_; exact mEnd [] [] [.tmp 2] [_] hN hR H
end Go.Proofs.Ytigmpdhnhkdeiaa
/- Sketches as bytes (plain): places still wanted, trees, kinds in bytes. -/
namespace Go.Proofs.Ytigmpdhnhkdeiaa
open Go Go.RowKit
/-- A part is taken: the depths still wanted, the next one first. -/
def takeD : List Nat → UInt8 → Bool × List Nat
  | [], _ => (false, [])
  | d :: s, k => if k = 2 then (decide (d < 256), (d + 1) :: (d + 1) :: s) else (true, s)
/-- All of some kinds are taken. -/
def runD : List Nat → List UInt8 → Option (List Nat)
  | s, [] => some s
  | s, k :: t => if (takeD s k).1 = true then runD (takeD s k).2 t else none
/-- One tree of kinds at a depth: what is left. -/
def trK : Nat → Nat → List UInt8 → Option (List UInt8)
  | 0, _, _ => none
  | _ + 1, _, [] => none
  | f + 1, d, k :: t => if k = 2 then (if 256 ≤ d then none else (trK f (d + 1) t).bind (trK f (d + 1))) else some t
/-- As many trees as depths. -/
def trS : List Nat → List UInt8 → Option (List UInt8)
  | [], l => some l
  | d :: s, l => (trK (257 - d) d l).bind (trS s)
theorem takeD_cons (d : Nat) (s : List Nat) (k : UInt8) : takeD (d :: s) k = if k = 2 then (decide (d < 256), (d + 1) :: (d + 1) :: s) else (true, s) := rfl
theorem trS_nil_cons (d : Nat) (s : List Nat) : trS (d :: s) [] = none := by
  unfold trS
  cases 257 - d <;> rfl
theorem trS_cons {d : Nat} (hd : d ≤ 256) (s : List Nat) (k : UInt8) (t : List UInt8) : trS (d :: s) (k :: t) = if (takeD (d :: s) k).1 = true then trS (takeD (d :: s) k).2 t else none := by
  obtain ⟨f, hf⟩ : ∃ f, 257 - d = f + 1 := ⟨256 - d, by omega⟩
  rw [takeD_cons, trS, hf, trK]
  by_cases hk : k = 2
  · rw [if_pos hk, if_pos hk]
    by_cases h : 256 ≤ d
    · rw [if_pos h]; simp only [show ¬ d < 256 by omega, decide_false]; rfl
    · rw [if_neg h]; simp only [show d < 256 by omega, decide_true, if_true]
      rw [trS, show 257 - (d + 1) = f by omega]
      cases trK f (d + 1) t with
      | none => rfl
      | some r => show (trK f (d + 1) r).bind (trS s) = trS ((d + 1) :: s) r; rw [trS, show 257 - (d + 1) = f by omega]
  · rw [if_neg hk, if_neg hk]; rfl
theorem takeD_le {s : List Nat} (hs : ∀ d ∈ s, d ≤ 256) {k : UInt8} (h : (takeD s k).1 = true) : ∀ d ∈ (takeD s k).2, d ≤ 256 := by
  cases s with
  | nil => intro d hd; cases hd
  | cons e s =>
    rw [takeD_cons] at h ⊢
    split
    · rename_i hk
      rw [if_pos hk, decide_eq_true_eq] at h
      intro d hd
      simp only [List.mem_cons] at hd
      rcases hd with rfl | rfl | hd
      · omega
      · omega
      · exact hs d (List.mem_cons_of_mem _ hd)
    · intro d hd; exact hs d (List.mem_cons_of_mem _ hd)
/-- All kinds are taken, and nothing is wanted then: they are the trees. -/
theorem run_trS : ∀ (ks : List UInt8) (s : List Nat), (∀ d ∈ s, d ≤ 256) → (runD s ks = some [] ↔ trS s ks = some [])
  | [], [], _ => ⟨fun _ => rfl, fun _ => rfl⟩
  | [], d :: s, _ => by rw [trS_nil_cons, runD]; exact ⟨fun h => (by injection h with h; cases h), fun h => (by cases h)⟩
  | k :: t, [], _ => by rw [runD, trS]; exact ⟨fun h => (by simp [takeD] at h), fun h => (by injection h with h; cases h)⟩
  | k :: t, d :: s, hs => by
    rw [trS_cons (hs d List.mem_cons_self), runD]
    by_cases h : (takeD (d :: s) k).1 = true
    · rw [if_pos h, if_pos h]; exact run_trS t _ (takeD_le hs h)
    · rw [if_neg h, if_neg h]; exact ⟨fun h => (by cases h), fun h => (by cases h)⟩
theorem run_tr (ks : List UInt8) : runD [0] ks = some [] ↔ trK 257 0 ks = some [] := by
  rw [run_trS ks [0] (fun d hd => by rw [List.mem_singleton.1 hd]; omega), trS]
  show (trK 257 0 ks).bind (trS []) = some [] ↔ _
  cases trK 257 0 ks <;> exact Iff.rfl
theorem runD_snoc (s : List Nat) (ks : List UInt8) (k : UInt8) : runD s (ks ++ [k]) = (runD s ks).bind fun s' => if (takeD s' k).1 = true then some (takeD s' k).2 else none := by
  induction ks generalizing s with
  | nil => rfl
  | cons x t ih =>
    rw [List.cons_append, runD, runD]
    split
    · exact ih _
    · rfl
theorem takeD_len (s : List Nat) (k : UInt8) : (takeD s k).2.length ≤ s.length + 1 := by
  cases s with
  | nil => exact Nat.zero_le _
  | cons d s => rw [takeD_cons]; split <;> simp only [List.length_cons] <;> omega
theorem runD_len : ∀ (ks : List UInt8) (s s' : List Nat), runD s ks = some s' → s'.length ≤ s.length + ks.length
  | [], s, s', h => by rw [runD] at h; injection h with h; rw [h]; exact Nat.le_add_right _ _
  | k :: t, s, s', h => by
    rw [runD] at h
    split at h
    · have h1 := runD_len t _ _ h
      have h2 := takeD_len s k
      simp only [List.length_cons]; omega
    · cases h
theorem runD_le : ∀ (ks : List UInt8) (s s' : List Nat), (∀ d ∈ s, d ≤ 256) → runD s ks = some s' → ∀ d ∈ s', d ≤ 256
  | [], s, s', hs, h => by rw [runD] at h; injection h with h; rw [← h]; exact hs
  | k :: t, s, s', hs, h => by
    rw [runD] at h
    split at h
    · rename_i h1; exact runD_le t _ _ (takeD_le hs h1) h
    · cases h
/-- What is left of a tree is the end of it. -/
theorem trK_drop : ∀ (f d : Nat) (l r : List UInt8), trK f d l = some r → ∃ n, 0 < n ∧ n + r.length = l.length ∧ r = l.drop n
  | 0, d, l, r, h => by simp [trK] at h
  | f + 1, d, [], r, h => by simp [trK] at h
  | f + 1, d, k :: t, r, h => by
    rw [trK] at h
    split at h
    · split at h
      · cases h
      · obtain ⟨r1, h1, h2⟩ := Option.bind_eq_some_iff.1 h
        obtain ⟨n1, a1, a2, a3⟩ := trK_drop f (d + 1) t r1 h1
        obtain ⟨n2, b1, b2, b3⟩ := trK_drop f (d + 1) r1 r h2
        refine ⟨1 + n1 + n2, by omega, by simp only [List.length_cons]; omega, ?_⟩
        rw [b3, a3, List.drop_drop, show 1 + n1 + n2 = (n1 + n2) + 1 by omega, List.drop_succ_cons]
    · injection h with h; subst h
      exact ⟨1, by omega, by simp only [List.length_cons]; omega, rfl⟩
/-- The kinds of a tree that stands ahead, taken one by one from the front: until nothing is wanted. -/
theorem trS_split : ∀ (l : List UInt8) (s : List Nat) (r : List UInt8), (∀ d ∈ s, d ≤ 256) → trS s l = some r → ∃ n, n + r.length = l.length ∧ r = l.drop n ∧ runD s (l.take n) = some [] ∧ ∀ j, j < n → ∃ s', runD s (l.take j) = some s' ∧ s' ≠ []
  | l, [], r, _, h => by
    rw [trS] at h; injection h with h; subst h
    exact ⟨0, by omega, rfl, rfl, fun j hj => absurd hj (Nat.not_lt_zero j)⟩
  | [], d :: s, r, _, h => by rw [trS_nil_cons] at h; cases h
  | k :: t, d :: s, r, hs, h => by
    rw [trS_cons (hs d List.mem_cons_self)] at h
    split at h
    · rename_i h1
      obtain ⟨n, a1, a2, a3, a4⟩ := trS_split t _ r (takeD_le hs h1) h
      refine ⟨n + 1, by simp only [List.length_cons]; omega, a2, ?_, fun j hj => ?_⟩
      · rw [List.take_succ_cons, runD, if_pos h1]; exact a3
      · cases j with
        | zero => exact ⟨d :: s, rfl, fun e => by cases e⟩
        | succ j => rw [List.take_succ_cons, runD, if_pos h1]; exact a4 j (by omega)
    · cases h
/-- No tree stands ahead: somewhere the way is not to be gone on. -/
theorem trS_none : ∀ (l : List UInt8) (s : List Nat), (∀ d ∈ s, d ≤ 256) → trS s l = none → ∃ n s', n ≤ l.length ∧ runD s (l.take n) = some s' ∧ s' ≠ [] ∧ (∀ j, j < n → ∃ s', runD s (l.take j) = some s' ∧ s' ≠ []) ∧ (n = l.length ∨ ∃ h : n < l.length, (takeD s' l[n]).1 = false)
  | l, [], _, h => by rw [trS] at h; cases h
  | [], d :: s, _, h => ⟨0, d :: s, Nat.le_refl _, rfl, fun e => (by cases e), fun j hj => absurd hj (Nat.not_lt_zero j), .inl rfl⟩
  | k :: t, d :: s, hs, h => by
    rw [trS_cons (hs d List.mem_cons_self)] at h
    split at h
    · rename_i h1
      obtain ⟨n, s', a1, a2, a3, a4, a5⟩ := trS_none t _ (takeD_le hs h1) h
      refine ⟨n + 1, s', by simp only [List.length_cons]; omega, by rw [List.take_succ_cons, runD, if_pos h1]; exact a2, a3, fun j hj => ?_, ?_⟩
      · cases j with
        | zero => exact ⟨d :: s, rfl, fun e => by cases e⟩
        | succ j => rw [List.take_succ_cons, runD, if_pos h1]; exact a4 j (by omega)
      · rcases a5 with a5 | ⟨h, a5⟩
        · exact .inl (by simp only [List.length_cons]; omega)
        · exact .inr ⟨by simp only [List.length_cons]; omega, a5⟩
    · rename_i h1
      exact ⟨0, d :: s, Nat.zero_le _, rfl, fun e => (by cases e), fun j hj => absurd hj (Nat.not_lt_zero j), .inr ⟨by simp, by simpa using h1⟩⟩
/-- Four kinds in a byte. -/
def kOf (b : UInt8) (i : Nat) : UInt8 := (b >>> UInt8.ofNat (6 - 2 * (i % 4))) &&& 3
def kinds (b : List UInt8) : List UInt8 := (List.range (4 * b.length)).map fun i => kOf (b.getD (i / 4) 0) i
theorem kinds_len (b : List UInt8) : (kinds b).length = 4 * b.length := by unfold kinds; simp
theorem kinds_get (b : List UInt8) (i : Nat) (h : i < (kinds b).length) : (kinds b)[i] = kOf (b.getD (i / 4) 0) i := by unfold kinds; simp
def byK (a b c d : UInt8) : UInt8 := a <<< 6 ||| b <<< 4 ||| c <<< 2 ||| d
def packB (ks : List UInt8) (j : Nat) : UInt8 := byK (ks.getD (4 * j) 0) (ks.getD (4 * j + 1) 0) (ks.getD (4 * j + 2) 0) (ks.getD (4 * j + 3) 0)
/-- As many bytes as n kinds need. -/
def packK (n : Nat) (ks : List UInt8) : List UInt8 := (List.range ((n + 3) / 4)).map (packB ks)
theorem packK_len (n : Nat) (ks : List UInt8) : (packK n ks).length = (n + 3) / 4 := by unfold packK; simp
theorem packK_nil (n : Nat) : packK n [] = List.replicate ((n + 3) / 4) 0 := by
  unfold packK
  apply List.ext_getElem (by simp)
  intro i h1 h2
  simp only [List.getElem_map, List.getElem_replicate]
  unfold packB byK; simp
theorem getD_take' (l : List UInt8) (i j : Nat) : (l.take i).getD j 0 = if j < i then l.getD j 0 else 0 := by
  rw [List.getD_eq_getElem?_getD, List.getElem?_take]
  split <;> simp
theorem or0 (a : UInt8) : a ||| 0 = a := by apply UInt8.toNat_inj.1; simp
theorem zor (a : UInt8) : 0 ||| a = a := by apply UInt8.toNat_inj.1; simp
theorem zsh (a : UInt8) : (0 : UInt8) <<< a = 0 := by apply UInt8.toNat_inj.1; simp
theorem sh0 (a : UInt8) : a <<< (0 : UInt8) = a := by apply UInt8.toNat_inj.1; simp
theorem getD_lt' (l : List UInt8) {i j : Nat} (h : j < i) : (l.take i).getD j 0 = l.getD j 0 := by rw [getD_take', if_pos h]
theorem getD_ge' (l : List UInt8) {i j : Nat} (h : i ≤ j) : (l.take i).getD j 0 = 0 := by rw [getD_take', if_neg (by omega)]
theorem byK0 (a : UInt8) : byK a 0 0 0 = byK 0 0 0 0 ||| a <<< 6 := by unfold byK; simp only [zsh, or0, zor]
theorem byK1 (a b : UInt8) : byK a b 0 0 = byK a 0 0 0 ||| b <<< 4 := by unfold byK; simp only [zsh, or0, zor]
theorem byK2 (a b c : UInt8) : byK a b c 0 = byK a b 0 0 ||| c <<< 2 := by unfold byK; simp only [zsh, or0, zor]
theorem byK3 (a b c d : UInt8) : byK a b c d = byK a b c 0 ||| d <<< 0 := by unfold byK; simp only [or0, sh0]
theorem packB_step (ks : List UInt8) (m : Nat) : ∀ r, r < 4 → packB (ks.take (4 * m + r + 1)) m = packB (ks.take (4 * m + r)) m ||| ks.getD (4 * m + r) 0 <<< UInt8.ofNat (6 - 2 * r)
  | 0, _ => by
    unfold packB
    rw [getD_lt' ks (i := 4 * m + 0 + 1) (j := 4 * m) (by omega), getD_ge' ks (i := 4 * m + 0 + 1) (j := 4 * m + 1) (by omega), getD_ge' ks (i := 4 * m + 0 + 1) (j := 4 * m + 2) (by omega), getD_ge' ks (i := 4 * m + 0 + 1) (j := 4 * m + 3) (by omega),
      getD_ge' ks (i := 4 * m + 0) (j := 4 * m) (by omega), getD_ge' ks (i := 4 * m + 0) (j := 4 * m + 1) (by omega), getD_ge' ks (i := 4 * m + 0) (j := 4 * m + 2) (by omega), getD_ge' ks (i := 4 * m + 0) (j := 4 * m + 3) (by omega)]
    exact byK0 _
  | 1, _ => by
    unfold packB
    rw [getD_lt' ks (i := 4 * m + 1 + 1) (j := 4 * m) (by omega), getD_lt' ks (i := 4 * m + 1 + 1) (j := 4 * m + 1) (by omega), getD_ge' ks (i := 4 * m + 1 + 1) (j := 4 * m + 2) (by omega), getD_ge' ks (i := 4 * m + 1 + 1) (j := 4 * m + 3) (by omega),
      getD_lt' ks (i := 4 * m + 1) (j := 4 * m) (by omega), getD_ge' ks (i := 4 * m + 1) (j := 4 * m + 1) (by omega), getD_ge' ks (i := 4 * m + 1) (j := 4 * m + 2) (by omega), getD_ge' ks (i := 4 * m + 1) (j := 4 * m + 3) (by omega)]
    exact byK1 _ _
  | 2, _ => by
    unfold packB
    rw [getD_lt' ks (i := 4 * m + 2 + 1) (j := 4 * m) (by omega), getD_lt' ks (i := 4 * m + 2 + 1) (j := 4 * m + 1) (by omega), getD_lt' ks (i := 4 * m + 2 + 1) (j := 4 * m + 2) (by omega), getD_ge' ks (i := 4 * m + 2 + 1) (j := 4 * m + 3) (by omega),
      getD_lt' ks (i := 4 * m + 2) (j := 4 * m) (by omega), getD_lt' ks (i := 4 * m + 2) (j := 4 * m + 1) (by omega), getD_ge' ks (i := 4 * m + 2) (j := 4 * m + 2) (by omega), getD_ge' ks (i := 4 * m + 2) (j := 4 * m + 3) (by omega)]
    exact byK2 _ _ _
  | 3, _ => by
    unfold packB
    rw [getD_lt' ks (i := 4 * m + 3 + 1) (j := 4 * m) (by omega), getD_lt' ks (i := 4 * m + 3 + 1) (j := 4 * m + 1) (by omega), getD_lt' ks (i := 4 * m + 3 + 1) (j := 4 * m + 2) (by omega), getD_lt' ks (i := 4 * m + 3 + 1) (j := 4 * m + 3) (by omega),
      getD_lt' ks (i := 4 * m + 3) (j := 4 * m) (by omega), getD_lt' ks (i := 4 * m + 3) (j := 4 * m + 1) (by omega), getD_lt' ks (i := 4 * m + 3) (j := 4 * m + 2) (by omega), getD_ge' ks (i := 4 * m + 3) (j := 4 * m + 3) (by omega)]
    exact byK3 _ _ _ _
  | r + 4, h => absurd h (by omega)
theorem packB_old (ks : List UInt8) (i j : Nat) (h : i / 4 ≠ j) : packB (ks.take (i + 1)) j = packB (ks.take i) j := by
  have key : ∀ q, q / 4 = j → (ks.take (i + 1)).getD q 0 = (ks.take i).getD q 0 := fun q hq => by
    by_cases hi : q < i
    · rw [getD_lt' ks (by omega), getD_lt' ks hi]
    · rw [getD_ge' ks (i := i) (by omega), getD_ge' ks (by
        have : q ≠ i := fun e => h (by rw [← e]; exact hq)
        omega)]
  unfold packB
  rw [key _ (by omega), key _ (by omega), key _ (by omega), key _ (by omega)]
theorem packK_step (ks : List UInt8) (n i : Nat) (hi : i < n) : packK n (ks.take (i + 1)) = (packK n (ks.take i)).set (i / 4) ((packK n (ks.take i)).getD (i / 4) 0 ||| ks.getD i 0 <<< UInt8.ofNat (6 - 2 * (i % 4))) := by
  have hj : i / 4 < (n + 3) / 4 := by omega
  have hg : (packK n (ks.take i)).getD (i / 4) 0 = packB (ks.take i) (i / 4) := by
    unfold packK
    rw [List.getD_eq_getElem?_getD, List.getElem?_map, List.getElem?_range hj]; rfl
  rw [hg]
  apply List.ext_getElem (by rw [List.length_set, packK_len, packK_len])
  intro j h1 h2
  have g : ∀ (l : List UInt8) (h : j < (packK n l).length), (packK n l)[j] = packB l j := fun l h => by simp [packK]
  rw [List.getElem_set, g, g]
  by_cases e : i / 4 = j
  · rw [if_pos e, ← e]
    have := packB_step ks (i / 4) (i % 4) (Nat.mod_lt _ (by decide))
    rwa [show 4 * (i / 4) + i % 4 = i by omega] at this
  · rw [if_neg e]; exact packB_old ks i j e
/-- The same byte, as a number. -/
theorem byK_num : ∀ a b c d : UInt8, a.toNat < 4 → b.toNat < 4 → c.toNat < 4 → d.toNat < 4 → byK a b c d = UInt8.ofNat (64 * a.toNat + 16 * b.toNat + 4 * c.toNat + d.toNat) := by
  intro a b c d ha hb hc hd
  have key : ∀ a b c d : Fin 4, byK (UInt8.ofNat a.val) (UInt8.ofNat b.val) (UInt8.ofNat c.val) (UInt8.ofNat d.val) = UInt8.ofNat (64 * a.val + 16 * b.val + 4 * c.val + d.val) := by decide
  have := key ⟨_, ha⟩ ⟨_, hb⟩ ⟨_, hc⟩ ⟨_, hd⟩
  simpa using this
/-- What stands behind the kinds, of a part. -/
def Br.tail (b : Br) : List UInt8 := if b.k = 1 then b.key ++ b.v else if b.k = 3 then b.g else []
/-- The bytes of a sketch. -/
def encB (p : List Br) : List UInt8 := packK p.length (p.map Br.k) ++ (p.map Br.tail).flatten
def okB (p : List Br) : Bool := p.all Br.clean && decide (trK 257 0 (p.map Br.k) = some [])
/-- Why a sketch may not be written. -/
def chkB (p : List Br) : Int := if 65536 < p.length then 4 else if okB p then 0 else 2
/-- A part read of bytes; none: too few. -/
def partB (k : UInt8) (l : List UInt8) : Option (Br × List UInt8) :=
  if k = 1 then (if l.length < 64 then none else some (⟨k, l.take 32, (l.drop 32).take 32, z32⟩, (l.drop 32).drop 32))
  else if k = 3 then (if l.length < 32 then none else some (⟨k, z32, z32, l.take 32⟩, l.drop 32))
  else some (⟨k, z32, z32, z32⟩, l)
def mrdB : List UInt8 → List UInt8 → Option (List Br × List UInt8)
  | [], l => some ([], l)
  | k :: t, l => (partB k l).bind fun x => (mrdB t x.2).map fun y => (x.1 :: y.1, y.2)
theorem mrdB_snoc : ∀ (ks l : List UInt8) (k : UInt8), mrdB (ks ++ [k]) l = (mrdB ks l).bind fun x => (partB k x.2).map fun y => (x.1 ++ [y.1], y.2)
  | [], l, k => by
    simp only [List.nil_append, mrdB, Option.bind_some]
    cases partB k l <;> rfl
  | a :: t, l, k => by
    simp only [List.cons_append, mrdB]
    cases partB a l with
    | none => rfl
    | some x =>
      simp only [Option.bind_some, mrdB_snoc t x.2 k]
      cases mrdB t x.2 with
      | none => rfl
      | some y =>
        simp only [Option.bind_some, Option.map_some]
        cases partB k y.2 <;> rfl
theorem partB_k {k : UInt8} {l r : List UInt8} {b : Br} (h : partB k l = some (b, r)) : b.k = k ∧ b.wf ∧ b.tail.length + r.length = l.length := by
  unfold partB at h
  unfold Br.tail
  split at h
  · split at h
    · cases h
    · rename_i h1 h2
      simp only [Option.some.injEq, Prod.mk.injEq] at h
      obtain ⟨rfl, rfl⟩ := h
      refine ⟨rfl, ⟨by simp; omega, by simp; omega, by simp [z32]⟩, ?_⟩
      dsimp only
      rw [if_pos h1]; simp; omega
  · split at h
    · split at h
      · cases h
      · rename_i h1 h2 h3
        simp only [Option.some.injEq, Prod.mk.injEq] at h
        obtain ⟨rfl, rfl⟩ := h
        refine ⟨rfl, ⟨by simp [z32], by simp [z32], by simp; omega⟩, ?_⟩
        dsimp only
        rw [if_neg h1, if_pos h2]; simp; omega
    · rename_i h1 h2
      simp only [Option.some.injEq, Prod.mk.injEq] at h
      obtain ⟨rfl, rfl⟩ := h
      refine ⟨rfl, ⟨by simp [z32], by simp [z32], by simp [z32]⟩, ?_⟩
      dsimp only
      rw [if_neg h1, if_neg h2]; simp
theorem mrdB_k : ∀ {ks l r : List UInt8} {p : List Br}, mrdB ks l = some (p, r) → p.map Br.k = ks ∧ (∀ b ∈ p, b.wf) ∧ ((p.map Br.tail).flatten).length + r.length = l.length
  | [], l, r, p, h => by
    simp only [mrdB, Option.some.injEq, Prod.mk.injEq] at h
    obtain ⟨rfl, rfl⟩ := h
    exact ⟨rfl, fun b hb => (by cases hb), by simp⟩
  | k :: t, l, r, p, h => by
    rw [mrdB] at h
    obtain ⟨⟨b, l1⟩, h1, h2⟩ := Option.bind_eq_some_iff.1 h
    obtain ⟨⟨p1, r1⟩, h3, h4⟩ := Option.map_eq_some_iff.1 h2
    simp only [Prod.mk.injEq] at h4
    obtain ⟨rfl, rfl⟩ := h4
    obtain ⟨a1, a2, a3⟩ := partB_k h1
    obtain ⟨b1, b2, b3⟩ := mrdB_k h3
    refine ⟨by rw [List.map_cons, a1, b1], fun x hx => ?_, ?_⟩
    · rcases List.mem_cons.1 hx with rfl | hx
      · exact a2
      · exact b2 x hx
    · rw [List.map_cons, List.flatten_cons, List.length_append]
      dsimp only at b3
      omega
/-- Bytes taken by a reader: bad or not, what is left. -/
def tkR (n : Nat) (s : Bool × List UInt8) : List UInt8 × Bool × List UInt8 := if s.1 = true then ([], s) else if s.2.length < n then ([], true, s.2) else (s.2.take n, false, s.2.drop n)
def or32 (l : List UInt8) : List UInt8 := if l.length = 32 then l else z32
def partR (k : UInt8) (s : Bool × List UInt8) : Br × Bool × List UInt8 :=
  if k = 1 then (⟨k, or32 (tkR 32 s).1, or32 (tkR 32 (tkR 32 s).2).1, z32⟩, (tkR 32 (tkR 32 s).2).2)
  else if k = 3 then (⟨k, z32, z32, or32 (tkR 32 s).1⟩, (tkR 32 s).2)
  else (⟨k, z32, z32, z32⟩, s)
def mrdR : List UInt8 → Bool × List UInt8 → List Br × Bool × List UInt8
  | [], s => ([], s)
  | k :: t, s => ((partR k s).1 :: (mrdR t (partR k s).2).1, (mrdR t (partR k s).2).2)
theorem mrdR_snoc : ∀ (ks : List UInt8) (s : Bool × List UInt8) (k : UInt8), mrdR (ks ++ [k]) s = ((mrdR ks s).1 ++ [(partR k (mrdR ks s).2).1], (partR k (mrdR ks s).2).2)
  | [], s, k => rfl
  | a :: t, s, k => by simp only [List.cons_append, mrdR, mrdR_snoc t]
theorem tkR_bad (n : Nat) (s : Bool × List UInt8) (h : s.1 = true) : tkR n s = ([], s) := by unfold tkR; rw [if_pos h]
theorem partR_bad (k : UInt8) (s : Bool × List UInt8) (h : s.1 = true) : (partR k s).2 = s := by
  unfold partR
  simp only [tkR_bad _ _ h]
  split
  · rfl
  · split <;> rfl
theorem mrdR_bad : ∀ (ks : List UInt8) (s : Bool × List UInt8), s.1 = true → (mrdR ks s).2 = s
  | [], s, h => rfl
  | k :: t, s, h => by rw [mrdR]; dsimp only; rw [partR_bad k s h]; exact mrdR_bad t s h
theorem or32_eq {l : List UInt8} (h : l.length = 32) : or32 l = l := if_pos h
theorem tk_ok {n : Nat} {l : List UInt8} (h : n ≤ l.length) : tkR n (false, l) = (l.take n, false, l.drop n) := by unfold tkR; rw [if_neg (by simp), if_neg (by dsimp only; omega)]
theorem tk_no {n : Nat} {l : List UInt8} (h : l.length < n) : tkR n (false, l) = ([], true, l) := by unfold tkR; rw [if_neg (by simp), if_pos h]
theorem partR_some {k : UInt8} {l r : List UInt8} {b : Br} (h : partB k l = some (b, r)) : partR k (false, l) = (b, false, r) := by
  unfold partB at h
  unfold partR
  by_cases h1 : k = 1
  · rw [if_pos h1] at h ⊢
    by_cases h2 : l.length < 64
    · rw [if_pos h2] at h; cases h
    · rw [if_neg h2] at h
      simp only [Option.some.injEq, Prod.mk.injEq] at h
      rw [tk_ok (n := 32) (by omega)]
      dsimp only
      rw [tk_ok (n := 32) (by simp; omega)]
      dsimp only
      rw [or32_eq (by simp; omega), or32_eq (by simp; omega), h.1, h.2]
  · rw [if_neg h1] at h ⊢
    by_cases h3 : k = 3
    · rw [if_pos h3] at h ⊢
      by_cases h2 : l.length < 32
      · rw [if_pos h2] at h; cases h
      · rw [if_neg h2] at h
        simp only [Option.some.injEq, Prod.mk.injEq] at h
        rw [tk_ok (n := 32) (by omega)]
        dsimp only
        rw [or32_eq (by simp; omega), h.1, h.2]
    · rw [if_neg h3] at h ⊢
      simp only [Option.some.injEq, Prod.mk.injEq] at h
      rw [h.1, h.2]
theorem partR_none {k : UInt8} {l : List UInt8} (h : partB k l = none) : (partR k (false, l)).2.1 = true := by
  unfold partB at h
  unfold partR
  by_cases h1 : k = 1
  · rw [if_pos h1] at h ⊢
    by_cases h2 : l.length < 64
    · by_cases h3 : l.length < 32
      · rw [tk_no h3]; rfl
      · rw [tk_ok (n := 32) (by omega)]
        dsimp only
        rw [tk_no (by simp; omega)]
    · rw [if_neg h2] at h; cases h
  · rw [if_neg h1] at h ⊢
    by_cases h3 : k = 3
    · rw [if_pos h3] at h ⊢
      by_cases h2 : l.length < 32
      · rw [tk_no h2]
      · rw [if_neg h2] at h; cases h
    · rw [if_neg h3] at h; cases h
theorem mrdR_some : ∀ {ks l r : List UInt8} {p : List Br}, mrdB ks l = some (p, r) → mrdR ks (false, l) = (p, false, r)
  | [], l, r, p, h => by
    simp only [mrdB, Option.some.injEq, Prod.mk.injEq] at h
    rw [mrdR, h.1, h.2]
  | k :: t, l, r, p, h => by
    rw [mrdB] at h
    obtain ⟨⟨b, l1⟩, h1, h2⟩ := Option.bind_eq_some_iff.1 h
    obtain ⟨⟨p1, r1⟩, h3, h4⟩ := Option.map_eq_some_iff.1 h2
    simp only [Prod.mk.injEq] at h4
    obtain ⟨rfl, rfl⟩ := h4
    rw [mrdR, partR_some h1]
    dsimp only at h3 ⊢
    rw [mrdR_some h3]
theorem mrdR_none : ∀ {ks l : List UInt8}, mrdB ks l = none → (mrdR ks (false, l)).2.1 = true
  | [], l, h => by cases h
  | k :: t, l, h => by
    rw [mrdB] at h
    cases hp : partB k l with
    | none =>
      rw [mrdR]
      dsimp only
      rw [mrdR_bad t _ (partR_none hp)]; exact partR_none hp
    | some x =>
      obtain ⟨b, l1⟩ := x
      rw [hp, Option.bind_some, Option.map_eq_none_iff] at h
      rw [mrdR, partR_some hp]
      dsimp only
      exact mrdR_none h
/-- How many kinds the first tree has. -/
def cntK (b : List UInt8) : Option Nat := (trK 257 0 (kinds b)).map fun r => 4 * b.length - r.length
/-- The sketch that bytes are; or none. -/
def decB (b : List UInt8) : Option (List Br) := match cntK b with
  | none => none
  | some n => match mrdB ((kinds b).take n) (b.drop ((n + 3) / 4)) with
    | some (p, _) => if okB p = true ∧ encB p = b then some p else none
    | none => none
theorem encB_len (p : List Br) : (encB p).length = (p.length + 3) / 4 + ((p.map Br.tail).flatten).length := by unfold encB; rw [List.length_append, packK_len]
theorem cntK_some {b : List UInt8} {n : Nat} (h : cntK b = some n) : 0 < n ∧ n ≤ 4 * b.length ∧ runD [0] ((kinds b).take n) = some [] ∧ (∀ j, j < n → ∃ s', runD [0] ((kinds b).take j) = some s' ∧ s' ≠ []) := by
  unfold cntK at h
  obtain ⟨r, h1, h2⟩ := Option.map_eq_some_iff.1 h
  obtain ⟨m, q1, q2, q3⟩ := trK_drop _ _ _ _ h1
  rw [kinds_len] at q2
  have h3 : trS [0] (kinds b) = some r := by
    rw [trS]
    show (trK 257 0 (kinds b)).bind (trS []) = some r
    rw [h1]; rfl
  obtain ⟨n', a1, a2, a3, a4⟩ := trS_split (kinds b) [0] r (fun d hd => by rw [List.mem_singleton.1 hd]; omega) h3
  rw [kinds_len] at a1
  have e1 : n' = n := by omega
  subst e1
  exact ⟨by omega, by omega, a3, a4⟩
theorem cntK_none {b : List UInt8} (h : cntK b = none) : ∃ n s', n ≤ (kinds b).length ∧ runD [0] ((kinds b).take n) = some s' ∧ s' ≠ [] ∧ (∀ j, j < n → ∃ s', runD [0] ((kinds b).take j) = some s' ∧ s' ≠ []) ∧ (n = (kinds b).length ∨ ∃ h : n < (kinds b).length, (takeD s' (kinds b)[n]).1 = false) := by
  unfold cntK at h
  have h1 : trK 257 0 (kinds b) = none := Option.map_eq_none_iff.1 h
  have h3 : trS [0] (kinds b) = none := by
    rw [trS]
    show (trK 257 0 (kinds b)).bind (trS []) = none
    rw [h1]; rfl
  exact trS_none (kinds b) [0] (fun d hd => by rw [List.mem_singleton.1 hd]; omega) h3
end Go.Proofs.Ytigmpdhnhkdeiaa
/- The arguments of a statement, as values; what a statement's form asks for, out of a contract in values. -/
namespace Go.Proofs.Ytigmpdhnhkdeiaa
open Go Go.RowKit
theorem bulk_part {H : Type} {d : DataW H} : ∀ {l : List (DataW H)}, d ∈ l → Rows.uptoBulk d ≤ Rows.uptoBulkAll l
  | x :: l, h => by
    rcases List.mem_cons.1 h with e | e
    · subst e; simp only [Rows.uptoBulkAll]; omega
    · have := bulk_part e; simp only [Rows.uptoBulkAll]; omega
theorem bulk_one {H : Type} (d : DataW H) : 1 ≤ Rows.uptoBulk d := by
  cases d with
  | lit l => cases l <;> simp [Rows.uptoBulk]
  | _ => simp [Rows.uptoBulk]
theorem bulk_len {H : Type} : ∀ l : List (DataW H), l.length ≤ Rows.uptoBulkAll l
  | [] => by simp
  | x :: l => by have := bulk_one x; have := bulk_len l; simp only [Rows.uptoBulkAll, List.length_cons]; omega
def isU8 (τ : Tab) (e : Nat) : Bool := match Tab.get e τ with
  | some j => (match j.d with | .int .u8 => true | _ => false)
  | none => false
def tyOf (τ : Tab) (e : Nat) : Ty := match Tab.get e τ with
  | some j => j.ty
  | none => .sc
def ShL (f : Nat → AV → Prop) : List Nat → List AV → Prop
  | [], [] => True
  | t :: ts, a :: az => f t a ∧ ShL f ts az
  | _, _ => False
/-- The values that a type may have: each stretch no longer than M. -/
def Sh (τ : Tab) (M : Nat) : Nat → Nat → AV → Prop
  | 0, _, _ => False
  | d + 1, t, a => match (Tab.get t τ).map TI.d with
    | some (.int k) => ∃ n, a = .v (.int k n) ∧ ilo k ≤ n ∧ n ≤ ihi k
    | some .bool => ∃ b, a = .v (.bool b)
    | some .str => ∃ s : ByteArray, a = .v (.string s) ∧ s.size ≤ M
    | some (.slc e) => if isU8 τ e then ∃ l, a = .bs l none ∧ l.length ≤ M else ∃ es, a = .sl (tyOf τ e) es none ∧ es.length ≤ M ∧ ∀ x ∈ es, Sh τ M d e x
    | some (.arr n _) => ∃ l, a = .ba l ∧ l.length = n
    | some (.rcd fs) => ∃ az, a = .st az ∧ ShL (Sh τ M d) (fs.map (·.2)) az
    | _ => False
def lay (τ : Tab) : List (Nat × Nat) → Nat → Ty → Bool
  | [], _, .nl => true
  | (o, t) :: fs, off, .cn T Ts => o == off && (Tab.get t τ).isSome && tyOf τ t == T && lay τ fs (off + T.size) Ts
  | _, _, _ => false
def okT (τ : Tab) : Nat → Nat → Bool
  | 0, _ => false
  | d + 1, t => match Tab.get t τ with
    | some i => (match i.d with
      | .int _ => i.ty == .sc
      | .bool => i.ty == .sc
      | .str => i.ty == .sc
      | .slc e => i.ty == .sc && (Tab.get e τ).isSome && decide (0 < (tyOf τ e).size) && (isU8 τ e && tyOf τ e == .sc || !isU8 τ e && okT τ d e)
      | .arr n e => isU8 τ e && i.ty == .ba n && tyOf τ e == .sc
      | .rcd fs => lay τ fs 0 i.ty && i.ty.agg && fs.all fun f => okT τ d f.2
      | _ => false)
    | none => false
section
variable {τ : Tab} {M d t : Nat} {a : AV} {i : TI}
theorem Sh.int {k : IntKind} (ht : Tab.get t τ = some i) (hd : i.d = .int k) (h : Sh τ M (d + 1) t a) : ∃ n, a = .v (.int k n) ∧ ilo k ≤ n ∧ n ≤ ihi k := by
  unfold Sh at h; simp only [ht, Option.map_some, hd] at h; exact h
theorem Sh.bool (ht : Tab.get t τ = some i) (hd : i.d = .bool) (h : Sh τ M (d + 1) t a) : ∃ b, a = .v (.bool b) := by
  unfold Sh at h; simp only [ht, Option.map_some, hd] at h; exact h
theorem Sh.str (ht : Tab.get t τ = some i) (hd : i.d = .str) (h : Sh τ M (d + 1) t a) : ∃ s : ByteArray, a = .v (.string s) ∧ s.size ≤ M := by
  unfold Sh at h; simp only [ht, Option.map_some, hd] at h; exact h
theorem Sh.bytes {e : Nat} (ht : Tab.get t τ = some i) (hd : i.d = .slc e) (hu : isU8 τ e = true) (h : Sh τ M (d + 1) t a) : ∃ l, a = .bs l none ∧ l.length ≤ M := by
  unfold Sh at h; simp only [ht, Option.map_some, hd, hu, if_true] at h; exact h
theorem Sh.slc {e : Nat} (ht : Tab.get t τ = some i) (hd : i.d = .slc e) (hu : isU8 τ e = false) (h : Sh τ M (d + 1) t a) : ∃ es, a = .sl (tyOf τ e) es none ∧ es.length ≤ M ∧ ∀ x ∈ es, Sh τ M d e x := by
  unfold Sh at h; simp only [ht, Option.map_some, hd, hu, Bool.false_eq_true, if_false] at h; exact h
theorem Sh.arr {n e : Nat} (ht : Tab.get t τ = some i) (hd : i.d = .arr n e) (h : Sh τ M (d + 1) t a) : ∃ l, a = .ba l ∧ l.length = n := by
  unfold Sh at h; simp only [ht, Option.map_some, hd] at h; exact h
theorem Sh.rcd {fs : List (Nat × Nat)} (ht : Tab.get t τ = some i) (hd : i.d = .rcd fs) (h : Sh τ M (d + 1) t a) : ∃ az, a = .st az ∧ ShL (Sh τ M d) (fs.map (·.2)) az := by
  unfold Sh at h; simp only [ht, Option.map_some, hd] at h; exact h
theorem shl_nil {f : Nat → AV → Prop} {az : List AV} (h : ShL f [] az) : az = [] := by
  cases az with
  | nil => rfl
  | cons _ _ => exact h.elim
theorem shl_cons {f : Nat → AV → Prop} {t : Nat} {ts : List Nat} {az : List AV} (h : ShL f (t :: ts) az) : ∃ a r, az = a :: r ∧ f t a ∧ ShL f ts r := by
  cases az with
  | nil => exact h.elim
  | cons a r => exact ⟨a, r, rfl, h.1, h.2⟩
/-- Elements, each of a form. -/
theorem sh_list {α : Type} {p : AV → Prop} {q : α → Prop} {f : α → AV} (hp : ∀ x, p x → ∃ y, x = f y ∧ q y) : ∀ {es : List AV}, (∀ x ∈ es, p x) → ∃ ys : List α, es = ys.map f ∧ ∀ y ∈ ys, q y
  | [], _ => ⟨[], rfl, fun y h => by cases h⟩
  | x :: es, h => by
    obtain ⟨y, rfl, hy⟩ := hp x (h x List.mem_cons_self)
    obtain ⟨ys, rfl, hys⟩ := sh_list hp (es := es) fun x hx => h x (List.mem_cons_of_mem _ hx)
    exact ⟨y :: ys, rfl, fun z hz => by rcases List.mem_cons.1 hz with e | e; (subst e; exact hy); exact hys z e⟩
theorem u8_of {n : Int} (h : ilo .u8 ≤ n ∧ n ≤ ihi .u8) : ∃ k : UInt8, Value.int .u8 n = B8 k := ⟨UInt8.ofNat n.toNat, by
  simp only [ilo, ihi] at h
  simp only [B8, UInt8.toNat_ofNat']
  congr 1; omega⟩
end
/-- All cells of a memory. -/
def allOf (w : World) : Gh := ⟨fun b o => w.cell? ⟨b, o, none⟩, [], []⟩
section
variable {H : Type} {enc : TypeId × Value → H} {P : Program} {τ : Tab} {w : World} {sp : Nat → Bool} {held : Bool} {M : Nat}
theorem wf_lohi {k : IntKind} {n : Int} (h : (Lit.int k n).wf = true) : ilo k ≤ n ∧ n ≤ ihi k := by
  cases k <;> simp [Lit.wf, IntKind.min, IntKind.max, IntKind.signed, IntKind.bits] at h <;> simp only [ilo, ihi] <;> omega
theorem isU8_ok (hτ : τ.ok P) {e : Nat} (h : isU8 τ e = true) : P.underlying e = some (.int .u8) := by
  unfold isU8 at h
  split at h
  · rename_i j hj
    have hok := (Tab.get_ok hτ hj).d
    split at h
    · rename_i hd; rw [hd] at hok; exact hok
    · cases h
  · cases h
theorem cells_ty (hτ : τ.ok P) {e : Nat} (h : (Tab.get e τ).isSome = true) : P.cellsOf e = (tyOf τ e).size := by
  unfold tyOf
  cases hj : Tab.get e τ with
  | none => rw [hj] at h; cases h
  | some j =>
    obtain ⟨inf, z, h1, h2, _⟩ := (Tab.get_ok hτ hj).info
    simp [Program.cellsOf, h1, h2]
theorem isU8_some {e : Nat} (h : isU8 τ e = true) : (Tab.get e τ).isSome = true := by
  unfold isU8 at h
  split at h
  · rename_i j hj; rw [hj]; rfl
  · cases h
theorem B8_of {n : Int} (h : 0 ≤ n ∧ n ≤ 255) : B8 (UInt8.ofNat n.toNat) = .int .u8 n := by
  simp only [B8, UInt8.toNat_ofNat']
  congr 1; omega
theorem trod_rc (hτ : τ.ok P) : ∀ (d : Nat) {t fuel : Nat} {cs : List Value} {x : DataW H × List MemPlace}, okT τ d t = true → DataW.trod enc P w 0 sp held fuel t cs = some x → Rows.uptoBulk x.1 ≤ M →
    ∃ a, Sh τ M d t a ∧ RC (allOf w) (tyOf τ t) a cs := by
  intro d
  induction d with
  | zero => intro t fuel cs x h; cases h
  | succ d ih =>
    intro t fuel cs x hok hx hM
    unfold okT at hok
    cases hg : Tab.get t τ with
    | none => rw [hg] at hok; cases hok
    | some i =>
    rw [hg] at hok
    have hi := Tab.get_ok hτ hg
    have hty : tyOf τ t = i.ty := by unfold tyOf; rw [hg]
    have hdd := hi.d
    have hsz : P.cellsOf t = i.ty.size := by rw [← hty]; exact cells_ty hτ (by rw [hg]; rfl)
    rw [hty]
    dsimp only at hok
    have sh : ∀ a, (match some i.d with
      | some (.int k) => ∃ n, a = AV.v (.int k n) ∧ ilo k ≤ n ∧ n ≤ ihi k
      | some .bool => ∃ b, a = .v (.bool b)
      | some .str => ∃ s : ByteArray, a = .v (.string s) ∧ s.size ≤ M
      | some (.slc e) => if isU8 τ e then ∃ l, a = .bs l none ∧ l.length ≤ M else ∃ es, a = .sl (tyOf τ e) es none ∧ es.length ≤ M ∧ ∀ x ∈ es, Sh τ M d e x
      | some (.arr n _) => ∃ l, a = .ba l ∧ l.length = n
      | some (.rcd fs) => ∃ az, a = .st az ∧ ShL (Sh τ M d) (fs.map (·.2)) az
      | _ => False) → Sh τ M (d + 1) t a := fun a h => by unfold Sh; rw [hg]; exact h
    generalize hdi : i.d = D' at hok hdd sh
    cases D' with
    | int k =>
      obtain ⟨n, rfl, rfl, hw⟩ := DataW.trod_int hdd hx
      rw [eq_of_beq hok]
      exact ⟨.v (.int k n), sh _ ⟨n, rfl, wf_lohi hw⟩, .v rfl⟩
    | bool =>
      obtain ⟨b, rfl, rfl⟩ := DataW.trod_bool hdd hx
      rw [eq_of_beq hok]
      exact ⟨.v (.bool b), sh _ ⟨b, rfl⟩, .v rfl⟩
    | str =>
      obtain ⟨s, rfl, rfl, hs⟩ := DataW.trod_string hdd hx
      rw [eq_of_beq hok]
      refine ⟨.v (.string s), sh _ ⟨s, rfl, ?_⟩, .v rfl⟩
      simp only [Rows.uptoBulk] at hM
      have : s.data.toList.length = s.size := by rw [Array.length_toList]; rfl
      omega
    | slc e =>
      simp only [Bool.and_eq_true, Bool.or_eq_true, Bool.not_eq_true', decide_eq_true_eq] at hok
      obtain ⟨⟨⟨h1, h2⟩, h3⟩, h4⟩ := hok
      have hce := cells_ty hτ h2
      rw [eq_of_beq h1]
      by_cases hu : isU8 τ e = true
      · have hu1 : tyOf τ e = .sc := by rcases h4 with h4 | h4; exact eq_of_beq h4.2; rw [h4.1] at hu; cases hu
        have hs0 : P.cellsOf e = 1 := by rw [hce, hu1]; rfl
        rcases ChangeShapes.open_ints hdd (isU8_ok hτ hu) hs0 hx with ⟨rfl, rfl⟩ | ⟨A, len, cap, zs, rfl, _, hl, hm, hz, rfl, hc, hw⟩
        · refine ⟨.bs [] none, sh _ ?_, RC.nil1 rfl⟩
          show ite _ _ _
          rw [if_pos hu]; exact ⟨[], rfl, Nat.zero_le _⟩
        · have hlz : len ≤ zs.length := by rw [hz]; split <;> omega
          have hll : ((zs.take len).map fun n => UInt8.ofNat n.toNat).length = len := by simp [hlz]
          refine ⟨.bs ((zs.take len).map fun n => UInt8.ofNat n.toNat) none, sh _ ?_, ?_⟩
          · show ite _ _ _
            rw [if_pos hu]
            refine ⟨_, rfl, ?_⟩
            rw [hll]
            simp only [Rows.uptoBulk] at hM
            have h5 := bulk_len (ChangeShapes.lits (H := H) .u8 (zs.take len))
            have h6 : (ChangeShapes.lits (H := H) .u8 (zs.take len)).length = len := by simp [ChangeShapes.lits, hlz]
            omega
          · have := RC.bs (g := allOf w) (l := (zs.take len).map fun n => UInt8.ofNat n.toNat) (tok := none) (A := some A) (c := cap) (by rw [hll]; exact hl) hm ?_ (fun i hi => by cases hi)
            · rw [hll] at this; exact this
            · rcases Nat.eq_zero_or_pos len with h0 | h0
              · left; rw [h0]; rfl
              · right
                obtain ⟨b, o, rfl, hcc⟩ := ints_at hc (by omega)
                refine ⟨b, o, rfl, fun j hj => ?_⟩
                rw [hll] at hj
                have h7 := hcc j (by omega)
                show w.cell? _ = _
                rw [h7]
                have h8 : zs.getD j 0 = zs[j]'(by omega) := by simp [List.getD, show j < zs.length by omega]
                have h9 := wf_lohi (hw _ (List.getElem_mem (show j < zs.length by omega)))
                simp only [ilo, ihi] at h9
                rw [h8]
                simp only [List.getElem_map, List.getElem_take]
                rw [B8_of h9]
      · have h4' : okT τ d e = true := by rcases h4 with h4 | h4; exact absurd h4.1 hu; exact h4.2
        rcases DataW.trod_slice hdd hx with ⟨rfl, rfl⟩ | ⟨A, len, cap, elems, rest, n, _, rfl, rfl, _, hl, hm, hlen, hel, _, _⟩
        · refine ⟨.sl (tyOf τ e) [] none, sh _ ?_, RC.nil2 rfl⟩
          show ite _ _ _
          rw [if_neg hu]; exact ⟨[], rfl, Nat.zero_le _, fun x hx => by cases hx⟩
        · simp only [Rows.uptoBulk] at hM
          have hb1 := bulk_len (elems.map (·.1))
          rw [List.length_map, hlen] at hb1
          have each : ∀ k, ∃ p : List Value × AV, k < len → w.cells? 0 (A.add (k * P.cellsOf e)) (P.cellsOf e) = some p.1 ∧ Sh τ M d e p.2 ∧ RC (allOf w) (tyOf τ e) p.2 p.1 := fun k => by
            by_cases hk : k < len
            · have h5 := hel k hk
              rw [List.getElem?_eq_getElem (by omega)] at h5
              obtain ⟨cs', h6, h7⟩ := Option.bind_eq_some_iff.1 h5
              have h8 : Rows.uptoBulk (elems[k]'(by omega)).1 ≤ M := by
                have := bulk_part (List.mem_map_of_mem (f := (·.1)) (List.getElem_mem (show k < elems.length by omega)))
                omega
              obtain ⟨a, ha1, ha2⟩ := ih h4' h7 h8
              exact ⟨(cs', a), fun _ => ⟨h6, ha1, ha2⟩⟩
            · exact ⟨([], .any), fun h => absurd h hk⟩
          obtain ⟨f, hf⟩ := Classical.axiomOfChoice each
          have hll : ((List.range len).map fun k => (f k).2).length = len := by simp
          refine ⟨.sl (tyOf τ e) ((List.range len).map fun k => (f k).2) none, sh _ ?_, ?_⟩
          · show ite _ _ _
            rw [if_neg hu]
            refine ⟨_, rfl, by rw [hll]; omega, fun x hx => ?_⟩
            obtain ⟨k, hk, rfl⟩ := List.mem_map.1 hx
            exact (hf k (List.mem_range.1 hk)).2.1
          · have := RC.sl (g := allOf w) (T := tyOf τ e) (es := (List.range len).map fun k => (f k).2) (tok := none) (A := some A) (c := cap) (by rw [hll]; exact hl) hm (fun k => (f k).1) ?_ (fun k hk => ?_) (fun i hi => by cases hi)
            · rw [hll] at this; exact this
            · rcases Nat.eq_zero_or_pos len with h0 | h0
              · left; rw [h0]; rfl
              · right
                obtain ⟨b, o, spot⟩ := A
                have hs0 : spot = none := by
                  obtain ⟨_, h6, h7⟩ := World.cells?_some (hf 0 h0).1
                  have h8 := h7 0 (by omega)
                  have : 0 < (f 0).1.length := by omega
                  rw [List.getElem?_eq_getElem this] at h8
                  have := World.cell?_spot h8
                  simpa [Addr.add] using this
                subst hs0
                refine ⟨b, o, rfl, fun k hk j u hu => ?_⟩
                rw [hll] at hk
                obtain ⟨_, h6, h7⟩ := World.cells?_some (hf k hk).1
                have hj := (List.getElem?_eq_some_iff.1 hu).1
                have h8 := h7 j (by omega)
                rw [hu, addr_add, addr_add, hce] at h8
                exact h8
            · have hk' : k < len := by rw [hll] at hk; exact hk
              simp only [List.getElem_map, List.getElem_range]
              exact (hf k hk').2.2
    | arr n e =>
      simp only [Bool.and_eq_true] at hok
      obtain ⟨⟨h1, h2⟩, h3⟩ := hok
      have hce : P.cellsOf e = 1 := by rw [cells_ty hτ (isU8_some h1), eq_of_beq h3]; rfl
      obtain ⟨xs, m, _, rfl, hcl, hxl, hx1⟩ := DataW.trod_array hdd.1 hx
      rw [eq_of_beq h2]
      have hn : cs.length = n := by rw [hcl, hsz, eq_of_beq h2]; rfl
      have key : ∀ k (hk : k < cs.length), ∃ q : Int, cs[k] = .int .u8 q ∧ 0 ≤ q ∧ q ≤ 255 := fun k hk => by
        have h5 := hx1 k (by omega)
        rw [List.getElem?_eq_getElem (by omega)] at h5
        obtain ⟨q, h6, _, h7⟩ := DataW.trod_int (isU8_ok hτ h1) h5
        rw [hce, Nat.mul_one] at h6
        have h8 : ((cs.drop k).take 1)[0]? = some (.int .u8 q) := by rw [h6]; rfl
        rw [List.getElem?_take, if_pos (by decide), List.getElem?_drop, Nat.add_zero, List.getElem?_eq_getElem hk] at h8
        injection h8 with h8
        have := wf_lohi h7
        exact ⟨q, h8, this⟩
      have hcs : cs = (cs.map fun v => match v with | .int _ q => UInt8.ofNat q.toNat | _ => 0).map B8 := by
        apply List.ext_getElem
        · simp
        · intro k hk _
          obtain ⟨q, h5, h6⟩ := key k hk
          simp only [List.getElem_map, h5]
          exact (B8_of h6).symm
      obtain ⟨l, hl⟩ : ∃ l : List UInt8, cs = l.map B8 := ⟨_, hcs⟩
      subst hl
      exact ⟨.ba l, sh _ ⟨l, rfl, by simpa using hn⟩, .ba (by simpa using hn)⟩
    | rcd fs =>
      simp only [Bool.and_eq_true, List.all_eq_true] at hok
      obtain ⟨⟨h1, h2⟩, h3⟩ := hok
      obtain ⟨F, hu, hF, _⟩ := hdd
      obtain ⟨xs, m, _, rfl, hcl, hxl, hx1⟩ := DataW.trod_struct hu hx
      simp only [Rows.uptoBulk] at hM
      rw [hsz] at hcl
      have key : ∀ (L : List (Nat × Nat)) (off : Nat) (T : Ty) (k : Nat), fs.drop k = L → lay τ L off T = true → cs.length = off + T.size → ∃ az, ShL (Sh τ M d) (L.map (·.2)) az ∧ RC (allOf w) T (.st az) (cs.drop off) := by
        intro L
        induction L with
        | nil =>
          intro off T k _ hlay hc
          cases T with
          | nl => rw [show cs.drop off = [] from List.drop_eq_nil_of_le (by rw [hc]; exact Nat.le_refl _)]; exact ⟨[], trivial, .nl⟩
          | _ => cases hlay
        | cons p L ihL =>
          intro off T k hk hlay hc
          cases T with
          | cn T Ts =>
            obtain ⟨o, ft⟩ := p
            simp only [lay, Bool.and_eq_true] at hlay
            obtain ⟨⟨⟨h4, h5⟩, h6⟩, h7⟩ := hlay
            obtain rfl := eq_of_beq h4
            obtain rfl := eq_of_beq h6
            have hfk : fs[k]? = some (o, ft) := by
              have : (fs.drop k)[0]? = some (o, ft) := by rw [hk]; rfl
              rw [List.getElem?_drop, Nat.add_zero] at this; exact this
            have hFk : ∃ fl, F[k]? = some fl ∧ fl.offset = o ∧ fl.type = ft := by
              rw [← hF, List.getElem?_map] at hfk
              obtain ⟨fl, h8, h9⟩ := Option.map_eq_some_iff.1 hfk
              simp only [Prod.mk.injEq] at h9
              exact ⟨fl, by simpa using h8, h9.1, h9.2⟩
            obtain ⟨fl, hfl, rfl, rfl⟩ := hFk
            have h8 := hx1 k fl hfl
            have hkx : k < xs.length := by rw [hxl]; have := (Array.getElem?_eq_some_iff.1 hfl).1; exact this
            rw [List.getElem?_eq_getElem hkx] at h8
            have h9 : Rows.uptoBulk xs[k].1 ≤ M := by
              have := bulk_part (List.mem_map_of_mem (f := (·.1)) (List.getElem_mem hkx))
              omega
            obtain ⟨a, ha1, ha2⟩ := ih (h3 _ (List.mem_of_getElem? hfk)) h8 h9
            obtain ⟨az, hz1, hz2⟩ := ihL (fl.offset + (tyOf τ fl.type).size) Ts (k + 1) (by rw [← List.drop_drop, hk]; rfl) h7 (by rw [hc]; simp only [Ty.size]; omega)
            refine ⟨a :: az, ⟨ha1, hz1⟩, ?_⟩
            have := RC.cn ha2 hz2
            rw [cells_ty hτ h5, ← List.drop_drop, List.take_append_drop] at this
            exact this
          | _ => cases hlay
      obtain ⟨az, hz1, hz2⟩ := key fs 0 i.ty 0 rfl h1 (by rw [hcl]; omega)
      exact ⟨.st az, sh _ ⟨az, rfl, hz1⟩, hz2⟩
    | _ => cases hok
theorem arg_rv (hτ : τ.ok P) {d t b0 : Nat} {r : Reach} {v : Value} {x : DataW H} {ps : List MemPlace} (hok : okT τ d t = true) (hval : Value.okWide P w r b0 t v) (hx : DataW.Trod enc P w 0 sp held t v x ps) (hM : Rows.uptoBulk x ≤ M) :
    ∃ a, Sh τ M d t a ∧ RV (allOf w) a v := by
  obtain ⟨fuel, hf⟩ := hx
  obtain ⟨a, h1, h2⟩ := trod_rc hτ d hok hf hM
  refine ⟨a, h1, ?_⟩
  cases d with
  | zero => cases hok
  | succ d =>
  unfold okT at hok
  cases hg : Tab.get t τ with
  | none => rw [hg] at hok; cases hok
  | some i =>
  rw [hg] at hok
  have hdd := (Tab.get_ok hτ hg).d
  have hty : tyOf τ t = i.ty := by unfold tyOf; rw [hg]
  rw [hty] at h2
  dsimp only at hok
  have hag : i.ty.agg = true → (∃ cs, v = .agg cs) → RV (allOf w) a v := fun h3 ⟨cs, hv⟩ => by
    subst hv
    refine (show RV1 (allOf w) a (.agg cs) from .inl ⟨i.ty, cs.toList, h3, h2, rfl⟩).rv
  have hsc : i.ty = .sc → v.cells.toList = [v] → RV (allOf w) a v := fun h3 hv => by
    rw [h3, hv] at h2; exact h2.rvp
  generalize i.d = D' at hok hdd
  cases D' with
  | int k => obtain ⟨n, rfl⟩ := WideShapes.okWide_int hdd hval; exact hsc (eq_of_beq hok) rfl
  | bool => obtain ⟨n, rfl⟩ := WideShapes.okWide_bool hdd hval; exact hsc (eq_of_beq hok) rfl
  | str => obtain ⟨n, rfl⟩ := WideShapes.okWide_string hdd hval; exact hsc (eq_of_beq hok) rfl
  | slc e =>
    obtain ⟨A, len, cap, rfl⟩ := WideShapes.okWide_slice hdd hval
    simp only [Bool.and_eq_true] at hok
    exact hsc (eq_of_beq hok.1.1.1) rfl
  | arr n e =>
    simp only [Bool.and_eq_true] at hok
    have hu := hdd.1
    simp only [Value.okWide, hu] at hval
    obtain ⟨cs, rfl, _⟩ := hval
    exact hag (by rw [eq_of_beq hok.1.2]; rfl) ⟨cs, rfl⟩
  | rcd fs =>
    simp only [Bool.and_eq_true] at hok
    obtain ⟨F, hu, _⟩ := hdd
    obtain ⟨cs, rfl, _⟩ := WideShapes.okWide_struct hu hval
    exact hag hok.1.2 ⟨cs, rfl⟩
  | _ => cases hok
/-- All arguments. -/
theorem args_rv (hτ : τ.ok P) {d b0 : Nat} {r : Reach} : ∀ {ts : List TypeId} {vs : List Value} {ds : List (DataW H)} {ps : List MemPlace}, (ts.all fun t => okT τ d t) = true → DataW.TrodAll enc P w 0 sp held ts vs ds ps →
    (∀ (j : Nat) t v, ts[j]? = some t → vs[j]? = some v → Value.okWide P w r b0 t v) → Rows.uptoBulkAll ds ≤ M →
    ∃ az, ShL (Sh τ M d) ts az ∧ vs.length = az.length ∧ ∀ (i : Nat) x v, az[i]? = some x → vs[i]? = some v → RV (allOf w) x v
  | [], [], [], _, _, _, _, _ => ⟨[], trivial, rfl, fun i x v h => by simp at h⟩
  | t :: ts, v :: vs, x :: ds, _, hok, h, hval, hM => by
    obtain ⟨p, q, h1, h2, _⟩ := h
    simp only [List.all_cons, Bool.and_eq_true] at hok
    simp only [Rows.uptoBulkAll] at hM
    obtain ⟨a, ha1, ha2⟩ := arg_rv (M := M) hτ hok.1 (hval 0 t v rfl rfl) h1 (by omega)
    obtain ⟨az, hz1, hz2, hz3⟩ := args_rv hτ hok.2 h2 (fun j t v hj hv => hval (j + 1) t v hj hv) (by omega)
    refine ⟨a :: az, ⟨ha1, hz1⟩, by simp [hz2], fun i y u hy hu => ?_⟩
    cases i with
    | zero =>
      simp only [List.getElem?_cons_zero, Option.some.injEq] at hy hu
      subst hy hu; exact ha2
    | succ i => exact hz3 i y u (by simpa using hy) (by simpa using hu)
  | [], _ :: _, _, _, _, h, _, _ => by cases h
  | [], [], _ :: _, _, _, h, _, _ => by cases h
  | _ :: _, [], _, _, _, h, _, _ => by cases h
  | _ :: _, _ :: _, [], _, _, h, _, _ => by cases h
theorem allOf_inv (P : Program) (w : World) : Inv P w (allOf w) (allOf w) [] [] [] w := by
  have nb : ∀ (i : Nat) (x : Bx), (allOf w).bx[i]? = some x → False := fun i x h => by simp [allOf] at h
  have nr : ∀ (i : Nat) (x : Rw), (allOf w).rw[i]? = some x → False := fun i x h => by simp [allOf] at h
  refine ⟨⟨fun b o u h => h, fun i x hx => (nb i x hx).elim, fun i x hx => (nb i x hx).elim, fun i x hx => (nb i x hx).elim, fun i r hr => (nr i r hr).elim, fun i x hx => (nb i x hx).elim, fun i x hx => (nb i x hx).elim, fun i j x y hx => (nb i x hx).elim, fun i r k hr => (nr i r hr).elim, fun i r k hr => (nr i r hr).elim, fun i j x r hx => (nb i x hx).elim, fun i j r s k hr => (nr i r hr).elim⟩,
    ⟨Kept.refl _ _, fun i x hx => (nb i x hx).elim, fun i r k hr => (nr i r hr).elim, fun b _ _ o => rfl, Gh.le.refl _⟩, ⟨rfl, fun i T a h => by simp at h⟩, fun i x hx => (nb i x hx).elim, rfl, fun r hr => by simp [allOf] at hr⟩
/-- A law's function, called: true, and nothing old has turned. -/
theorem law_calls (hτ : τ.ok P) {f : FuncId} {fn : Func} {d b0 : Nat} {r : Reach} {args : Array Value} {ds : List (DataW H)} {ps : List MemPlace} (hok : (fn.params.toList.all fun t => okT τ d t) = true)
    (hT : DataW.TrodAll enc P w 0 sp held fn.params.toList args.toList ds ps) (hval : ∀ (j : Nat) t v, fn.params[j]? = some t → args[j]? = some v → Value.okWide P w r b0 t v) (hM : Rows.uptoBulkAll ds ≤ M)
    (h : ∀ az, ShL (Sh τ M d) fn.params.toList az → VC P f az [] (.v (.bool true))) : Calls P f args w fun e w' => e = .returned (.bool true) ∧ Below w.heap.size w w' := by
  obtain ⟨az, h1, h2, h3⟩ := args_rv (M := M) hτ hok hT (fun j t v hj hv => hval j t v (by simpa using hj) (by simpa using hv)) hM
  have := (h az h1).2 w (allOf w) args.toList (allOf_inv P w) h2 h3
  refine this.mono fun e w' hp => ?_
  obtain ⟨g, v, rfl, hi, hv⟩ := hp
  refine ⟨by rw [hv.v_inv], hi.fr.kept.below (Nat.le_refl _) fun k _ hk => ?_⟩
  rcases hk with ⟨x, hx, _⟩ | ⟨x, hx, _⟩ <;> simp [allOf] at hx
theorem trodAll_below (hl : laidOutB P = true) {W W' : World} (hb : Below W.heap.size W W') : ∀ {ts : List TypeId} {vs : List Value} {ds : List (DataW H)} {ps : List MemPlace}, (ts.all fun t => P.readableRec t && decide (t < P.types.size)) = true →
    DataW.TrodAll enc P W 0 (fun _ => true) true ts vs ds ps → (∀ x ∈ ps, x.block < W.heap.size) → DataW.TrodAll enc P W' 0 (fun b => decide (b < W.heap.size)) true ts vs ds ps
  | [], [], [], _, _, h, _ => h
  | t :: ts, v :: vs, x :: ds, _, hr, h, hlt => by
    obtain ⟨p, q, h1, h2, rfl⟩ := h
    simp only [List.all_cons, Bool.and_eq_true, decide_eq_true_eq] at hr
    exact ⟨p, q, Below.trod hl hr.1.1 hr.1.2 h1 hb (fun x hx => hlt x (List.mem_append_left _ hx)), trodAll_below hl hb hr.2 h2 (fun x hx => hlt x (List.mem_append_right _ hx)), rfl⟩
  | [], _ :: _, _, _, _, h, _ => by cases h
  | [], [], _ :: _, _, _, h, _ => by cases h
  | _ :: _, [], _, _, _, h, _ => by cases h
  | _ :: _, _ :: _, [], _, _, h, _ => by cases h
/-- What a statement's form asks for: true is handed back, the arguments are as they were. -/
theorem post_true (hl : laidOutB P = true) {fn : Func} {s : ChangeSpec} {W W' : World} {args : Array Value} {ds gs : List (DataW H)} {before : List MemPlace} {bt : TypeId}
    (hW : DataW.Whole enc P fn.params.toList s.vars false W args.toList ds gs before) (hb : Below W.heap.size W W') (hr : (fn.params.toList.all fun t => P.readableRec t && decide (t < P.types.size)) = true) (hv : s.vars = []) (hrt : fn.resultTypes = #[bt]) (hbt : P.underlying bt = some .bool)
    (hs : s.fn H (ds ++ gs) = ⟨[.lit (.bool true)], ds, []⟩) : s.post enc P fn false true false false W args (.bool true) W' := by
  have hlt := fun x hx => hW.lt x hx
  obtain ⟨p, q, hA, hV, rfl, hfz, hnd⟩ := id hW
  refine ⟨ds, gs, p ++ q, [], p, [], hW, ?_, ?_, ?_, hb.frame _, fun h => by cases h⟩
  · rw [hrt, hs]
    exact ⟨[], [], ⟨1, by simp [DataW.trod, hbt, Value.cells]⟩, rfl, rfl⟩
  · rw [hs]
    exact trodAll_below hl hb hr hA fun x hx => by simpa using hlt x (List.mem_append_left _ hx)
  · rw [hs, hv]; rfl
end
end Go.Proofs.Ytigmpdhnhkdeiaa
/- What grows, lent to a call that only reads it. -/
namespace Go.Proofs.Ytigmpdhnhkdeiaa
open Go Go.RowKit
section
variable {P : Program} {τ : Tab} {w0 w : World} {N : Gh} {g gS : Gh} {st st' sq sq' : St} {nt : Nat} {a : Act}
/-- What was known under a guard that is known to hold, is known. -/
def gdEq (t : Nat) : Bool → Gd → Bool
  | true, some (k, true) => k == t
  | false, some (k, false) => k == t
  | _, _ => false
theorem gdEq_ok {t : Nat} {b : Bool} {c : Gd} (h : gdEq t b c = true) : c = some (t, b) := by
  unfold gdEq at h
  split at h
  · rw [beq_iff_eq.1 h]
  · rw [beq_iff_eq.1 h]
  · cases h
def unG (t : Nat) (b : Bool) : List (Nat × Gd × AV) → List (Nat × Gd × AV)
  | [] => []
  | (k, c, x) :: l => (k, bif gdEq t b c then none else c, x) :: unG t b l
theorem unG_mem {t : Nat} {b : Bool} {p : Nat × Gd × AV} : ∀ {l : List (Nat × Gd × AV)}, p ∈ unG t b l → ∃ q ∈ l, p = (q.1, bif gdEq t b q.2.1 then none else q.2.1, q.2.2)
  | (k, c, x) :: l, h => by
    rcases List.mem_cons.1 h with h | h
    · exact ⟨_, List.mem_cons_self, h⟩
    · obtain ⟨q, hq, e⟩ := unG_mem h
      exact ⟨q, List.mem_cons_of_mem _ hq, e⟩
theorem FR.unG (hF : FR g nt st a) {t : Nat} {b : Bool} (h : a.tmps.getD t undef = .bool b) : FR g nt ⟨unG t b st.t, st.bx, st.fz, st.rw⟩ a := by
  refine ⟨hF.sz, hF.df, fun p hp hg => ?_, fun p hp hg => ?_⟩
  · obtain ⟨q, hq, rfl⟩ := unG_mem hp
    cases e : gdEq t b q.2.1 with
    | true => exact hF.t q hq (by rw [gdEq_ok e]; exact h)
    | false => exact hF.t q hq (by simpa [e] using hg)
  · obtain ⟨q, hq, rfl⟩ := unG_mem hp
    cases e : gdEq t b q.2.1 with
    | true => exact absurd (by rw [e]; exact trivial) hg
    | false => exact hF.u q hq (by simpa [e] using hg)
theorem v_known (H : Rel P w0 N nt st a w) (t : Nat) (b : Bool) (hk : st.tmp none t = .v (.bool b)) : Rel P w0 N nt ⟨unG t b st.t, st.bx, st.fz, st.rw⟩ a w := by
  obtain ⟨g, HI, hF⟩ := H
  have h1 := tmp_sound hF (c := none) trivial t
  rw [hk] at h1
  exact ⟨g, HI, hF.unG h1.v_inv⟩
end
section
variable {P : Program} {τ : Tab} {w0 w : World} {N : Gh} {g gS : Gh} {st st' sq sq' : St} {nt : Nat} {a : Act} {r : AV} {cd : Prop}
end
end Go.Proofs.Ytigmpdhnhkdeiaa
/- A slice that is written out, in memory that may grow. -/
namespace Go.Proofs.Ytigmpdhnhkdeiaa
open Go Go.RowKit
section
variable {P : Program} {τ : Tab} {w0 w : World} {N : Gh} {g : Gh} {st : St} {nt : Nat} {a : Act}
theorem v_bsV {ops : Array Oper} {Q : Exit → Act → World → Prop} {rest : List Oper} {o : Oper} {t e n : Nat} {i j : TI} {ps : List (Nat × Operand)} {l : List AV} {cd : Prop} (hτ : τ.ok P) (hi : Tab.get t τ = some i) (hid : i.d = .slc e) (hj : Tab.get e τ = some j) (hs : 0 < j.ty.size) (hbig : n * j.ty.size ≤ 16777216) (H : Rel P w0 N nt st a w)
    (hset : setE n j.ty (st.ev none) ps (List.replicate n j.zero) = some (l, cd)) (hc : cd) (hne : 0 < n)
    (kk : ∀ a w, Rel P w0 N nt ((⟨st.t, st.bx ++ [(.vc e j.ty, .vc 0 l)], st.fz, st.rw⟩ : St).put o.dst none (.vw st.bx.length 0 n)) a w → wpList P ops Q rest a w)
    (hgd : o.guard = none := by rfl) (ho : o.op = .buildSlice t n ps.toArray := by rfl) (hd : okDst nt none o.dst = true := by rfl) : wpList P ops Q (o :: rest) a w := by
  obtain ⟨g, HI, hF⟩ := H
  have hd0 := (Tab.get_ok hτ hi).d
  rw [hid] at hd0
  have hjok := Tab.get_ok hτ hj
  obtain ⟨inf, z0, e1, e2, e3, e4, e5⟩ := hjok.info
  have hz : ∀ w, (zeroValue e).run P w = .ok z0 w := fun w => by simp [zeroValue, typeInfo, e1, e4]
  have hzl : z0.cells.size = j.ty.size := by have := (e5 g).size; simpa using this
  obtain ⟨cs', h1, h2⟩ := setE_sound (g := g) (fun x => ev_sound hF (c := none) trivial x) ps (List.replicate n j.zero) l cd ((List.replicate n z0.cells.toList).flatten.toArray) hset hc (by simpa using (e5 g.base).chain_replicate n)
  have hrun : (Instr.buildSlice t n ((ps.map fun x => (x.1, a.eval x.2)).toArray)).run P w = .ok (.slice (some ⟨w.heap.size, 0, none⟩) n n) (w.alloc (.cells cs' e)) := by
    have hs' := hjok.sizeOf w
    have hnot : ¬ (16777216 < n * j.ty.size) := by omega
    have hn0 : ¬ (n * j.ty.size = 0) := fun h => by rcases Nat.mul_eq_zero.1 h with h | h <;> omega
    have hcs : (Array.range (n * j.ty.size)).map (fun i => z0.cells[i % z0.cells.size]!) = (List.replicate n z0.cells.toList).flatten.toArray := by
      apply Array.toList_inj.1; rw [initCells z0.cells n j.ty.size hzl]
    unfold Instr.buildSlice
    simp only [Sem.run_bind, run_underlying (show P.underlying t = _ from hd0), Result.andThen_ok, hs']
    simp [hnot, hn0, hz, hcs, h1, newRow]
  have hll := h2.st_len
  have hsz : cs'.toList.length = n * j.ty.size := by rw [h2.size, chain_size]
  have hn63 : n ≤ maxLen := by
    have : n * 1 ≤ n * j.ty.size := Nat.mul_le_mul_left n hs
    simp only [maxLen]; omega
  have hel : ∀ (g' : Gh), g.le g' → ∀ k (hk : k < l.length), RC g'.base j.ty l[k] ((cs'.toList.drop (k * j.ty.size)).take j.ty.size) := fun g' hg k hk => by
    obtain ⟨a', ha', pre, mid, post, hcs, hpre, hmid, _⟩ := (h2.mono hg.base).lens (chain_loc j.ty (e5 g.base).grows n k (by omega))
    have : l[k]? = some a' := by simpa [AV.loc, List.getElem?_eq_getElem hk] using ha'
    rw [List.getElem?_eq_getElem hk] at this; injection this with this; subst this
    rw [hcs, ← hpre, ← hmid.size]; simpa using hmid
  have hcs2 : cs'.toList = (List.range l.length).flatMap (fun k => (cs'.toList.drop (k * j.ty.size)).take j.ty.size) ++ [] := by
    rw [List.append_nil, hll]; exact chunks_all j.ty.size n cs'.toList hsz
  obtain ⟨g', l1, I1, hx1⟩ := HI.boxG (x := ⟨w.heap.size, e, .vc e j.ty, cs'.toList, false, 0, n, false, none⟩) (a := .vc 0 l) (w' := w.alloc (.cells cs' e)) rfl (grown_alloc w _) (fun _ => ⟨rfl, .of rfl (by have := Blk.new w e cs'; rwa [show cs' = (cs'.toList).toArray by simp] at this)⟩) (fun e => by cases e) (fun e => by cases e)
    (.inr (.inl ⟨j.ty, 0, l, _, [], ⟨_, rfl, rfl⟩, rfl, rfl, rfl, hs, ⟨hn63, fun e => (by cases e)⟩, hcs2, hsz, fun u hu => (by cases hu), fun k hk => hel g (Gh.le.refl g) k hk⟩))
  refine wpList_plain hgd fun K hK => ?_
  unfold Oper.wp
  have he : (execOp a.eval o).run P w = .ok (.value (.slice (some ⟨w.heap.size, 0, none⟩) n n)) (w.alloc (.cells cs' e)) := by
    obtain ⟨dst, op, ty, pos, after, gd⟩ := o
    dsimp only at ho
    subst ho
    simp only [execOp, Sem.run_bind, List.map_toArray]
    rw [hrun]; rfl
  rw [he, Oper.upon_value]
  have hvw : RC g' .sc (.vw st.bx.length 0 n) [.slice (some ⟨w.heap.size, 0, none⟩) n n] := RC.vw (c := n) hx1 rfl (Nat.le_refl _) (Nat.le_refl _) hn63 fun _ => ⟨rfl, .inr ⟨rfl, rfl⟩⟩
  refine hK _ _ (kk _ _ ⟨g', ?_, (hF.mono l1.1).put hd (fun _ => hvw.rv1) rfl (fun h => absurd trivial h)⟩)
  cases o.dst <;> exact I1
end
end Go.Proofs.Ytigmpdhnhkdeiaa
/- mpack's places still wanted: depths.take. -/
namespace Go.Proofs.Ytigmpdhnhkdeiaa
open Go Go.RowKit
abbrev dpT : Ty := .vc 3 .sc
theorem take_none (γ : Nat) (es : List AV) (k : UInt8) : VX Try.prog 218 [(.sc, .vw 1 γ 0), (dpT, .vc γ es)] [] [] [.ptr 0 [], .v (B8 k)] [(.sc, .vw 1 γ 0), (dpT, .vc γ es)] [] [] (.v (.bool false)) := by
  refine mE Try.func218 ?_; intro N w0 a w hN hR H
  refine mW ?_; clear H; intro a w H
  refine mC H (fun hb => ?_) (fun hb => ?_)
  · refine mW ?_; clear H; intro a w H
    refine wp_ret ?_; exact mEnd [0, 1] [] [.tmp 4] [_] hN hR H
  · exact absurd hb (by decide)
theorem take_pop (γ m d : Nat) (es : List AV) (k : UInt8) (hk : k ≠ 2) (hm : m + 1 ≤ es.length) (hg : es.getD m .any = .v (.int .i64 (d : Int))) (hml : m ≤ 1000000) : VX Try.prog 218 [(.sc, .vw 1 γ (m + 1)), (dpT, .vc γ es)] [] [] [.ptr 0 [], .v (B8 k)] [(.sc, .vw 1 γ m), (dpT, .vc γ es)] [] [] (.v (.bool true)) := by
  have e1 : (((m + 1 : Nat) : Int) - 1) = (m : Int) := by omega
  have e2 : decide (((m + 1 : Nat) : Int) = 0) = false := decide_eq_false (by omega)
  have k2 : decide ((k.toNat : Int) = 2) = false := (kz k 2 (by decide)).trans (decide_eq_false hk)
  refine mE Try.func218 ?_; intro N w0 a w hN hR H
  have hX := @hg
  refine mW ?_; clear H; intro a w H
  refine mC H (fun hb => ?_) (fun hb => ?_)
  · rw [e2] at hb; cases hb
  · clear hb
    refine mS ?_
    (try refine wp_region_lit ?_); refine mN 5 hN H ?_; clear H; intro a w H
    rw [e1] at H
    (try refine wp_region_lit ?_); refine mN 2 hN H ?_; clear H; intro a w H
    refine mW ?_; clear H; intro a w H
    rw [e1] at H
    refine mW ?_; clear H; intro a w H
    refine mC H (fun hb => ?_) (fun hb => ?_)
    · rw [k2] at hb; cases hb
    · refine mW ?_; clear H; intro a w H
      refine wp_ret ?_; exact mEnd [0, 1] [] [.tmp 4] [_] hN hR H
theorem take_in (γ m d : Nat) (es : List AV) (hm : m + 1 ≤ es.length) (hg : es.getD m .any = .v (.int .i64 (d : Int))) (hml : m ≤ 1000000) (hd : d ≤ 1000000) : VX Try.prog 218 [(.sc, .vw 1 γ (m + 1)), (dpT, .vc γ es)] [] [] [.ptr 0 [], .v (B8 2)] [(.sc, .vw 1 (γ + 1) (m + 2)), (dpT, .vc (γ + 1) (es.take m ++ [.v (.int .i64 ((d + 1 : Nat) : Int)), .v (.int .i64 ((d + 1 : Nat) : Int))]))] [] [] (.v (.bool (decide (d < 256)))) := by
  have e1 : (((m + 1 : Nat) : Int) - 1) = (m : Int) := by omega
  have e2 : decide (((m + 1 : Nat) : Int) = 0) = false := decide_eq_false (by omega)
  refine mE Try.func218 ?_; intro N w0 a w hN hR H
  have hX := @hg
  refine mW ?_; clear H; intro a w H
  refine mC H (fun hb => ?_) (fun hb => ?_)
  · rw [e2] at hb; cases hb
  · clear hb
    refine mS ?_
    (try refine wp_region_lit ?_); refine mN 5 hN H ?_; clear H; intro a w H
    rw [e1] at H
    (try refine wp_region_lit ?_); refine mN 2 hN H ?_; clear H; intro a w H
    refine mW ?_; clear H; intro a w H
    rw [e1] at H
    refine mW ?_; clear H; intro a w H
    simp only [Int.toNat_natCast] at H
    refine mC H (fun hb => ?_) (fun hb => ?_)
    · clear hb
      refine mW ?_; clear H; intro a w H
      rw [show (d : Int) + 1 = ((d + 1 : Nat) : Int) by omega, show decide ((d : Int) < 256) = decide (d < 256) from (by rw [decide_eq_decide]; omega)] at H
      refine wp_ret ?_; exact mEnd [0, 1] [] [.tmp 4] [_] hN hR H
    · exact absurd hb (by decide)
end Go.Proofs.Ytigmpdhnhkdeiaa
/- Values seen as others: a nil slice inside a box as a row that is none yet; an empty window as no bytes. -/
namespace Go.Proofs.Ytigmpdhnhkdeiaa
open Go Go.RowKit
section
variable {P : Program} {τ : Tab} {w0 w w' : World} {N : Gh} {g g1 g2 : Gh} {st st' : St} {nt : Nat} {a : Act}
theorem RC.sc_slice {T : Ty} {A : Option Addr} {n c : Nat} {cs : List Value} (h : RC g T (.v (.slice A n c)) cs) : T = .sc ∧ cs = [.slice A n c] := by
  cases h with
  | v h => exact ⟨rfl, rfl⟩
theorem RC.nilK {y : AV} (hy : RC g .sc y [.slice none 0 0]) : ∀ (k : Nat) {T : Ty} {fs : List AV} {cs : List Value}, RC g T (.st fs) cs → fs[k]? = some (.v (.slice none 0 0)) → RC g T (.st (fs.set k y)) cs
  | _, _, [], _, h, hk => by simp at hk
  | 0, _, x :: fs, _, h, hk => by
    simp only [List.getElem?_cons_zero, Option.some.injEq] at hk
    subst hk
    cases h with
    | cn h hs =>
      obtain ⟨rfl, rfl⟩ := h.sc_slice
      exact .cn hy hs
  | k + 1, _, x :: fs, _, h, hk => by
    cases h with
    | cn h hs => exact .cn h (RC.nilK hy k hs (by simpa using hk))
/-- The same, of other elements. -/
theorem v_nilX (hτ : τ.ok P) (H : Rel P w0 N nt st a w) (i k e : Nat) {j : TI} (T' : Ty) {T : Ty} {fs : List AV} (hj : Tab.get e τ = some j) (hs : 0 < j.ty.size) (hb : st.bx[i]? = some (T, .st fs)) (hd : fs[k]? = some (.v (.slice none 0 0))) :
    Rel P w0 N nt ⟨st.t, st.bx.set i (T, .st (fs.set k (.sl T' [] (some st.rw.length)))), st.fz, st.rw ++ [(e, 0)]⟩ a w := by
  obtain ⟨g, HI, hF⟩ := H
  have hok := Tab.get_ok hτ hj
  obtain ⟨g1, l1, I1, h1⟩ := HI.rowNil (nilRow hok hs w) rfl rfl ⟨hok.cells.symm, rfl⟩
  obtain ⟨x, hx, rfl, hr⟩ := I1.br.at_ i T _ hb
  obtain ⟨hxo, hxm, hr⟩ := hr.rc_of (fun _ _ e => by cases e) (fun _ _ e => by cases e) (fun _ _ e => by cases e)
  have hy := (RC.sl (g := g1) (T := T') (es := []) (tok := some st.rw.length) (A := none) (c := 0) (by simp) (by simp [maxLen]) (fun _ => []) (.inl rfl) (fun k hk => absurd hk (by simp)) fun i hi => by injection hi with hi; subst hi; exact ⟨_, h1, by simp, fun _ => ⟨rfl, rfl⟩⟩)
  exact ⟨g1, I1.re hx (.pl (RC.nilK hy k hr hd) hxo hxm), ⟨(hF.mono l1.1).sz, hF.df, (hF.mono l1.1).t, hF.u⟩⟩
end
end Go.Proofs.Ytigmpdhnhkdeiaa
/- Proofs as bytes: what may be, how it is told. -/
namespace Go.Proofs.Ytigmpdhnhkdeiaa
open Go Go.RowKit
structure Pf where
  s : List (List UInt8)
  e : Nd
  deriving DecidableEq
def bas (ls : List (List UInt8)) : List AV := ls.map .ba
structure Pf.wf (p : Pf) : Prop where
  s : ∀ h ∈ p.s, h.length = 32
  e : p.e.wf
def Pf.av (p : Pf) : AV := .st [.sl (.ba 32) (bas p.s) none, p.e.av]
def Pf.chk (p : Pf) : Int := if 256 < p.s.length then 4 else if p.e.ok ∧ p.e.k ≠ 2 then 0 else 2
/-- The digest of nothing. -/
def E0 : List UInt8 := sum [0]
def hidesB (s : List (List UInt8)) (t : Nat) : Bool := match s[t]? with | some h => h != E0 | none => false
def Pf.bits (p : Pf) : List UInt8 := bitsB p.s.length (hidesB p.s)
def hashes (s : List (List UInt8)) : List UInt8 := (s.filter (· != E0)).flatten
def Pf.text (p : Pf) : List UInt8 := [UInt8.ofNat (p.s.length / 256), UInt8.ofNat p.s.length] ++ (p.bits ++ (hashes p.s ++ p.e.text))
end Go.Proofs.Ytigmpdhnhkdeiaa
/- A region in every order of its loud operations: the steps as theorems that a tactic can try one after another. -/
namespace Go.Proofs.Ytigmpdhnhkdeiaa
open Go Go.RowKit
section
variable {P : Program} {ops : Array Oper} {Q : Exit → Act → World → Prop} {S : World → Prop} {L A : List Nat} {U : List (Nat × Nat)}
theorem wpT_at {l : List Oper} {a : Act} {w : World} (i : Nat) (h : wpT P ops Q S L A l i a w) : wpT P ops Q S L A l i a w := h
theorem wpZ_q1 {i n : Nat} {rest : List Nat} {o : Oper} {a : Act} {w : World} (hL : L.contains i = false) (ho : (ops.toList.drop i).head? = some o)
    (h : wpT P ops (fun _ a w => wpZ P ops Q S L A U n rest a w) S L A [o] i a w) : wpZ P ops Q S L A U (n + 1) (i :: rest) a w := by
  have ho : ops[i]? = some o := by rw [List.head?_drop, Array.getElem?_toList] at ho; exact ho
  unfold wpZ; rw [if_neg (by rw [hL]; exact Bool.false_ne_true)]; unfold tOp; simp only [ho]; exact h
theorem wpZ_l1 {i n : Nat} {rest : List Nat} {o : Oper} {a : Act} {w : World} (hL : L.contains i = true) (hc : altZ U i rest = []) (ho : (ops.toList.drop i).head? = some o)
    (h : wpT P ops (fun _ a w => wpZ P ops Q S L A U n rest a w) S L A [o] i a w) : wpZ P ops Q S L A U (n + 1) (i :: rest) a w := by
  refine wpZ_two hL hc (all1 ?_)
  exact wpZ_pick (by simp) ho h
theorem wpZ_l2 {i m n : Nat} {rest r2 : List Nat} {o o2 : Oper} {a : Act} {w : World} (hL : L.contains i = true) (hc : altZ U i rest = [m]) (ho : (ops.toList.drop i).head? = some o) (ho2 : (ops.toList.drop m).head? = some o2) (hr2 : (i :: rest).erase m = r2)
    (h : wpT P ops (fun _ a w => wpZ P ops Q S L A U n rest a w) S L A [o] i a w) (h2 : wpT P ops (fun _ a w => wpZ P ops Q S L A U n r2 a w) S L A [o2] m a w) : wpZ P ops Q S L A U (n + 1) (i :: rest) a w := by
  refine wpZ_two hL hc (all2 ⟨?_, ?_⟩)
  · exact wpZ_pick (by simp) ho h
  · exact wpZ_pick hr2 ho2 h2
theorem wpZ_l3 {i m k n : Nat} {rest r2 r3 : List Nat} {o o2 o3 : Oper} {a : Act} {w : World} (hL : L.contains i = true) (hc : altZ U i rest = [m, k]) (ho : (ops.toList.drop i).head? = some o) (ho2 : (ops.toList.drop m).head? = some o2) (ho3 : (ops.toList.drop k).head? = some o3) (hr2 : (i :: rest).erase m = r2) (hr3 : (i :: rest).erase k = r3)
    (h : wpT P ops (fun _ a w => wpZ P ops Q S L A U n rest a w) S L A [o] i a w) (h2 : wpT P ops (fun _ a w => wpZ P ops Q S L A U n r2 a w) S L A [o2] m a w) (h3 : wpT P ops (fun _ a w => wpZ P ops Q S L A U n r3 a w) S L A [o3] k a w) : wpZ P ops Q S L A U (n + 1) (i :: rest) a w := by
  refine wpZ_two hL hc (all3 ⟨?_, ?_, ?_⟩)
  · exact wpZ_pick (by simp) ho h
  · exact wpZ_pick hr2 ho2 h2
  · exact wpZ_pick hr3 ho3 h3
theorem all4 {p : Nat → Prop} {x y z u : Nat} (h : p x ∧ p y ∧ p z ∧ p u) : ∀ m ∈ [x, y, z, u], p m := fun m hm => by
  simp at hm
  rcases hm with rfl | rfl | rfl | rfl
  · exact h.1
  · exact h.2.1
  · exact h.2.2.1
  · exact h.2.2.2
theorem wpZ_l4 {i m k j n : Nat} {rest r2 r3 r4 : List Nat} {o o2 o3 o4 : Oper} {a : Act} {w : World} (hL : L.contains i = true) (hc : altZ U i rest = [m, k, j]) (ho : (ops.toList.drop i).head? = some o) (ho2 : (ops.toList.drop m).head? = some o2) (ho3 : (ops.toList.drop k).head? = some o3) (ho4 : (ops.toList.drop j).head? = some o4) (hr2 : (i :: rest).erase m = r2) (hr3 : (i :: rest).erase k = r3) (hr4 : (i :: rest).erase j = r4)
    (h : wpT P ops (fun _ a w => wpZ P ops Q S L A U n rest a w) S L A [o] i a w) (h2 : wpT P ops (fun _ a w => wpZ P ops Q S L A U n r2 a w) S L A [o2] m a w) (h3 : wpT P ops (fun _ a w => wpZ P ops Q S L A U n r3 a w) S L A [o3] k a w) (h4 : wpT P ops (fun _ a w => wpZ P ops Q S L A U n r4 a w) S L A [o4] j a w) : wpZ P ops Q S L A U (n + 1) (i :: rest) a w := by
  refine wpZ_two hL hc (all4 ⟨?_, ?_, ?_, ?_⟩)
  · exact wpZ_pick (by simp) ho h
  · exact wpZ_pick hr2 ho2 h2
  · exact wpZ_pick hr3 ho3 h3
  · exact wpZ_pick hr4 ho4 h4
end
end Go.Proofs.Ytigmpdhnhkdeiaa
/- A reader of a stretch: (*span.reader).leaf. -/
namespace Go.Proofs.Ytigmpdhnhkdeiaa
open Go Go.RowKit
abbrev brT : Ty := ti54.ty
def brs (l : List Br) : List AV := l.map Br.av
theorem brs_len (l : List Br) : (brs l).length = l.length := by simp [brs]
structure RS.wf (s : RS) : Prop where
  rest : ∀ b ∈ s.rest, b.wf
  ks : ∀ k ∈ s.ks, k.length = 32
  ds : ∀ k ∈ s.ds, k.length = 32
  sd : ∀ k ∈ s.sd, k.length = 32
  en : s.en.wf
  lk : s.ks.length + s.rest.length ≤ 100000
  ld : s.ds.length + s.rest.length ≤ 100000
  ls : s.sd.length + s.rest.length ≤ 100000
theorem cutG9 {B R : Act → World → Prop} {G : Prop} (h : (∀ a w, R a w → B a w) → G) (k : ∀ a w, R a w → B a w) : G := h k
end Go.Proofs.Ytigmpdhnhkdeiaa
/- The statements' kit: do lists share memory? -/
namespace Go.Proofs.Ytigmpdhnhkdeiaa
open Go Go.RowKit
attribute [local irreducible] wpT
/-- A slice, in its three parts. -/
abbrev SV := Option Addr × Nat × Nat
abbrev SV.v (x : SV) : Value := .slice x.1 x.2.1 x.2.2
theorem madeCells_row (z : Value) (n : Nat) : madeCells #[z] n = (List.replicate n z).toArray := by
  apply Array.ext
  · simp [madeCells]
  · intro i h1 h2; simp [madeCells, Nat.mod_one]
theorem own_same {α : Type} {E : El α} {a b : World} {base base' g : Nat} {v : Value} {xs sp : List α} (h : Own E a base v xs sp) (h' : Own E b base' v xs sp) (hg : v.ownBlock = some g) : b.heap[g]? = a.heap[g]? := by
  rcases h with ⟨rfl, _⟩ | ⟨g1, _, rfl, h1, _⟩
  · simp [Value.ownBlock] at hg
  · simp [Value.ownBlock] at hg; subst hg
    rcases h' with ⟨hv, _⟩ | ⟨g2, _, hv, h2, _⟩
    · cases hv
    · injection hv with e; injection e with e; injection e with e; subst e; exact h2.trans h1.symm
/-- A row, and what the list that names it says of it. -/
abbrev ARow := SV × List UInt8 × List UInt8 × TypeId
abbrev ARow.str (x : ARow) : Value := .string (strOf (x.2.1 ++ x.2.2.1))
/-- Rows that do not share memory. -/
structure Apart (w : World) (base : Nat) (L : List ARow) : Prop where
  own : ∀ i (hi : i < L.length), Own (byteT L[i].2.2.2) w base L[i].1.v L[i].2.1 L[i].2.2.1
  ne : ∀ i j (hi : i < L.length) (hj : j < L.length), i ≠ j → L[i].1.v.ownBlock = none ∨ L[i].1.v.ownBlock ≠ L[j].1.v.ownBlock
theorem Apart.below {w w' : World} {base : Nat} {L : List ARow} (h : Apart w base L) (hb : Below w.heap.size w w') : Apart w' base L :=
  ⟨fun i hi => (h.own i hi).belowSize hb, h.ne⟩
/-- The row is no list of slices. -/
theorem own_not {t : TypeId} {w : World} {base g i : Nat} {v : Value} {xs sp : List UInt8} (h : Own (byteT t) w base v xs sp) {x : SV} (hc : w.cell? ⟨g, i, none⟩ = some x.v) : v.ownBlock ≠ some g := by
  intro e
  rcases h with ⟨rfl, _⟩ | ⟨g1, _, rfl, h1, _⟩
  · simp [Value.ownBlock] at e
  · simp [Value.ownBlock] at e; subst e
    rw [h1.cell, byteT_all, List.getElem?_toArray, List.getElem?_map] at hc
    obtain ⟨a, _, ha⟩ := Option.map_eq_some_iff.1 hc; cases ha
/-- The whole row as a string: what the code's 'string(x[:cap(x)])' reads. -/
theorem own_str {w : World} {base : Nat} {x : ARow} (h : Own (byteT x.2.2.2) w base x.1.v x.2.1 x.2.2.1) : ∃ A m c, x.1.v = .slice A m c ∧ m ≤ c ∧ c ≤ maxLen ∧ (A = none → c = 0 ∧ m = 0) ∧
    ∀ W : World, Own (byteT x.2.2.2) W base x.1.v x.2.1 x.2.2.1 → (convert 26 9 (.slice A c c)).run Try.prog W = .ok x.str W := by
  rcases h with ⟨hv, h2, h3⟩ | ⟨g1, _, hv, h1, h2⟩
  · refine ⟨none, 0, 0, hv, Nat.le_refl _, by simp [maxLen], fun _ => ⟨rfl, rfl⟩, fun W _ => ?_⟩
    unfold ARow.str; rw [h2, h3]
    exact run_str (Rd.nil W 0 none) 0 0 rfl
  · refine ⟨_, _, _, hv, by omega, h2, fun e => (by cases e), fun W hW => ?_⟩
    refine run_str (B := W.heap.size) ?_ _ _ (by rw [List.length_append])
    rw [hv] at hW
    have hb := own_byteT hW
    exact Rd.of_blk hb hb.lt 0 fun j u hu => by rw [byteE_all] at hu; rw [Nat.zero_add]; simpa using hu
set_option maxRecDepth 100000 in
set_option maxHeartbeats 1600000 in
theorem apart_any (L : List ARow) (g o c base : Nat) (w : World) (hS : ∀ i (hi : i < L.length), w.cell? ⟨g, o + i, none⟩ = some L[i].1.v) (hg : g < w.heap.size) (hP : Apart w base L) (h0 : 0 < L.length) (hl : L.length ≤ 1099511627776) :
    Calls Try.prog 23 #[.slice (some ⟨g, o, none⟩) L.length c] w fun e w' => e = .returned (.bool true) ∧ Below w.heap.size w w' := by
  obtain ⟨n, hn⟩ : ∃ n, L.length = n := ⟨_, rfl⟩
  have km := fun W : World => run_make_row' (P := Try.prog) 189 9 (.string ⟨#[]⟩) 16 Try.underlying189 (by kernel_rfl) rfl .i64 .i64 n (by omega) (by omega) W
  have hgne : ∀ i (hi : i < L.length), L[i].1.v.ownBlock ≠ some g := fun i hi => own_not (hP.own i hi) (hS i hi)
  have HP := Lib.hid hP; have HS := Lib.hid hS; have HG := Lib.hid hgne; clear hP hS hgne
  rw [hn] at h0 hl ⊢
  have HN := Lib.hid hn; clear hn
  go_enter Try.func23, Try.ntmps23
  go_wp2
  go_loopw [3] (fun v wr => ∃ i : Nat, i ≤ n ∧ v = .int .i64 (i : Int) ∧ Below w.heap.size w wr) (fun v _ => n - (intOf v).toNat)
  case atStart => exact ⟨0, by omega, rfl, Below.refl _ _⟩
  case round =>
    obtain ⟨i, hi, rfl, hb⟩ := hrel
    obtain ⟨wo, rfl⟩ : ∃ wo : World, wo = wr := ⟨_, rfl⟩
    have HB := Lib.hid hb; clear hb
    by_cases hlt : i < n
    · have hiL : i < L.length := by rw [HN.out]; exact hlt
      have hw0 : w.heap.size ≤ wo.heap.size := HB.out.size
      have PO := Lib.hid (HP.out.below HB.out)
      have SO : Hid (∀ j (hj : j < L.length), wo.cell? ⟨g, o + j, none⟩ = some L[j].1.v) := fun j hj => (World.cell?_of_block (a := ⟨g, o + j, none⟩) (HB.out.block g hg)).trans (HS.out j hj)
      obtain ⟨Ai, mi, ci, hvi, -, -, -, -⟩ := own_str (PO.out.own i hiL)
      have HVI := Lib.hid hvi; clear hvi
      go_wp2
      rw [madeCells_row]
      have B0 : Hid (Blk (wo.alloc (Obj.cells (List.replicate n (Value.string ⟨#[]⟩)).toArray 9)) wo.heap.size 9 (List.replicate n (Value.string ⟨#[]⟩)).toArray) := Blk.new _ _ _
      have L0 := Lib.hid ((Below.refl wo.heap.size wo).alloc (Nat.le_refl _) (Obj.cells (List.replicate n (Value.string ⟨#[]⟩)).toArray 9))
      go_loopw [5] (fun v wr => ∃ k : Nat, k ≤ n ∧ v = .int .i64 (k : Int) ∧ Blk wr wo.heap.size 9 ((L.take k).map ARow.str ++ List.replicate (n - k) (Value.string ⟨#[]⟩)).toArray ∧ Below wo.heap.size wo wr) (fun v _ => n - (intOf v).toNat)
      case atStart => exact ⟨0, by omega, rfl, by simpa using B0.out, L0.out⟩
      case round =>
        clear B0 L0
        obtain ⟨k, hk, rfl, b1, b2⟩ := hrel
        have B1 := Lib.hid b1; have B2 := Lib.hid b2; clear b1 b2
        by_cases hlt2 : k < n
        · have hkL : k < L.length := by rw [HN.out]; exact hlt2
          obtain ⟨Ak, mk, ck, hvk, hm1, hm2, hm3, hsk⟩ := own_str ((PO.out.below B2.out).own k hkL)
          have k1 := hsk wr.drew ((PO.out.below B2.out).own k hkL)
          have c1 : wr.cell? ⟨g, o + k, none⟩ = some (.slice Ak mk ck) := by rw [← hvk]; exact (World.cell?_of_block (a := ⟨g, o + k, none⟩) (B2.out.block g (by omega))).trans (SO.out k hkL)
          have ht : ((L.take k).map ARow.str).length = k := by rw [List.length_map, List.length_take]; omega
          have c2 : wr.cell? ⟨wo.heap.size, k, none⟩ = some (Value.string ⟨#[]⟩) := by
            rw [B1.out.cell, List.getElem?_toArray, List.getElem?_append_right (by omega), ht, Nat.sub_self]
            rw [List.getElem?_replicate, if_pos (by omega)]
          have c3 := B1.out.free k
          have hn2 : Blk (wr.drew.setCell ⟨wo.heap.size, k, none⟩ L[k].str) wo.heap.size 9 ((L.take (k + 1)).map ARow.str ++ List.replicate (n - (k + 1)) (Value.string ⟨#[]⟩)).toArray := by
            have := B1.out.drew.put k L[k].str
            have e : ((L.take k).map ARow.str ++ List.replicate (n - k) (Value.string ⟨#[]⟩)).toArray.setIfInBounds k L[k].str = ((L.take (k + 1)).map ARow.str ++ List.replicate (n - (k + 1)) (Value.string ⟨#[]⟩)).toArray := by
              apply Array.toList_inj.1
              rw [Array.toList_setIfInBounds, List.take_succ_eq_append_getElem hkL]
              simp only [List.map_append, List.map_cons, List.map_nil]
              rw [List.set_append_right _ _ (by rw [ht]; exact Nat.le_refl _), ht, Nat.sub_self, show n - k = (n - (k + 1)) + 1 by omega, List.replicate_succ]
              simp
            rw [e] at this; exact this
          have N2 := Lib.hid hn2
          have N3 := Lib.hid (below_putAt (B2.out.drew) (b := wo.heap.size) (i := k) (Nat.le_refl _) L[k].str)
          unfold ARow.str at k1
          have e1 : L[k].str = .string (strOf (L[k].2.1 ++ L[k].2.2.1)) := rfl
          rw [e1] at N2 N3
          generalize L[k].2.1 ++ L[k].2.2.1 = bs at k1 N2 N3 e1
          clear hn2 hvk hsk e1 ht
          cases Ak with
          | none =>
            obtain ⟨rfl, rfl⟩ := hm3 rfl
            go_wp2
            refine wp_region_T [14] [] (fun _ => True) (by kernel_rfl) (by kernel_rfl) trivial ?_
            repeat (first
              | (refine wpT_skip (by rfl) ?_; go_simp)
              | (refine wpT_here (by rfl) (by rfl) (by rfl) (fun K hK => ?_); go_big_quiet_op; refine hK _ ?_; clear hK K)
              | (refine wpT_loud (by rfl) (by rfl) (fun K hK => ?_); go_big_op; refine hK _ _ trivial ?_; clear hK K))
            refine wpT_nil ?_
            go_wp2
            go_roundw
            case rel => exact ⟨k + 1, by omega, by go_num, N2.out, N3.out⟩
            case measure => simp [intOf]; omega
          | some a =>
            go_wp2
            refine wp_region_T [14] [] (fun _ => True) (by kernel_rfl) (by kernel_rfl) trivial ?_
            repeat (first
              | (refine wpT_skip (by rfl) ?_; go_simp)
              | (refine wpT_here (by rfl) (by rfl) (by rfl) (fun K hK => ?_); go_big_quiet_op; refine hK _ ?_; clear hK K)
              | (refine wpT_loud (by rfl) (by rfl) (fun K hK => ?_); go_big_op; refine hK _ _ trivial ?_; clear hK K))
            refine wpT_nil ?_
            go_wp2
            go_roundw
            case rel => exact ⟨k + 1, by omega, by go_num, N2.out, N3.out⟩
            case measure => simp [intOf]; omega
        · obtain rfl : k = n := by omega
          have c1 : wr.cell? ⟨g, o + i, none⟩ = some (.slice Ai mi ci) := by rw [← HVI.out]; exact (World.cell?_of_block (a := ⟨g, o + i, none⟩) (B2.out.block g (by omega))).trans (SO.out i hiL)
          have o1 := (PO.out.below B2.out).own i hiL
          rw [HVI.out] at o1
          have O1 := Lib.hid o1; clear o1
          go_wp2_with (go_at_call 109; refine (over_any _ _ _ _ _ O1.out).mono ?_; rintro e w1 ⟨rfl, hO1, hg1⟩; have O2 := Lib.hid hO1; have G1 := Lib.hid hg1; clear hO1 hg1; dsimp only)
          obtain ⟨wp, rfl⟩ : ∃ wp : World, wp = wr := ⟨_, rfl⟩
          have hlo : ∀ r, (Value.slice Ai mi ci).ownBlock = some r → r < wo.heap.size := fun r hr => by
            have := (PO.out.own i hiL).lt (g := r) (by rw [HVI.out]; exact hr); exact this.2
          have b1 : Blk w1 wo.heap.size 9 (L.map ARow.str).toArray := by
            have := (B1.out.grown G1.out fun e => by have := hlo _ e.symm; omega)
            rw [List.take_of_length_le (by rw [HN.out]; exact Nat.le_refl _), Nat.sub_self, List.replicate_zero, List.append_nil] at this; exact this
          have hsz : wo.heap.size ≤ wp.heap.size := B2.out.size
          have hsz1 : wp.heap.size ≤ w1.heap.size := G1.out.size
          have hgi : (Value.slice Ai mi ci).ownBlock ≠ some g := by have := HG.out i hiL; rw [HVI.out] at this; exact this
          have cell1 : ∀ j (hj : j < L.length), w1.cell? ⟨g, o + j, none⟩ = some L[j].1.v := fun j hj =>
            (World.cell?_of_block (a := ⟨g, o + j, none⟩) (G1.out.block g (by omega) (fun e => hgi e.symm))).trans ((World.cell?_of_block (a := ⟨g, o + j, none⟩) (B2.out.block g (by omega))).trans (SO.out j hj))
          have C1 := Lib.hid cell1; have S1 := Lib.hid b1; clear cell1 b1
          have own1 : ∀ j (hj : j < L.length), j ≠ i → Own (byteT L[j].2.2.2) w1 base L[j].1.v L[j].2.1 L[j].2.2.1 := fun j hj hne => by
            refine ((PO.out.below B2.out).own j hj).grown G1.out ?_
            rcases HP.out.ne j i hj hiL hne with h | h
            · exact .inl h
            · exact .inr (by rw [HVI.out] at h; exact h)
          have W1 := Lib.hid own1; clear own1
          clear c1 B1
          go_loopw [6] (fun v wr => ∃ q : Nat, q ≤ k ∧ v = .int .i64 (q : Int) ∧ Below w1.heap.size w1 wr) (fun v _ => k - (intOf v).toNat)
          case atStart => exact ⟨0, by omega, rfl, Below.refl _ _⟩
          case round =>
            obtain ⟨q, hq, rfl, b2⟩ := hrel
            have B3 := Lib.hid b2; clear b2
            by_cases hlt3 : q < k
            · by_cases hqi : q = i
              · subst hqi
                go_wp2
                refine wp_region_T [] [] (fun _ => True) (by kernel_rfl) (by kernel_rfl) trivial ?_
                repeat (first
                  | (refine wpT_skip (by rfl) ?_; go_simp)
                  | (refine wpT_here (by rfl) (by rfl) (by rfl) (fun K hK => ?_); go_big_quiet_op; refine hK _ ?_; clear hK K)
                  | (refine wpT_loud (by rfl) (by rfl) (fun K hK => ?_); go_big_op; refine hK _ _ trivial ?_; clear hK K))
                refine wpT_nil ?_
                go_wp2
                go_roundw
                case rel => exact ⟨q + 1, by omega, by go_num, B3.out.drew⟩
                case measure => simp [intOf]; omega
              · have hqL : q < L.length := by rw [HN.out]; exact hlt3
                have oq := (W1.out q hqL hqi).belowSize B3.out
                obtain ⟨Ak, mk, ck, hvk, hm1, hm2, hm3, hsk⟩ := own_str oq
                have k1 := hsk wr.drew oq
                have c1 : wr.cell? ⟨g, o + q, none⟩ = some (.slice Ak mk ck) := by rw [← hvk]; exact (World.cell?_of_block (a := ⟨g, o + q, none⟩) (B3.out.block g (by omega))).trans (C1.out q hqL)
                have c2 : wr.cell? ⟨wo.heap.size, q, none⟩ = some L[q].str := by
                  rw [(S1.out.below B3.out S1.out.lt).cell, List.getElem?_toArray, List.getElem?_map, List.getElem?_eq_getElem hqL]; rfl
                have hne : ((q : Int) != (i : Int)) = true := by simp; omega
                unfold ARow.str at k1 c2
                generalize strOf (L[q].2.1 ++ L[q].2.2.1) = bs at k1 c2
                clear oq hvk hsk
                cases Ak with
                | none =>
                  obtain ⟨rfl, rfl⟩ := hm3 rfl
                  go_wp2
                  refine wp_region_T [] [] (fun _ => True) (by kernel_rfl) (by kernel_rfl) trivial ?_
                  repeat (first
                    | (refine wpT_skip (by rfl) ?_; go_simp)
                    | (refine wpT_here (by rfl) (by rfl) (by rfl) (fun K hK => ?_); go_big_quiet_op; refine hK _ ?_; clear hK K)
                    | (refine wpT_loud (by rfl) (by rfl) (fun K hK => ?_); go_big_op; refine hK _ _ trivial ?_; clear hK K))
                  refine wpT_nil ?_
                  go_wp2
                  go_roundw
                  case rel => exact ⟨q + 1, by omega, by go_num, B3.out.drew⟩
                  case measure => simp [intOf]; omega
                | some a =>
                  go_wp2
                  refine wp_region_T [] [] (fun _ => True) (by kernel_rfl) (by kernel_rfl) trivial ?_
                  repeat (first
                    | (refine wpT_skip (by rfl) ?_; go_simp)
                    | (refine wpT_here (by rfl) (by rfl) (by rfl) (fun K hK => ?_); go_big_quiet_op; refine hK _ ?_; clear hK K)
                    | (refine wpT_loud (by rfl) (by rfl) (fun K hK => ?_); go_big_op; refine hK _ _ trivial ?_; clear hK K))
                  refine wpT_nil ?_
                  go_wp2
                  go_roundw
                  case rel => exact ⟨q + 1, by omega, by go_num, B3.out.drew⟩
                  case measure => simp [intOf]; omega
            · obtain rfl : q = k := by omega
              have c1 : wr.cell? ⟨g, o + i, none⟩ = some (.slice Ai mi ci) := by rw [← HVI.out]; exact (World.cell?_of_block (a := ⟨g, o + i, none⟩) (B3.out.block g (by omega))).trans (C1.out i hiL)
              have O3 := Lib.hid (O2.out.belowSize B3.out)
              have hsz2 : w1.heap.size ≤ wr.heap.size := B3.out.size
              go_wp2_with (go_at_call 109; refine (over_any _ _ _ _ _ O3.out).mono ?_; rintro e w4 ⟨rfl, hO4, hg4⟩; have O4 := Lib.hid hO4; have G4 := Lib.hid hg4; clear hO4 hg4; dsimp only)
              go_roundw
              case rel =>
                refine ⟨i + 1, by omega, by go_num, ?_⟩
                have o4 := O4.out
                rw [map_over_over, map_over_over] at o4
                refine ⟨?_, ?_, ?_, ?_, ?_⟩
                · rw [G4.out.os, B3.out.os, G1.out.os, B2.out.os, HB.out.os]
                · rw [G4.out.tape, B3.out.tape, G1.out.tape, B2.out.tape, HB.out.tape]
                · rw [G4.out.output, B3.out.output, G1.out.output, B2.out.output, HB.out.output]
                · have := G4.out.size; omega
                · intro r hr
                  by_cases hri : (Value.slice Ai mi ci).ownBlock = some r
                  · rw [own_same O1.out o4 hri, B2.out.block r (by omega), HB.out.block r hr]
                  · rw [G4.out.block r (by omega) (fun e => hri e.symm), B3.out.block r (by omega), G1.out.block r (by omega) (fun e => hri e.symm), B2.out.block r (by omega), HB.out.block r hr]
              case measure => simp [intOf]; omega
    · obtain rfl : i = n := by omega
      go_wp2
      go_ret
      exact ⟨rfl, HB.out⟩
end Go.Proofs.Ytigmpdhnhkdeiaa
/- ApartBytes of slices that own their memory, written out where they are asked about; guards that are known to hold. -/
namespace Go.Proofs.Ytigmpdhnhkdeiaa
open Go Go.RowKit
section
variable {P : Program} {τ : Tab} {w0 w : World} {N : Gh} {g gS : Gh} {st st' sq sq' : St} {nt : Nat} {a : Act}
theorem zero_u8 : zeroOf Try.prog 5 = [.int .u8 0] := by kernel_rfl
theorem flat_z (m : Nat) : (List.replicate m [Value.int .u8 0]).flatten = (List.replicate m (0 : UInt8)).map B8 := by
  induction m with
  | zero => rfl
  | succ m ih => rw [List.replicate_succ, List.flatten_cons, ih, List.replicate_succ]; rfl
end
end Go.Proofs.Ytigmpdhnhkdeiaa
/- Rows that no frame owns: lists of bytes, each with memory of its own; contracts that hand them out. -/
namespace Go.Proofs.Ytigmpdhnhkdeiaa
open Go Go.RowKit
/-- A slice on its own: its block, its length and room, the block's cells; the first k of them stay as they are. -/
structure XR where
  A : Option Nat
  n : Nat
  c : Nat
  tid : TypeId
  cells : List Value
  k : Nat
def XR.v (x : XR) : Value := .slice (x.A.map fun b => ⟨b, 0, none⟩) x.n x.c
theorem XR.own (x : XR) : x.v.ownBlock = x.A := by unfold XR.v; cases x.A <;> rfl
structure XOk (lo : Nat) (g : Gh) (w : World) (x : XR) : Prop where
  le : x.n ≤ x.c ∧ x.c ≤ maxLen
  nil : x.A = none → x.c = 0
  own : ∀ b, x.A = some b → ¬ g.has b ∧ lo ≤ b ∧ Blk w b x.tid x.cells.toArray ∧ ∀ o u, o < x.k → x.cells[o]? = some u → g.ro b o = some u
theorem XOk.lt {lo : Nat} {g : Gh} {w : World} {x : XR} (h : XOk lo g w x) {b : Nat} (hb : x.A = some b) : b < w.heap.size := (h.own b hb).2.2.1.lt
def XApart (X : List XR) : Prop := X.Pairwise fun x y => x.A = none ∨ x.A ≠ y.A
structure Xs (lo : Nat) (g : Gh) (w : World) (X : List XR) : Prop where
  ok : ∀ x ∈ X, XOk lo g w x
  un : XApart X
/-- As Fr, but for blocks from lo on. -/
structure FrX (lo : Nat) (w0 : World) (N g : Gh) (w : World) : Prop where
  os : w.os = w0.os
  tape : w.tape = w0.tape
  output : w.output = w0.output
  size : w0.heap.size ≤ w.heap.size
  block : ∀ k, k < w0.heap.size → k < lo → ¬ N.has k → w.heap[k]? = w0.heap[k]?
  bx : ∀ (i : Nat) (x : Bx), g.bx[i]? = some x → x.off = false → w0.heap.size ≤ x.blk ∨ ∃ y, N.bx[i]? = some y ∧ y.off = false ∧ y.blk = x.blk
  rw : ∀ (i : Nat) (r : Rw) (k : Nat), g.rw[i]? = some r → r.v.ownBlock = some k → w0.heap.size ≤ k ∨ ∃ s, N.rw[i]? = some s ∧ s.v.ownBlock = some k
  ro : ∀ b, b < w0.heap.size → b < lo → ¬ N.has b → ∀ o, g.ro b o = N.ro b o
  le : N.le g
section
variable {P : Program} {τ : Tab} {w0 w w1 w2 : World} {N N1 N2 : Gh} {g g1 gS : Gh} {st st' sq sq' : St} {nt : Nat} {a : Act} {lo : Nat} {X Y : List XR}
theorem FrX.of (h : Fr w0 N g w) (lo : Nat) : FrX lo w0 N g w := ⟨h.kept.os, h.kept.tape, h.kept.output, h.kept.size, fun k hk _ hn => h.kept.block k hk hn, h.bx, h.rw, fun b hb _ hn => h.ro b hb hn, h.le⟩
theorem FrX.fr (h : FrX lo w0 N g w) (hlo : w0.heap.size ≤ lo) : Fr w0 N g w := ⟨⟨h.os, h.tape, h.output, h.size, fun k hk hn => h.block k hk (by omega) hn⟩, h.bx, h.rw, fun b hb hn => h.ro b hb (by omega) hn, h.le⟩
theorem FrX.back (h : FrX lo w0 N g w) {b : Nat} (hb : b < w0.heap.size) (hh : g.has b) : N.has b := by
  rcases hh with ⟨y, hy, hyo, he⟩ | ⟨s, hr, he⟩
  · obtain ⟨i, hi⟩ := List.getElem?_of_mem hy
    rcases h.bx i y hi hyo with h3 | ⟨z, h3, h4, h5⟩
    · omega
    · exact .inl ⟨z, List.mem_of_getElem? h3, h4, h5.trans he⟩
  · obtain ⟨i, hi⟩ := List.getElem?_of_mem hr
    rcases h.rw i s b hi he with h3 | ⟨z, h3, h4⟩
    · omega
    · exact .inr ⟨z, List.mem_of_getElem? h3, h4⟩
theorem FrX.trans (h : FrX lo w0 N N1 w1) (k : FrX lo w1 N1 g w) : FrX lo w0 N g w := by
  have hs := h.size
  refine ⟨k.os.trans h.os, k.tape.trans h.tape, k.output.trans h.output, Nat.le_trans h.size k.size, fun b hb hl hn => (k.block b (by omega) hl (fun hh => hn (h.back hb hh))).trans (h.block b hb hl hn), fun i x hx hxo => ?_, fun i r b hr hrb => ?_, fun b hb hl hn o => (k.ro b (by omega) hl (fun hh => hn (h.back hb hh)) o).trans (h.ro b hb hl hn o), h.le.trans k.le⟩
  · rcases k.bx i x hx hxo with h1 | ⟨y, h1, h2, h3⟩
    · exact .inl (by omega)
    · rw [← h3]; exact h.bx i y h1 h2
  · rcases k.rw i r b hr hrb with h1 | ⟨s, h1, h2⟩
    · exact .inl (by omega)
    · exact h.rw i s b h1 h2
theorem Inv.self {bx : List (Ty × AV)} {fz : List Nat} {rw : List (TypeId × Nat)} (HI : Inv P w0 N g bx fz rw w) : Inv P w g g bx fz rw w :=
  ⟨HI.mem, ⟨Kept.refl _ _, fun i x hx hxo => .inr ⟨x, hx, hxo, rfl⟩, fun i r k hr hrk => .inr ⟨r, hr, hrk⟩, fun _ _ _ _ => rfl, Gh.le.refl _⟩, HI.br, HI.fz, HI.wr, HI.wz⟩
theorem XOk.step {x : XR} (h : XOk lo N1 w1 x) {bx : List (Ty × AV)} {fz : List Nat} {rw : List (TypeId × Nat)} (HI : Inv P w1 N1 g bx fz rw w) : XOk lo g w x := by
  have hB := FrX.of HI.fr w1.heap.size
  refine ⟨h.le, h.nil, fun b hb => ?_⟩
  obtain ⟨h1, h2, h3, h4⟩ := h.own b hb
  exact ⟨fun hh => h1 (hB.back h3.lt hh), h2, h3.kept HI.fr.kept h1, fun o u ho hu => HI.fr.le.ro _ _ _ (h4 o u ho hu)⟩
theorem Xs.step (h : Xs lo N1 w1 X) {bx : List (Ty × AV)} {fz : List Nat} {rw : List (TypeId × Nat)} (HI : Inv P w1 N1 g bx fz rw w) : Xs lo g w X := ⟨fun x hx => (h.ok x hx).step HI, h.un⟩
/-- A frame, and rows on their own. -/
def RelX (lo : Nat) (P : Program) (w0 : World) (N : Gh) (nt : Nat) (st : St) (X : List XR) (a : Act) (w : World) : Prop :=
  ∃ g, Inv P w g g st.bx st.fz st.rw w ∧ FrX lo w0 N g w ∧ FR g nt st a ∧ Xs lo g w X
theorem Rel.toX (H : Rel P w0 N nt st a w) (lo : Nat) : RelX lo P w0 N nt st [] a w := by
  obtain ⟨g, HI, hF⟩ := H
  exact ⟨g, HI.self, .of HI.fr lo, hF, ⟨fun x hx => (by cases hx), List.Pairwise.nil⟩⟩
theorem RelX.open_ (H : RelX lo P w0 N nt st X a w) : ∃ N1, FrX lo w0 N N1 w ∧ Xs lo N1 w X ∧ Rel P w N1 nt st a w ∧ N1.bx.length = st.bx.length ∧ N1.rw.length = st.rw.length := by
  obtain ⟨g, HI, hB, hF, hX⟩ := H
  exact ⟨g, hB, hX, ⟨g, HI, hF⟩, HI.br.len, by rw [← HI.wr, List.length_map]⟩
theorem RelX.close (hB : FrX lo w0 N N1 w1) (hX : Xs lo N1 w1 X) (H : Rel P w1 N1 nt st a w) : RelX lo P w0 N nt st X a w := by
  obtain ⟨g, HI, hF⟩ := H
  exact ⟨g, HI.self, hB.trans (.of HI.fr lo), hF, hX.step HI⟩
theorem RelX.eq (H : RelX lo P w0 N nt st X a w) (h : X = Y) : RelX lo P w0 N nt st Y a w := h ▸ H
/-- Bytes that are the last row's become a row on its own. -/
theorem v_pub0 (HI : Inv P w g g st.bx st.fz st.rw w) (hB : FrX lo w0 N g w) (hF : FR g nt st a) (hX : Xs lo g w X) (hlo : lo ≤ w0.heap.size) (ks : List Nat) (d k e : Nat) {l : List UInt8} (hk : st.rw.length = k + 1) (hNk : N.rw.length ≤ k) (hd : find d st.t = some (none, .bs l (some k))) (hrow : st.rw[k]? = some (e, l.length))
    (h1 : keepT ks st.bx.length k st.t = true) (h2 : (st.bx.take st.bx.length).all (fun x => low st.bx.length k 4 x.2) = true) :
    ∃ x : XR, (x.n = l.length ∧ x.tid = e ∧ x.k = l.length ∧ ∃ m, x.c = l.length + m ∧ x.cells = l.map B8 ++ (List.replicate m (zeroOf P e)).flatten) ∧ Inv P w (g.cut st.bx.length k) (g.cut st.bx.length k) (st.bx.take st.bx.length) (st.fz) (st.rw.take k) w ∧ FrX lo w0 N (g.cut st.bx.length k) w ∧ FR (g.cut st.bx.length k) nt ⟨(d, none, .v x.v) :: st.t.filter (fun p => ks.contains p.1), st.bx.take st.bx.length, st.fz, st.rw.take k⟩ a ∧ Xs lo (g.cut st.bx.length k) w (X ++ [x]) := by
  have hgl : g.rw.length = k + 1 := by rw [← hk, ← HI.wr, List.length_map]
  have hbs := (hF.t _ (find_mem hd) trivial).bs_inv
  have hv0 : a.tmps.getD d undef = a.tmps.getD d undef := rfl
  generalize hvd : a.tmps.getD d undef = vd at hbs
  cases hbs with
  | @bs _ _ _ A c hc hm hr ht =>
    obtain ⟨r, hrk, _, h3⟩ := ht k rfl
    have hw : (r.tid, r.n) = (e, l.length) := by
      have := HI.wr
      rw [← this, List.getElem?_map, hrk] at hrow
      injection hrow
    simp only [Prod.mk.injEq] at hw
    obtain ⟨hv, hcx⟩ := h3 hw.2
    have hcut := HI.loose.cut (nb := st.bx.length) (nr := k) (Nat.zero_le _) (Nat.zero_le _) h2
    have hbx : ∀ {i : Nat} {x : Bx}, (g.cut st.bx.length k).bx[i]? = some x → g.bx[i]? = some x := fun {i x} hx => by
      have : (g.bx.take st.bx.length)[i]? = some x := hx
      rw [List.getElem?_take] at this; split at this; exact this; cases this
    have hrw : ∀ {i : Nat} {x : Rw}, (g.cut st.bx.length k).rw[i]? = some x → i < k ∧ g.rw[i]? = some x := fun {i x} hx => by
      have : (g.rw.take k)[i]? = some x := hx
      rw [List.getElem?_take] at this; split at this; exact ⟨by assumption, this⟩; cases this
    have hhas : ∀ b, (g.cut st.bx.length k).has b → g.has b := fun b hh => by
      rcases hh with ⟨y, hy, h⟩ | ⟨s, hs, h⟩
      · exact .inl ⟨y, List.mem_of_mem_take hy, h⟩
      · exact .inr ⟨s, List.mem_of_mem_take hs, h⟩
    have hrow1 := HI.mem.rw k r hrk
    have hz := (HI.wz r (List.mem_of_getElem? hrk)).2
    have hxv : (⟨r.v.ownBlock, r.n, c, r.tid, r.cx ++ noughts r, l.length⟩ : XR).v = r.v := by
      rcases hrow1.at_ with ⟨q1, q2, q3⟩ | ⟨b, q1, q2, q3⟩
      · rw [q1] at hv; injection hv with _ hv1 hv2
        unfold XR.v; rw [q1, q2, ← hv2]; rfl
      · rw [q1] at hv; injection hv with _ hv1 hv2
        unfold XR.v; rw [q1, ← hv2]; rfl
    refine ⟨⟨r.v.ownBlock, r.n, c, r.tid, r.cx ++ noughts r, l.length⟩, ⟨hw.2, hw.1, rfl, r.m, by
      show c = l.length + r.m
      rcases hrow1.at_ with ⟨q1, q2, q3⟩ | ⟨b, q1, q2, q3⟩
      · rw [q1] at hv; injection hv with _ hv1 hv2; omega
      · rw [q1] at hv; injection hv with _ hv1 hv2; omega, by rw [hcx]; unfold noughts; rw [hz, hw.1]⟩, hcut.self, ⟨hB.os, hB.tape, hB.output, hB.size, hB.block, fun i x hx => hB.bx i x (hbx hx), fun i s b hs => hB.rw i s b (hrw hs).2, hB.ro, hB.le.ro, fun i x hx => ?_, fun i s hs => ?_⟩, ⟨hF.sz, hF.df, fun p hp hg => ?_, fun p hp hg => ?_⟩, ⟨fun x hx => ?_, ?_⟩⟩
    · obtain ⟨x', q1, q2⟩ := hB.le.bx i x hx
      refine ⟨x', ?_, q2⟩
      show (g.bx.take st.bx.length)[i]? = _
      rw [List.getElem?_take, if_pos (by rw [← HI.br.len]; exact (List.getElem?_eq_some_iff.1 q1).1)]; exact q1
    · obtain ⟨x', q1, q2⟩ := hB.le.rw i s hs
      refine ⟨x', ?_, q2⟩
      show (g.rw.take k)[i]? = _
      rw [List.getElem?_take, if_pos (Nat.lt_of_lt_of_le (List.getElem?_eq_some_iff.1 hs).1 hNk)]; exact q1
    · rcases List.mem_cons.1 hp with rfl | hp
      · show RV _ (.v _) (a.tmps.getD d undef)
        rw [hvd, hxv, hv]; exact RV.v_of rfl
      · simp only [List.mem_filter] at hp
        simp only [keepT, List.all_eq_true, Bool.or_eq_true, Bool.not_eq_true'] at h1
        have hl : low st.bx.length k 4 p.2.2 = true := by
          rcases h1 p hp.1 with h | h
          · rw [h] at hp; cases hp.2
          · exact h
        exact (hF.t p hp.1 hg).low_ (d := 3) hl
    · rcases List.mem_cons.1 hp with rfl | hp
      · exact absurd trivial hg
      · simp only [List.mem_filter] at hp; exact hF.u p hp.1 hg
    · rcases List.mem_append.1 hx with hx | hx
      · have h := hX.ok x hx
        exact ⟨h.le, h.nil, fun b hb => ⟨fun hh => (h.own b hb).1 (hhas b hh), (h.own b hb).2⟩⟩
      · simp only [List.mem_singleton] at hx
        subst hx
        refine ⟨⟨by show r.n ≤ c; rw [hw.2]; exact hc, hm⟩, fun hA => ?_, fun b hb => ⟨fun hh => ?_, ?_, ?_, fun o u ho hu => ?_⟩⟩
        · show c = 0
          rcases hrow1.at_ with ⟨q1, _⟩ | ⟨b, q1, _⟩
          · rw [q1] at hv; injection hv with _ _ hv2; exact hv2.symm
          · have : r.v.ownBlock = none := hA
            rw [q1] at this; cases this
        · rcases hh with ⟨y, hy, hyo, he⟩ | ⟨s, hs, he⟩
          · obtain ⟨i, hi⟩ := List.getElem?_of_mem hy
            exact HI.mem.rb i k y r (hbx hi) hrk hyo (by rw [he]; exact hb)
          · obtain ⟨i, hi⟩ := List.getElem?_of_mem hs
            have := HI.mem.rr i k s r b (hrw hi).2 hrk he hb
            have := (hrw hi).1
            omega
        · rcases hB.rw k r b hrk hb with h | ⟨s, h, _⟩
          · omega
          · have := (List.getElem?_eq_some_iff.1 h).1; omega
        · have hb : r.v.ownBlock = some b := hb
          rcases hrow1.at_ with ⟨q1, _⟩ | ⟨b', q1, q2, _⟩
          · rw [q1] at hb; cases hb
          · rw [q1] at hb; injection hb with hb; subst hb; exact q2
        · refine HI.mem.rwo k r b hrk hb o u ?_
          have hu : (r.cx ++ noughts r)[o]? = some u := hu
          rwa [List.getElem?_append_left (by rw [hcx, List.length_map]; exact ho)] at hu
    · unfold XApart
      rw [List.pairwise_append]
      refine ⟨hX.un, List.pairwise_singleton _ _, fun x hx y hy => ?_⟩
      simp only [List.mem_singleton] at hy
      subst hy
      cases hb : x.A with
      | none => exact .inl rfl
      | some b =>
        refine .inr fun e => ?_
        have hn := ((hX.ok x hx).own b hb).1
        exact hn (.inr ⟨r, List.mem_of_getElem? hrk, e.symm⟩)
theorem v_pub (H : RelX lo P w0 N nt st X a w) (hlo : lo ≤ w0.heap.size) (ks : List Nat) (d k e : Nat) {l : List UInt8} (hk : st.rw.length = k + 1) (hNk : N.rw.length ≤ k) (hd : find d st.t = some (none, .bs l (some k))) (hrow : st.rw[k]? = some (e, l.length))
    (h1 : keepT ks st.bx.length k st.t = true) (h2 : (st.bx.take st.bx.length).all (fun x => low st.bx.length k 4 x.2) = true) :
    ∃ x : XR, (x.n = l.length ∧ x.tid = e ∧ x.k = l.length ∧ ∃ m, x.c = l.length + m ∧ x.cells = l.map B8 ++ (List.replicate m (zeroOf P e)).flatten) ∧ RelX lo P w0 N nt ⟨(d, none, .v x.v) :: st.t.filter (fun p => ks.contains p.1), st.bx.take st.bx.length, st.fz, st.rw.take k⟩ (X ++ [x]) a w := by
  obtain ⟨g, HI, hB, hF, hX⟩ := H
  obtain ⟨x, h, q⟩ := v_pub0 HI hB hF hX hlo ks d k e hk hNk hd hrow h1 h2
  exact ⟨x, h, _, q⟩
/-- Lent bytes that are the last box become a slice on its own. -/
theorem v_pubC0 (HI : Inv P w g g st.bx st.fz st.rw w) (hB : FrX lo w0 N g w) (hF : FR g nt st a) (hX : Xs lo g w X) (hlo : lo ≤ w0.heap.size) (ks : List Nat) (d i : Nat) {full : List UInt8} {n m : Nat} {l' : List UInt8} (hi : st.bx.length = i + 1) (hNi : N.bx.length ≤ i) (hd : find d st.t = some (none, .bc full n (some i))) (hbx0 : st.bx[i]? = some (.ba m, .ba l'))
    (h1 : keepT ks i st.rw.length st.t = true) (h2 : (st.bx.take i).all (fun x => low i st.rw.length 4 x.2) = true) :
    ∃ x : XR, (x.n = n ∧ x.c = full.length ∧ x.k = full.length ∧ x.cells = full.map B8) ∧ Inv P w (g.cut i st.rw.length) (g.cut i st.rw.length) (st.bx.take i) (st.fz.filter (fun j => decide (j < i))) (st.rw.take st.rw.length) w ∧ FrX lo w0 N (g.cut i st.rw.length) w ∧ FR (g.cut i st.rw.length) nt ⟨(d, none, .v x.v) :: st.t.filter (fun p => ks.contains p.1), st.bx.take i, st.fz.filter (fun j => decide (j < i)), st.rw.take st.rw.length⟩ a ∧ Xs lo (g.cut i st.rw.length) w (X ++ [x]) := by
  have hbl : g.bx.length = i + 1 := by rw [← hi]; exact HI.br.len
  have hrl : g.rw.length = st.rw.length := by rw [← HI.wr, List.length_map]
  have hbs := (hF.t _ (find_mem hd) trivial).bc_inv
  generalize hvd : a.tmps.getD d undef = vd at hbs
  cases hbs with
  | bc hn hm hr ht =>
    rename_i A
    obtain ⟨y, hy, hA, hty⟩ := ht i rfl
    obtain ⟨y', hy', hT, hrc⟩ := HI.br.at_ i _ _ hbx0
    rw [hy] at hy'; injection hy' with hy'; subst hy'
    rw [hty] at hT; injection hT with hT
    obtain ⟨hyo, hym, hrc⟩ := hrc.rc rfl
    have hblk := (HI.mem.bx i y hy hyo).c hym
    have hcells : y.cells = l'.map B8 ∧ l'.length = m := by
      generalize hcs : y.cells = cs at hrc
      cases hrc with
      | ba h => exact ⟨rfl, h⟩
    have hll : l'.length = full.length := by rw [hcells.2, hT]
    have hfl : l' = full := by
      apply List.ext_getElem hll
      intro j hj1 hj2
      rcases hr with h | ⟨b, o, hb, hj⟩
      · subst h; simp at hj2
      · rw [hA] at hb
        injection hb with hb
        injection hb with hb1 hb2
        have h5 := HI.mem.ro _ _ _ (hj j hj2)
        rw [← hb1, ← hb2, Nat.zero_add, hblk.cell, hcells.1] at h5
        simp only [List.getElem?_toArray, List.getElem?_map, List.getElem?_eq_getElem hj1, Option.map_some, Option.some.injEq] at h5
        have h6 : B8 l'[j] = B8 full[j] := h5
        simp only [B8, Value.int.injEq, true_and] at h6
        exact UInt8.toNat_inj.1 (by omega)
    subst hfl
    have hcut := HI.loose.cut (nb := i) (nr := st.rw.length) (Nat.zero_le _) (Nat.zero_le _) h2
    have hbx : ∀ {j : Nat} {x : Bx}, (g.cut i st.rw.length).bx[j]? = some x → j < i ∧ g.bx[j]? = some x := fun {j x} hx => by
      have : (g.bx.take i)[j]? = some x := hx
      rw [List.getElem?_take] at this; split at this; exact ⟨by assumption, this⟩; cases this
    have hrw : ∀ {j : Nat} {x : Rw}, (g.cut i st.rw.length).rw[j]? = some x → g.rw[j]? = some x := fun {j x} hx => by
      have : (g.rw.take st.rw.length)[j]? = some x := hx
      rw [List.getElem?_take] at this; split at this; exact this; cases this
    have hhas : ∀ b, (g.cut i st.rw.length).has b → g.has b := fun b hh => by
      rcases hh with ⟨y, hy, h⟩ | ⟨s, hs, h⟩
      · exact .inl ⟨y, List.mem_of_mem_take hy, h⟩
      · exact .inr ⟨s, List.mem_of_mem_take hs, h⟩
    have hself := hcut.self
    refine ⟨⟨some y.blk, n, l'.length, y.tid, l'.map B8, l'.length⟩, ⟨rfl, rfl, rfl, rfl⟩, ⟨hself.mem, hself.fr, hself.br, fun j x hx hf => ?_, hself.wr, hself.wz⟩, ⟨hB.os, hB.tape, hB.output, hB.size, hB.block, fun j x hx => hB.bx j x (hbx hx).2, fun j s b hs => hB.rw j s b (hrw hs), hB.ro, hB.le.ro, fun j x hx => ?_, fun j s hs => ?_⟩, ⟨hF.sz, hF.df, fun p hp hg => ?_, fun p hp hg => ?_⟩, ⟨fun x hx => ?_, ?_⟩⟩
    · exact List.mem_filter.2 ⟨HI.fz j x (hbx hx).2 hf, decide_eq_true (hbx hx).1⟩
    · obtain ⟨x', q1, q2⟩ := hB.le.bx j x hx
      refine ⟨x', ?_, q2⟩
      show (g.bx.take i)[j]? = _
      rw [List.getElem?_take, if_pos (Nat.lt_of_lt_of_le (List.getElem?_eq_some_iff.1 hx).1 hNi)]; exact q1
    · obtain ⟨x', q1, q2⟩ := hB.le.rw j s hs
      refine ⟨x', ?_, q2⟩
      show (g.rw.take st.rw.length)[j]? = _
      rw [List.getElem?_take, if_pos (by rw [← hrl]; exact (List.getElem?_eq_some_iff.1 q1).1)]; exact q1
    · rcases List.mem_cons.1 hp with rfl | hp
      · show RV _ (.v _) (a.tmps.getD d undef)
        rw [hvd, hA]; exact RV.v_of rfl
      · simp only [List.mem_filter] at hp
        simp only [keepT, List.all_eq_true, Bool.or_eq_true, Bool.not_eq_true'] at h1
        have hl : low i st.rw.length 4 p.2.2 = true := by
          rcases h1 p hp.1 with h | h
          · rw [h] at hp; cases hp.2
          · exact h
        exact (hF.t p hp.1 hg).low_ (d := 3) hl
    · rcases List.mem_cons.1 hp with rfl | hp
      · exact absurd trivial hg
      · simp only [List.mem_filter] at hp; exact hF.u p hp.1 hg
    · rcases List.mem_append.1 hx with hx | hx
      · have h := hX.ok x hx
        exact ⟨h.le, h.nil, fun b hb => ⟨fun hh => (h.own b hb).1 (hhas b hh), (h.own b hb).2⟩⟩
      · simp only [List.mem_singleton] at hx
        subst hx
        refine ⟨⟨hn, hm⟩, fun hA => (by cases hA), fun b hb => ?_⟩
        injection hb with hb
        subst hb
        refine ⟨fun hh => ?_, ?_, by rw [← hcells.1]; exact hblk, fun o u ho hu => ?_⟩
        · rcases hh with ⟨z, hz, hzo, he⟩ | ⟨s, hs, he⟩
          · obtain ⟨j, hj⟩ := List.getElem?_of_mem hz
            have := HI.mem.bb j i z y (hbx hj).2 hy hzo hyo he
            have := (hbx hj).1
            omega
          · obtain ⟨j, hj⟩ := List.getElem?_of_mem hs
            exact HI.mem.rb i j y s hy (hrw hj) hyo he
        · rcases hB.bx i y hy hyo with h | ⟨s, h, _⟩
          · omega
          · have := (List.getElem?_eq_some_iff.1 h).1; omega
        · rcases hr with h | ⟨b, o', hb, hj⟩
          · subst h; simp at hu
          · rw [hA] at hb
            injection hb with hb
            injection hb with hb1 hb2
            have hol : o < l'.length := ho
            have := hj o hol
            rw [← hb1, ← hb2, Nat.zero_add] at this
            have hu : (l'.map B8)[o]? = some u := hu
            rw [List.getElem?_map, List.getElem?_eq_getElem hol] at hu
            show g.ro y.blk o = some u
            rw [this]; exact hu
    · unfold XApart
      rw [List.pairwise_append]
      refine ⟨hX.un, List.pairwise_singleton _ _, fun x hx z hz => ?_⟩
      simp only [List.mem_singleton] at hz
      subst hz
      cases hb : x.A with
      | none => exact .inl rfl
      | some b =>
        refine .inr fun e => ?_
        injection e with e
        exact ((hX.ok x hx).own b hb).1 (.inl ⟨y, List.mem_of_getElem? hy, hyo, e.symm⟩)
/-- Rows on their own are seen as bytes. -/
inductive SeeX (X : List XR) : AV → AV → Prop
  | refl (x : AV) : SeeX X x x
  | pub (x : XR) (l : List UInt8) (h : x ∈ X) (hk : l.length ≤ x.k) (hn : x.n = l.length) (hc : x.cells.take l.length = l.map B8) : SeeX X (.v x.v) (.bs l none)
  | pubc (x : XR) (full : List UInt8) (h : x ∈ X) (hk : full.length ≤ x.k) (hc : x.c = full.length) (hs : x.cells = full.map B8) : SeeX X (.v x.v) (.bc full x.n none)
  | bs (l : List UInt8) (tok : Option Nat) : SeeX X (.bs l tok) (.bs l none)
  | bc (full l : List UInt8) (n : Nat) (tok : Option Nat) (h : full.take n = l) : SeeX X (.bc full n tok) (.bs l none)
  | nil : SeeX X (.v (.slice none 0 0)) (.bs [] none)
  | st {fs fs' : List AV} (hl : fs.length = fs'.length) (h : ∀ i (h1 : i < fs.length) (h2 : i < fs'.length), SeeX X fs[i] fs'[i]) : SeeX X (.st fs) (.st fs')
  | sl {T : Ty} {es es' : List AV} {tok : Option Nat} (hl : es.length = es'.length) (h : ∀ i (h1 : i < es.length) (h2 : i < es'.length), SeeX X es[i] es'[i]) : SeeX X (.sl T es tok) (.sl T es' none)
theorem RC.seeX {x y : AV} (hX : Xs lo N w0 X) (hs : SeeX X x y) : ∀ {g : Gh} {T : Ty} {cs : List Value}, (∀ b o u, N.ro b o = some u → g.ro b o = some u) → RC g T x cs → RC g T y cs := by
  induction hs with
  | refl x => intro g T cs _ h; exact h
  | pub x l hx hk hn hc =>
    intro g T cs hro h
    obtain ⟨rfl, rfl⟩ := h.v_inv
    have ho := hX.ok x hx
    unfold XR.v
    rw [hn]
    refine .bs (by have := ho.le.1; omega) ho.le.2 ?_ fun i hi => by cases hi
    cases hA : x.A with
    | none => left; have := ho.nil hA; have := ho.le.1; exact List.length_eq_zero_iff.1 (by omega)
    | some b =>
      right
      refine ⟨b, 0, rfl, fun j hj => ?_⟩
      rw [Nat.zero_add]
      refine hro _ _ _ ((ho.own b hA).2.2.2 j _ (by omega) ?_)
      have : (x.cells.take l.length)[j]? = some (B8 l[j]) := by rw [hc, List.getElem?_map, List.getElem?_eq_getElem hj]; rfl
      rwa [List.getElem?_take, if_pos hj] at this
  | pubc x full hx hk hc hs =>
    intro g T cs hro h
    obtain ⟨rfl, rfl⟩ := h.v_inv
    have ho := hX.ok x hx
    unfold XR.v
    rw [hc]
    refine .bc (by have := ho.le.1; omega) (by have := ho.le.2; omega) ?_ fun i hi => by cases hi
    cases hA : x.A with
    | none => left; have := ho.nil hA; exact List.length_eq_zero_iff.1 (by omega)
    | some b =>
      right
      refine ⟨b, 0, rfl, fun j hj => ?_⟩
      rw [Nat.zero_add]
      refine hro _ _ _ ((ho.own b hA).2.2.2 j _ (by omega) ?_)
      rw [hs, List.getElem?_map, List.getElem?_eq_getElem hj]; rfl
  | bs l tok => intro g T cs _ h; cases h with | bs hc hm hr ht => exact .bs hc hm hr fun i hi => by cases hi
  | bc full l n tok hl =>
    intro g T cs _ h
    cases h with
    | bc hn hm hr ht =>
      rename_i A
      have hll : l.length = n := by rw [← hl, List.length_take]; omega
      rw [← hll]
      refine .bs (by omega) hm ?_ fun i hi => by cases hi
      rcases hr with h | ⟨b, o, hb, hj⟩
      · left; rw [← hl, h]; simp
      · refine .inr ⟨b, o, hb, fun j hj2 => ?_⟩
        have := hj j (by omega)
        subst hl
        simpa using this
  | nil => intro g T cs _ h; obtain ⟨rfl, rfl⟩ := h.v_inv; exact RC.nil1 rfl
  | @st fs fs' hl hsub ih =>
    intro g T cs hro h
    induction T generalizing cs fs fs' with
    | cn T Ts _ ihs =>
      cases h with
      | cn h hs =>
        cases fs' with
        | nil => cases hl
        | cons b m =>
          refine .cn (ih 0 (by simp) (by simp) hro h) (ihs (by simpa using hl) (fun i h1 h2 => hsub (i + 1) (by simpa using h1) (by simpa using h2)) (fun i h1 h2 => ?_) hs)
          intro g T cs hro h
          exact ih (i + 1) (by simpa using h1) (by simpa using h2) hro (by simpa using h)
    | nl => cases h; cases fs' with | nil => exact .nl | cons _ _ => cases hl
    | _ => cases h
  | @sl T es es' tok hl _ ih =>
    intro g T2 cs hro h
    cases h with
    | @sl _ _ _ _ A c hc hm F hr hv ht =>
      rw [hl] at hc ⊢
      refine .sl hc hm F ?_ (fun k hk => ih k (by rw [hl]; exact hk) hk (fun b o u hu => hro b o u hu) (hv k (by rw [hl]; exact hk))) fun i hi => by cases hi
      rcases hr with h | ⟨b, o, hA, hj⟩
      · left; subst h; exact List.length_eq_zero_iff.1 hl.symm
      · exact .inr ⟨b, o, hA, fun k hk => hj k (by rw [hl]; exact hk)⟩
theorem SeeX.not {x y : AV} (h : SeeX X x y) : (x = .any → y = .any) ∧ (∀ az, x = .tup az → y = .tup az) := by
  cases h <;> exact ⟨fun e => (by first | exact e | cases e), fun az e => (by first | exact e | cases e)⟩
theorem RV.seeX {x y : AV} (hX : Xs lo N w0 X) (hs : SeeX X x y) (hro : ∀ b o u, N.ro b o = some u → g.ro b o = some u) {v : Value} (h : RV g x v) : RV g y v := by
  by_cases h1 : x = .any
  · rw [hs.not.1 h1]; trivial
  by_cases h2 : ∃ az, x = .tup az
  · obtain ⟨az, h2⟩ := h2
    rw [hs.not.2 az h2]; rw [h2] at h; exact h
  have h3 : RV1 g x v := by
    cases x with
    | any => exact absurd rfl h1
    | tup az => exact absurd ⟨az, rfl⟩ h2
    | _ => exact h
  rcases h3 with ⟨T, cs, e1, e2, e3⟩ | h3
  · exact RV1.rv (.inl ⟨T, cs, e1, e2.seeX hX hs hro, e3⟩)
  · exact RV1.rv (.inr (h3.seeX hX hs hro))
theorem v_seeX (hX : Xs lo N w0 X) (H : Rel P w0 N nt st a w) (d : Nat) {x : AV} (y : AV) (hs : SeeX X x y) (hd : find d st.t = some (none, x)) : Rel P w0 N nt ⟨nilT d y st.t, st.bx, st.fz, st.rw⟩ a w := by
  obtain ⟨g, HI, hF⟩ := H
  refine ⟨g, HI, hF.sz, hF.df, fun p hp hg => ?_, fun p hp hg => by rcases nilT_mem hp with h | h; (subst h; exact absurd trivial hg); exact hF.u p h hg⟩
  rcases nilT_mem hp with h | h
  · subst h; exact (hF.t _ (find_mem hd) trivial).seeX hX hs fun b o u hu => HI.fr.le.ro b o u hu
  · exact hF.t p h hg
/-- A contract that hands out rows on their own. -/
def PostX (P : Program) (w0 : World) (N : Gh) (R : List XR → List (Ty × AV) → List (TypeId × Nat) → AV → Prop) (e : Ending) (w' : World) : Prop :=
  ∃ X bx' rw' res g v, R X bx' rw' res ∧ e = .returned v ∧ Inv P w0 N g bx' [] rw' w' ∧ RV g res v ∧ Xs w0.heap.size g w' X
def VE (P : Program) (f : FuncId) (args : List AV) (R : List XR → List (Ty × AV) → List (TypeId × Nat) → AV → Prop) : Prop :=
  Fok P f ∧ ∀ (w : World) (N : Gh) (vs : List Value), Inv P w N N [] [] [] w → vs.length = args.length → (∀ (i : Nat) x v, args[i]? = some x → vs[i]? = some v → RV N x v) → Calls P f vs.toArray w (PostX P w N R)
theorem v_enterE {f : FuncId} {fn : Func} {c : Code} {args : List AV} {R : List XR → List (Ty × AV) → List (TypeId × Nat) → AV → Prop} (hf : P.funcs[f]? = some fn) (hb : fn.body = some c) (hnm : (fn.name == "runtime.NumGoroutine") = false) (hn : args.length ≤ fn.ntmps)
    (h : ∀ (N : Gh) (w0 : World) (a : Act) (w : World), N.bx.length ≤ 0 → N.rw.length ≤ 0 → Rel P w0 N fn.ntmps ⟨slots 0 args, [], [], []⟩ a w → c.wp P (bodyPost P fn (PostX P w0 N R)) a w) : VE P f args R := by
  refine ⟨⟨fn, hf, hnm, by rw [hb]; rfl⟩, ?_⟩
  intro w N vs hI hl hv
  refine calls_of_wp hf hb (h N w _ w (by rw [hI.br.len]; exact Nat.le_refl _) (by have := hI.wr; rw [List.map_eq_nil_iff] at this; rw [this]; exact Nat.le_refl _) ⟨N, hI, ?_, rfl, fun p hp _ => ?_, fun p hp hg => absurd (by obtain ⟨_, _, h2, _⟩ := slots_mem hp; rw [h2]; trivial) hg⟩)
  · simp only [Array.size_append, List.size_toArray, Array.size_replicate, hl]; omega
  · obtain ⟨i, h1, h2, h3⟩ := slots_mem hp
    have hi : i < vs.length := by rw [hl]; exact (List.getElem?_eq_some_iff.1 h3).1
    have := hv i p.2.2 vs[i] h3 (List.getElem?_eq_getElem hi)
    rw [h1, Nat.zero_add]
    have e : (vs.toArray ++ Array.replicate (fn.ntmps - vs.toArray.size) undef).getD i undef = vs[i] := by
      rw [Array.getD_eq_getD_getElem?, Array.getElem?_append_left (by simpa using hi)]; simp [hi]
    exact e ▸ this
theorem v_endG {fn : Func} {rs : List ResultVar} {nb nr : Nat} (js ks : List Nat) (hτ : τ.ok P) (hM : N.bx.length ≤ nb ∧ N.rw.length ≤ nr) (hr : fn.results = rs.toArray) (HI : Inv P w0 N g st.bx st.fz st.rw w) (hF : FR g nt st a)
    (hchk : (okSel js st.bx.length && okSel ks st.rw.length && usesB js st.bx && preOk js nb && preOk ks nr && rs.all (fun x => argOk js (resv τ st x))) = true)
    {bx' : List (Ty × AV)} {fz' : List Nat} {rw' : List (TypeId × Nat)} {ress : List AV} {res : AV} (hf : fzOk js st.fz fz' 0 = true) (hb : bxs (pickB js ks st.bx) bx') (hw : ks.filterMap (st.rw[·]?) = rw')
    (he : allP (sub 4) (rs.map fun x => ren (idx? js) (idx? ks) 4 (resv τ st x)) ress) (ht : tupOf ress = res) :
    a.defers = [] ∧ ∃ v, (results fn a.tmps).run P w = .ok v w ∧ Inv P w0 N (g.pick js ks) bx' fz' rw' w ∧ RV (g.pick js ks) res v := by
  subst ht
  simp only [Bool.and_eq_true] at hchk
  obtain ⟨⟨⟨⟨⟨c1, c2⟩, c3⟩, c4⟩, c5⟩, c6⟩ := hchk
  obtain ⟨hj, nj⟩ := okSel_ok c1
  obtain ⟨hk, nk⟩ := okSel_ok c2
  have hlr : g.rw.length = st.rw.length := by rw [← HI.wr, List.length_map]
  have hj' : ∀ j ∈ js, j < g.bx.length := fun j hm => by rw [HI.br.len]; exact hj j hm
  have hk' : ∀ k ∈ ks, k < g.rw.length := fun k hm => by rw [hlr]; exact hk k hm
  have p1 := fun j hj => preOk_ok c4 j (Nat.lt_of_lt_of_le hj hM.1)
  have p2 := fun j hj => preOk_ok c5 j (Nat.lt_of_lt_of_le hj hM.2)
  have hfr : Fr w0 N (g.pick js ks) w := by
    refine ⟨HI.fr.kept, fun i x hx hxo => ?_, fun i r k hr hrk => ?_, HI.fr.ro, ⟨HI.fr.le.ro, fun i x hx => ?_, fun i r hr => ?_⟩⟩
    · have hx' : (js.filterMap (g.bx[·]?))[i]? = some x := hx
      rw [pick_get hj'] at hx'
      obtain ⟨j, h1, h2⟩ := Option.bind_eq_some_iff.1 hx'
      rcases HI.fr.bx j x h2 hxo with h3 | ⟨y, h3, h4⟩
      · exact .inl h3
      · have := nodup_get nj h1 (p1 j (List.getElem?_eq_some_iff.1 h3).1); subst this
        exact .inr ⟨y, h3, h4⟩
    · have hx' : (ks.filterMap (g.rw[·]?))[i]? = some r := hr
      rw [pick_get hk'] at hx'
      obtain ⟨j, h1, h2⟩ := Option.bind_eq_some_iff.1 hx'
      rcases HI.fr.rw j r k h2 hrk with h3 | ⟨y, h3, h4⟩
      · exact .inl h3
      · have := nodup_get nk h1 (p2 j (List.getElem?_eq_some_iff.1 h3).1); subst this
        exact .inr ⟨y, h3, h4⟩
    · obtain ⟨x', h1, h2⟩ := HI.fr.le.bx i x hx
      refine ⟨x', ?_, h2⟩
      show (js.filterMap (g.bx[·]?))[i]? = _
      rw [pick_get hj', p1 i (List.getElem?_eq_some_iff.1 hx).1]; exact h1
    · obtain ⟨x', h1, h2⟩ := HI.fr.le.rw i r hr
      refine ⟨x', ?_, h2⟩
      show (ks.filterMap (g.rw[·]?))[i]? = _
      rw [pick_get hk', p2 i (List.getElem?_eq_some_iff.1 hr).1]; exact h1
  have HP : Inv P w0 N (g.pick js ks) bx' fz' rw' w := HI.pick js ks hj hk nj nk (usesB_ok c3) hb (fun i j hi hm => by simpa using fzOk_ok hf i j hi hm) hw hfr
  have key : ∀ (l : List ResultVar) (ress : List AV), l.all (fun x => argOk js (resv τ st x)) = true → allP (sub 4) (l.map fun x => ren (idx? js) (idx? ks) 4 (resv τ st x)) ress → ∃ vs : List Value, (l.mapM fun x : ResultVar => (match x with
      | .tmp t => pure (a.tmps.getD t undef)
      | .cell p t => (do loadVar t (← asAddr (a.tmps.getD p undef))) : Sem Value)).run P w = .ok vs w ∧ vs.length = l.length ∧ vs.length = ress.length ∧ ∀ (i : Nat) x v, ress[i]? = some x → vs[i]? = some v → RV1 (g.pick js ks) x v := by
    intro l
    induction l with
    | nil => intro ress _ he; cases ress with
      | nil => exact ⟨[], rfl, rfl, rfl, fun i x v h => by simp at h⟩
      | cons _ _ => exact he.elim
    | cons x l ih =>
      intro ress hp he
      cases ress with
      | nil => exact he.elim
      | cons y ress =>
      simp only [List.all_cons, Bool.and_eq_true] at hp
      obtain ⟨vs, h1, h2, h2', h3⟩ := ih ress hp.2 he.2
      have hc := hp.1
      simp only [argOk, Bool.and_eq_true, Bool.not_eq_true'] at hc
      obtain ⟨v, h4, h5⟩ := resv_sound (P := P) hτ HI hF x hc.1.2
      have ht : ∀ az, resv τ st x ≠ .tup az := fun az e => by rw [e] at hc; simp at hc
      have h6 := ((h5.pick_ (d := 3) hj' hk' hc.1.1).rv1 (ren_any hc.1.2) (ren_tup ht)).sub_ he.1
      refine ⟨v :: vs, ?_, by simp [h2], by simp [h2'], fun i z u hz hu => ?_⟩
      · rw [List.mapM_cons]
        cases x <;> (dsimp only at h4 ⊢; simp only [Sem.run_bind, h4, Result.andThen_ok, h1, Sem.run_pure])
      · cases i with
        | zero =>
          simp only [List.getElem?_cons_zero, Option.some.injEq] at hz hu
          subst hz hu; exact h6
        | succ i => exact h3 i z u (by simpa using hz) (by simpa using hu)
  obtain ⟨vs, h1, h2, h2', h3⟩ := key rs ress c6 he
  have hres : (results fn a.tmps).run P w = .ok (if h : vs.length = 1 then vs[0] else .tuple vs.toArray) w := by
    have e : results fn a.tmps = (do
        let vs ← rs.toArray.mapM fun x : ResultVar => (match x with
          | .tmp t => pure (a.tmps.getD t undef)
          | .cell p t => (do loadVar t (← asAddr (a.tmps.getD p undef))) : Sem Value)
        pure (if h : vs.size = 1 then vs[0] else .tuple vs)) := by unfold results; rw [hr]; rfl
    rw [e]
    simp only [Sem.run_bind, Array.mapM_eq_mapM_toList, Sem.run_map]
    rw [h1]
    simp
  refine ⟨hF.df, _, hres, HP, ?_⟩
  by_cases hl : vs.length = 1
  · rw [dif_pos hl]
    obtain ⟨x, rfl⟩ : ∃ x, ress = [x] := by
      match ress, h2' with
      | [x], _ => exact ⟨x, rfl⟩
      | [], h => simp at h; rw [h] at hl; cases hl
      | x :: y :: l, h => simp at h; omega
    exact (h3 0 _ _ rfl (List.getElem?_eq_getElem (by omega))).rv
  · rw [dif_neg hl]
    have htu : tupOf ress = .tup ress := by
      match ress, h2' with
      | [x], h => simp at h; exact absurd h hl
      | [], h => rfl
      | x :: y :: l, h => rfl
    rw [htu]
    exact ⟨vs, rfl, h2', fun i x u hx hu => h3 i x u hx hu⟩

theorem pick_has {js ks : List Nat} {b : Nat} (h : (g.pick js ks).has b) : g.has b := by
  rcases h with ⟨y, hy, h⟩ | ⟨s, hs, h⟩
  · obtain ⟨j, _, hj⟩ := List.mem_filterMap.1 hy; exact .inl ⟨y, List.mem_of_getElem? hj, h⟩
  · obtain ⟨j, _, hj⟩ := List.mem_filterMap.1 hs; exact .inr ⟨s, List.mem_of_getElem? hj, h⟩
theorem v_endE {fn : Func} {rs : List ResultVar} {nb nr : Nat} {R : List XR → List (Ty × AV) → List (TypeId × Nat) → AV → Prop} (js ks : List Nat) (hτ : τ.ok P) (hM : N.bx.length ≤ nb ∧ N.rw.length ≤ nr) (hr : fn.results = rs.toArray) (H : RelX w0.heap.size P w0 N nt st X a w)
    (hchk : (okSel js st.bx.length && okSel ks st.rw.length && usesB js st.bx && preOk js nb && preOk ks nr && rs.all (fun x => argOk js (resv τ st x))) = true)
    {bx' : List (Ty × AV)} {rw' : List (TypeId × Nat)} {ress : List AV} {res : AV} (hf : fzOk js st.fz [] 0 = true) (hb : bxs (pickB js ks st.bx) bx') (hw : ks.filterMap (st.rw[·]?) = rw')
    (he : allP (sub 4) (rs.map fun x => ren (idx? js) (idx? ks) 4 (resv τ st x)) ress) (ht : tupOf ress = res) (hR : R X bx' rw' res) :
    a.defers = [] ∧ ∃ v, (results fn a.tmps).run P w = .ok v w ∧ PostX P w0 N R (.returned v) w := by
  obtain ⟨g, HI, hB, hF, hX⟩ := H
  have HI0 : Inv P w0 N g st.bx st.fz st.rw w := ⟨HI.mem, hB.fr (Nat.le_refl _), HI.br, HI.fz, HI.wr, HI.wz⟩
  obtain ⟨h1, v, h2, h3, h4⟩ := v_endG js ks hτ hM hr HI0 hF hchk hf hb hw he ht
  exact ⟨h1, v, h2, X, bx', rw', res, _, v, hR, rfl, h3, h4, ⟨fun x hx => ⟨(hX.ok x hx).le, (hX.ok x hx).nil, fun b hb => ⟨fun hh => ((hX.ok x hx).own b hb).1 (pick_has hh), ((hX.ok x hx).own b hb).2⟩⟩, hX.un⟩⟩
/-- A call of such a contract: a new base. -/
theorem v_callE {ops : Array Oper} {Q : Exit → Act → World → Prop} {rest : List Oper} {o : Oper} {f : FuncId} {xs : List Operand} {ats : Array TypeId} {args : List AV} {R : List XR → List (Ty × AV) → List (TypeId × Nat) → AV → Prop}
    (hc : VE P f args R) (hB : FrX lo w0 N N1 w1) (hlo : lo ≤ w0.heap.size) (hX : Xs lo N1 w1 X) (H : Rel P w1 N1 nt st a w)
    (hRu : ∀ Y bx' rw' res, R Y bx' rw' res → uses some 4 res = true ∧ bx'.all (fun x => uses some 4 x.2) = true)
    (k : ∀ Y bx' rw' res a w, R Y bx' rw' res → RelX lo P w0 N nt ((⟨st.t, mergeL st.bx [] (renB [] [] st.bx.length st.rw.length bx'), st.fz, mergeL st.rw [] rw'⟩ : St).put o.dst none (ren (fun k => some (nth [] st.bx.length k)) (fun k => some (nth [] st.rw.length k)) 4 res)) (X ++ Y) a w → wpList P ops Q rest a w)
    (hgd : o.guard = none := by rfl) (ho : o.op = .call ⟨.value (.func f), xs.toArray, ats⟩ := by rfl) (hchk : (xs.all (fun x => argOk [] (st.ev none x)) && okDst nt none o.dst) = true := by rfl) (ha : allP (sub 4) (cargs st [] [] xs) args := by exact caX) : wpList P ops Q (o :: rest) a w := by
  obtain ⟨hfok, hcall⟩ := hc
  obtain ⟨g, HI, hF⟩ := H
  simp only [Bool.and_eq_true] at hchk
  obtain ⟨c5, c8⟩ := hchk
  obtain ⟨h1, h2⟩ := cargs_ok HI hF (js := []) (ks := []) (fun j hj => by cases hj) (fun j hj => by cases hj) c5 ha
  refine wpList_plain hgd fun K hK => ?_
  unfold Oper.wp
  rw [run_callF hfok xs ats ho w, Oper.upon_enter]
  have HP : Inv P w (g.pick [] []) (g.pick [] []) [] [] [] w := HI.pick (bx2 := []) (fz2 := []) (rw2 := []) [] [] (fun j hj => by cases hj) (fun j hj => by cases hj) List.nodup_nil List.nodup_nil (fun j hj => by cases hj) trivial (fun i j hi => by simp at hi) rfl
    ⟨Kept.refl _ _, fun i x hx hxo => .inr ⟨x, hx, hxo, rfl⟩, fun i r k hr hrk => .inr ⟨r, hr, hrk⟩, fun _ _ _ _ => rfl, Gh.le.refl _⟩
  refine (hcall w (g.pick [] []) (xs.map a.eval) HP (by simp [h1]) h2).mono fun e w' hp => ?_
  obtain ⟨Y, bx', rw', res, g1, v, hRR, rfl, HI1, hv, hY⟩ := hp
  obtain ⟨c6, c7⟩ := hRu _ _ _ _ hRR
  obtain ⟨k1, k2, k3, k4⟩ := HI.call HI1 (fun j hj => by cases hj) (fun j hj => by cases hj) List.nodup_nil List.nodup_nil (fun x hx => List.all_eq_true.1 c7 x hx)
  have hv' := hv.ren_ (g1 := g1) (g2 := ⟨g1.ro, mergeL g.bx [] g1.bx, mergeL g.rw [] g1.rw⟩) (fb := fun k => some (nth [] st.bx.length k)) (fr := fun k => some (nth [] st.rw.length k)) (d := 3) rfl (fun i j x hij hx => by injection hij with hij; subst hij; exact k3 i x hx) (fun i j x hij hx => by injection hij with hij; subst hij; exact k4 i x hx) (uses_some c6)
  have hX' : Xs lo (⟨g1.ro, mergeL g.bx [] g1.bx, mergeL g.rw [] g1.rw⟩ : Gh) w' X := hX.step k2
  have hsz : w.heap.size ≤ w'.heap.size := HI1.fr.kept.size
  have hws : w1.heap.size ≤ w.heap.size := HI.fr.kept.size
  have hY' : ∀ y ∈ Y, XOk lo (⟨g1.ro, mergeL g.bx [] g1.bx, mergeL g.rw [] g1.rw⟩ : Gh) w' y := fun y hy => by
    have h := hY.ok y hy
    refine ⟨h.le, h.nil, fun b hb => ?_⟩
    obtain ⟨q1, q2, q3⟩ := h.own b hb
    refine ⟨fun hh => ?_, by have := hB.size; omega, q3⟩
    have hm : ∀ {α : Type} {l m : List α} {x : α}, x ∈ mergeL l [] m → x ∈ l ∨ x ∈ m := fun {α l m x} h => by
      unfold mergeL at h
      rw [show setAll l [] m = l by cases m <;> rfl] at h
      simpa using h
    rcases hh with ⟨z, hz, hzo, he⟩ | ⟨s, hs, he⟩
    · rcases hm hz with hz | hz
      · obtain ⟨i, hi⟩ := List.getElem?_of_mem hz
        have := (HI.mem.bx i z hi hzo).lt; omega
      · exact q1 (.inl ⟨z, hz, hzo, he⟩)
    · rcases hm hs with hs | hs
      · obtain ⟨i, hi⟩ := List.getElem?_of_mem hs
        have := (HI.mem.rw i s hi).lt he; omega
      · exact q1 (.inr ⟨s, hs, he⟩)
  have hun : XApart (X ++ Y) := by
    unfold XApart
    rw [List.pairwise_append]
    refine ⟨hX.un, hY.un, fun x hx y hy => ?_⟩
    cases hb : x.A with
    | none => exact .inl rfl
    | some b =>
      refine .inr fun e => ?_
      have h1 := (hX.ok x hx).lt hb
      have h2 := ((hY.ok y hy).own b e.symm).2.1
      omega
  refine hK _ _ (k Y bx' rw' res _ _ hRR ⟨_, ?_, ?_, (hF.mono k1).put c8 (fun _ => hv') rfl (fun h => absurd trivial h), ⟨fun x hx => (List.mem_append.1 hx).elim (hX'.ok x) (hY' x), hun⟩⟩)
  · have := k2.self
    cases o.dst <;> simpa [St.put] using this
  · exact hB.trans (.of k2.fr lo)
/-- A loop, by a family of what holds. -/
theorem v_loopI {ι : Type} {c : Code} {Q : Exit → Act → World → Prop} (F : ι → Act → World → Prop) (C : ι → Prop) (μ : ι → Nat) (i0 : ι) (h0 : C i0) (H : F i0 a w)
    (round : ∀ i a w, C i → F i a w → c.wp P (Exit.then (fun a' w' => ∃ i', C i' ∧ μ i' < μ i ∧ F i' a' w') Q) a w) : (Code.loop c).wp P Q a w := by
  have hp : ∀ a w, (∃ i, C i ∧ F i a w) → ∃ m, (∃ i, (C i ∧ F i a w) ∧ μ i = m) ∧ ∀ k, (∃ i, (C i ∧ F i a w) ∧ μ i = k) → m ≤ k := fun a w ⟨i, hi⟩ => min_ex ⟨_, i, hi, rfl⟩
  obtain ⟨m, hm⟩ : ∃ m : Act → World → Nat, ∀ a w, (∃ i, C i ∧ F i a w) → (∃ i, (C i ∧ F i a w) ∧ μ i = m a w) ∧ ∀ k, (∃ i, (C i ∧ F i a w) ∧ μ i = k) → m a w ≤ k := by
    classical
    refine ⟨fun a w => if h : ∃ i, C i ∧ F i a w then Classical.choose (hp a w h) else 0, fun a w h => ?_⟩
    have := Classical.choose_spec (hp a w h)
    simp only [dif_pos h]
    exact this
  refine wp_loop (fun a w => ∃ i, C i ∧ F i a w) m ⟨i0, h0, H⟩ fun a w hi => ?_
  obtain ⟨⟨i, hi', hmi⟩, _⟩ := hm a w hi
  refine Code.wp_mono (fun e a' w' q => ?_) (round i a w hi'.1 hi'.2)
  cases e with
  | normal => obtain ⟨i', h1, h2, h3⟩ := q; exact ⟨⟨i', h1, h3⟩, by have := (hm a' w' ⟨i', h1, h3⟩).2 _ ⟨i', ⟨h1, h3⟩, rfl⟩; omega⟩
  | _ => exact q
end
end Go.Proofs.Ytigmpdhnhkdeiaa
/- slices.Reverse of slices, in memory that may be written. -/
namespace Go.Proofs.Ytigmpdhnhkdeiaa
open Go Go.RowKit
def vas (us : List Value) : List AV := us.map .v
theorem vas_len (us : List Value) : (vas us).length = us.length := by simp [vas]
end Go.Proofs.Ytigmpdhnhkdeiaa
/- A list of slices written out into what grows; do lists share memory that are on their own? -/
namespace Go.Proofs.Ytigmpdhnhkdeiaa
open Go Go.RowKit
section
variable {P : Program} {τ : Tab} {w0 w w1 w2 : World} {N N1 N2 : Gh} {g g1 gS : Gh} {st st' sq sq' : St} {nt : Nat} {a : Act} {lo : Nat} {X Y : List XR}
/-- Bytes, with their room. -/
def XW (x : XR) : Prop := ∃ l sp : List UInt8, x.cells = (l ++ sp).map B8 ∧ x.n = l.length ∧ x.c = l.length + sp.length
theorem XOk.own_ {lo : Nat} {g : Gh} {w : World} {x : XR} (h : XOk lo g w x) (hw : XW x) : ∃ (sv : SV) (l sp : List UInt8) (t : TypeId), x.v = sv.v ∧ Own (byteT t) w 0 x.v l sp := by
  obtain ⟨l, sp, h1, h2, h3⟩ := hw
  refine ⟨(x.A.map fun b => ⟨b, 0, none⟩, x.n, x.c), l, sp, x.tid, rfl, ?_⟩
  cases hA : x.A with
  | none =>
    have h0 := h.nil hA
    have e1 : l = [] := List.length_eq_zero_iff.1 (by omega)
    have e2 : sp = [] := List.length_eq_zero_iff.1 (by omega)
    subst e1 e2
    exact .inl ⟨by unfold XR.v; rw [hA, h2, h3]; rfl, rfl, rfl⟩
  | some b =>
    obtain ⟨_, _, q3, _⟩ := h.own b hA
    refine .inr ⟨b, Nat.zero_le _, by unfold XR.v; rw [hA, h2, h3]; rfl, ?_, by have := h.le.2; omega⟩
    show Blk w b x.tid _
    rw [byteT_all, ← h1]; exact q3
end
end Go.Proofs.Ytigmpdhnhkdeiaa
/- A growing array that a field points to is turned to stay as it is. -/
namespace Go.Proofs.Ytigmpdhnhkdeiaa
open Go Go.RowKit
section
variable {P : Program} {w0 w : World} {N : Gh} {g : Gh} {st : St} {nt : Nat} {a : Act}
theorem v_frzB0 (HI : Inv P w0 N g st.bx st.fz st.rw w) (hF : FR g nt st a) (i j : Nat) (path : List Nat) {e γ n o : Nat} {T Tj : Ty} {x : AV} {es : List AV} (hN : N.bx.length ≤ i) (hb : st.bx[i]? = some (.vc e T, .vc γ es)) (hj : st.bx[j]? = some (Tj, x)) (hT : Tj.loc path = some (o, .sc)) (hx : x.loc path = some (.vw i γ n)) (hn : n ≤ es.length) :
    ∃ g1, g.lex g1 ∧ Inv P w0 N g1 (st.bx.set j (Tj, x.put path (.sl T (es.take n) none))) (i :: st.fz) st.rw w ∧ FR g1 nt ⟨st.t, st.bx.set j (Tj, x.put path (.sl T (es.take n) none)), i :: st.fz, st.rw⟩ a := by
  obtain ⟨y, hy, hyT, hbc⟩ := HI.br.at_ i _ _ hb
  obtain ⟨T2, F, sp, ⟨e2, he2, htid⟩, hmp, hgen, h0, hcm, hcs, hcl, hsp, hFk⟩ := hbc.vc_inv
  injection he2 with he20 he2; subst he20 he2
  have htl : (es.take n).length = n := by rw [List.length_take]; omega
  have key : ∀ g1, g.lex g1 → Inv P w0 N g1 st.bx (i :: st.fz) st.rw w → (∀ u, RC g1 .sc (.vw i γ n) [u] → RC g1 .sc (.sl T (es.take n) none) [u]) → ∃ g1, g.lex g1 ∧ Inv P w0 N g1 (st.bx.set j (Tj, x.put path (.sl T (es.take n) none))) (i :: st.fz) st.rw w ∧ FR g1 nt ⟨st.t, st.bx.set j (Tj, x.put path (.sl T (es.take n) none)), i :: st.fz, st.rw⟩ a := by
    intro g1 l1 I1 hu
    obtain ⟨xj, hxj, hxT, hbj⟩ := I1.br.at_ j _ _ hj
    obtain ⟨hjo, hjm, hrc⟩ := hbj.rc (Ty.loc_grows hT)
    obtain ⟨a', ha', pre, mid, post, hc, hpl, hmid, hput⟩ := hrc.lens hT
    rw [hx] at ha'; injection ha' with ha'; subst ha'
    obtain ⟨u, rfl⟩ : ∃ u, mid = [u] := by
      cases hmid with
      | vw => exact ⟨_, rfl⟩
    have h2 := hput _ _ (hu u hmid)
    rw [← hc] at h2
    subst hxT
    refine ⟨g1, l1, I1.re hxj (BC.pl h2 hjo hjm), (hF.mono l1.1).sz, hF.df, fun p hp hg => (hF.mono l1.1).t p hp hg, fun p hp hg => hF.u p hp hg⟩
  cases ho : y.off with
  | true =>
    refine key g (Gh.lex.refl g) ⟨HI.mem, HI.fr, HI.br, fun j x hj hf => List.mem_cons_of_mem _ (HI.fz j x hj hf), HI.wr, HI.wz⟩ fun u hu => ?_
    obtain ⟨_, y', e3, T3, A, c, hval, hy', hty', hle, hnc, hm, hxx⟩ := hu.vw_inv
    rw [hy] at hy'; injection hy' with hy'; subst hy'
    injection hval with hval; subst hval
    obtain ⟨hcc, hA⟩ := hxx hgen
    have hc0 : c = 0 := by rw [hcc]; exact hcm.2 ho
    rcases hA with ⟨_, hA⟩ | ⟨h, _⟩
    · rw [hA, hc0, show n = 0 by omega]
      exact RC.nil2 (by simp)
    · rw [ho] at h; cases h
  | false =>
    obtain ⟨g1, l1, I1, ⟨y1, hy1, q1, q2, q3, q4, q5, q6⟩, hro⟩ := HI.freeze hy ho hmp hN
    refine key g1 l1 I1 fun u hu => ?_
    obtain ⟨_, y', e3, T3, A, c, hval, hy', hty', hle, hnc, hm, hxx⟩ := hu.vw_inv
    rw [hy1] at hy'; injection hy' with hy'; subst hy'
    injection hval with hval; subst hval
    obtain ⟨hcc, hA⟩ := hxx (q4.trans hgen)
    rcases hA with ⟨h, _⟩ | ⟨_, hA⟩
    · rw [q6] at h; cases h
    · rw [hA]
      have := RC.sl (g := g1) (T := T) (es := es.take n) (tok := none) (A := some ⟨y1.blk, 0, none⟩) (c := c) (by omega) hm F (.inr ⟨y1.blk, 0, rfl, fun k hk j u hu => by
        rw [Nat.zero_add, q1]
        refine hro _ _ ?_
        rw [hcs]
        exact flat_at hFk (by omega) hu⟩) (fun k hk => by
        rw [List.getElem_take]
        exact (hFk k (by omega)).mono l1.1.base) (fun i hi => by cases hi)
      rw [htl] at this
      exact this
end
end Go.Proofs.Ytigmpdhnhkdeiaa
