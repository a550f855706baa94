/- Sketches: parts, trees, what is read of them (plain). -/
import Derived.Test.YtigmpdhnhkdeiaaRise
import Derived.Test.YtigmpdhnhkdeiaaRows
import Derived.Test.YtigmpdhnhkdeiaaA5
import Derived.OpenShut
import Derived.Carry
import Derived.WalkKit
import Derived.ProofKit
import Derived.JoinedCond
import Derived.Test.YtigmpdhnhkdeiaaA1
import Derived.Deep.OwnRows
import Derived.BigQuiet
import Derived.BigRegion
import Derived.Deep.Draws
import Derived.Deep.LoopGhost
set_option linter.unusedSimpArgs false
set_option linter.unusedVariables false
namespace Go.Proofs.Ytigmpdhnhkdeiaa
open Go Go.RowKit
/-- A part of a sketch. -/
structure Br where
  k : UInt8
  key : List UInt8
  v : List UInt8
  g : List UInt8
  deriving DecidableEq
structure Br.wf (b : Br) : Prop where
  key : b.key.length = 32
  v : b.v.length = 32
  g : b.g.length = 32
def Br.av (b : Br) : AV := .st [.v (B8 b.k), .ba b.key, .ba b.v, .ba b.g]
def Br.clean (b : Br) : Bool := if b.k = 0 ∨ b.k = 2 then decide (b.key = z32 ∧ b.v = z32 ∧ b.g = z32) else if b.k = 1 then decide (b.g = z32) else if b.k = 3 then decide (b.key = z32 ∧ b.v = z32) else false
theorem Br.clean_k {b : Br} (h : b.clean = true) : b.k = 0 ∨ b.k = 1 ∨ b.k = 2 ∨ b.k = 3 := by
  unfold Br.clean at h
  split at h
  · rename_i h1; rcases h1 with h1 | h1 <;> simp [h1]
  · split at h
    · rename_i h1; simp [h1]
    · split at h
      · rename_i h1; simp [h1]
      · cases h
/-- A tree of digests. -/
inductive Tr where
  | e
  | c (g : List UInt8)
  | l (k v : List UInt8)
  | n (a b : Tr)
def Tr.dg : Tr → List UInt8
  | .e => sum [0]
  | .c g => g
  | .l k v => leafH k v
  | .n a b => innerH a.dg b.dg
def Tr.leaves : Tr → List En
  | .l k v => [(k, v)]
  | .n a b => a.leaves ++ b.leaves
  | _ => []
def Tr.way (key : List UInt8) : Nat → Tr → List (List UInt8)
  | d, .n a b => if bitN key d then a.dg :: b.way key (d + 1) else b.dg :: a.way key (d + 1)
  | _, _ => []
def Tr.fin (key : List UInt8) : Nat → Tr → Nd → Nd
  | d, .n a b, x => if bitN key d then b.fin key (d + 1) x else a.fin key (d + 1) x
  | _, .l k v, _ => Nd.one k v
  | _, _, x => x
def und (d : Nat) (k top : List UInt8) : Bool := decide (d ≤ com k top)
/-- The tree that is read of parts at a place, and what is left. -/
def rdTr (op : List UInt8 → Nat → Bool) : Nat → List UInt8 → Nat → List Br → Option (Tr × List Br)
  | 0, _, _, _ => none
  | _ + 1, _, _, [] => none
  | f + 1, top, d, b :: r =>
    if b.clean = false then none
    else if b.k = 0 then some (.e, r)
    else if b.k = 3 then (if op top d then none else some (.c b.g, r))
    else if op top d = false then none
    else if b.k = 1 then (if und d b.key top then some (.l b.key b.v, r) else none)
    else if 256 ≤ d then none
    else match rdTr op f top (d + 1) r with
      | none => none
      | some (x, r1) => match rdTr op f (flipL top d) (d + 1) r1 with
        | none => none
        | some (y, r2) => some (.n x y, r2)
def Low (d : Nat) (top : List UInt8) : Prop := top.length = 32 ∧ ∀ t, d ≤ t → t < 256 → bitN top t = false
theorem Low.zero : Low 0 (List.replicate 32 0) := by
  refine ⟨List.length_replicate, fun t _ ht => ?_⟩
  unfold bitN
  rw [List.getD_eq_getElem?_getD, List.getElem?_replicate, if_pos (by omega)]
  have : ∀ m : Fin 8, bitAt 0 m.val = false := by decide
  exact this ⟨t % 8, by omega⟩
theorem Low.up {d : Nat} {top : List UInt8} (h : Low d top) : Low (d + 1) top := ⟨h.1, fun t ht => h.2 t (by omega)⟩
theorem Low.flip {d : Nat} {top : List UInt8} (h : Low d top) (hd : d < 256) : Low (d + 1) (flipL top d) := by
  refine ⟨by rw [flipL_len]; exact h.1, fun t h1 h2 => ?_⟩
  rw [flipL_bit top h.1 d hd t h2, if_neg (by omega)]
  exact h.2 t (by omega) h2
theorem und_iff {d : Nat} (hd : d ≤ 256) {k top : List UInt8} : und d k top = true ↔ agree d k top := by
  unfold und; rw [decide_eq_true_eq]; exact com_ge hd
theorem agree_succ {d : Nat} {p q : List UInt8} : agree (d + 1) p q ↔ agree d p q ∧ bitN p d = bitN q d := by
  constructor
  · intro h; exact ⟨fun t ht => h t (by omega), h d (by omega)⟩
  · rintro ⟨h, h1⟩ t ht
    rcases Nat.lt_succ_iff_lt_or_eq.1 ht with h2 | rfl
    · exact h t h2
    · exact h1
theorem und_left {d : Nat} (hd : d < 256) {k top : List UInt8} (h : Low d top) : und (d + 1) k top = (und d k top && !bitN k d) := by
  rw [Bool.eq_iff_iff, und_iff (by omega), agree_succ, Bool.and_eq_true, und_iff (by omega), h.2 d (Nat.le_refl _) hd, Bool.not_eq_true']
theorem und_right {d : Nat} (hd : d < 256) {k top : List UInt8} (h : Low d top) : und (d + 1) k (flipL top d) = (und d k top && bitN k d) := by
  rw [Bool.eq_iff_iff, und_iff (by omega), agree_succ, Bool.and_eq_true, und_iff (by omega), flipL_bit top h.1 d hd d hd, if_pos rfl, h.2 d (Nat.le_refl _) hd, Bool.not_false]
  refine and_congr_left fun _ => ⟨fun hh t ht => (hh t ht).trans ?_, fun hh t ht => (hh t ht).trans ?_⟩
  · rw [flipL_bit top h.1 d hd t (by omega), if_neg (by omega)]
  · rw [flipL_bit top h.1 d hd t (by omega), if_neg (by omega)]
/-- What a reader of a stretch has. -/
structure RS where
  rest : List Br
  ks : List (List UInt8)
  ds : List (List UInt8)
  sd : List (List UInt8)
  en : Nd
def lfS (fr to key : List UInt8) (s : RS) (b : Br) (top : List UInt8) (d : Nat) : RS :=
  ⟨s.rest, if hasB fr to b.key then s.ks ++ [b.key] else s.ks, if hasB fr to b.key then s.ds ++ [b.v] else s.ds, s.sd, if und d key top then Nd.one b.key b.v else s.en⟩
def sdS (key : List UInt8) (s : RS) (top : List UInt8) (d : Nat) (one two : List UInt8) : RS :=
  if und d key top then ⟨s.rest, s.ks, s.ds, s.sd ++ [if bitN key d then one else two], s.en⟩ else s
def plS (fr to key : List UInt8) : Nat → List UInt8 → Nat → RS → RS × List UInt8 × Bool
  | 0, _, _, s => (s, z32, false)
  | f + 1, top, d, s =>
    match s.rest with
    | [] => (s, z32, false)
    | b :: r =>
      if b.clean = false then (s, z32, false) else
      let s1 : RS := ⟨r, s.ks, s.ds, s.sd, s.en⟩
      if b.k = 0 then (s1, sum [0], true)
      else if b.k = 3 then (s1, b.g, !tchB fr to top d)
      else if tchB fr to top d = false then (s1, z32, false)
      else if b.k = 1 then (lfS fr to key s1 b top d, leafH b.key b.v, und d b.key top)
      else if 256 ≤ d then (s1, z32, false)
      else
        let x := plS fr to key f top (d + 1) s1
        if x.2.2 = false then (x.1, z32, false) else
        let y := plS fr to key f (flipL top d) (d + 1) x.1
        (sdS key y.1 top d x.2.1 y.2.1, innerH x.2.1 y.2.1, y.2.2)
theorem plS_some (fr to key : List UInt8) : ∀ (f : Nat) (top : List UInt8) (d : Nat) (s : RS) (t : Tr) (r : List Br), f + d = 257 → Low d top → rdTr (tchB fr to) f top d s.rest = some (t, r) →
    plS fr to key f top d s = (⟨r, s.ks ++ (t.leaves.filter fun x => hasB fr to x.1).map (·.1), s.ds ++ (t.leaves.filter fun x => hasB fr to x.1).map (·.2), if und d key top then s.sd ++ (t.way key d).reverse else s.sd, if und d key top then t.fin key d s.en else s.en⟩, t.dg, true)
  | 0, top, d, s, t, r, _, _, h => by simp [rdTr] at h
  | f + 1, top, d, ⟨rest, ks, ds, sd, en⟩, t, r, hf, hl, h => by
    cases rest with
    | nil => simp [rdTr] at h
    | cons b rest =>
      unfold rdTr at h
      unfold plS
      dsimp only at h ⊢
      split at h
      · cases h
      · rename_i h1
        rw [if_neg h1]
        split at h
        · rename_i h2
          simp only [Option.some.injEq, Prod.mk.injEq] at h
          obtain ⟨rfl, rfl⟩ := h
          rw [if_pos h2]
          simp [Tr.leaves, Tr.way, Tr.fin, Tr.dg]
        · rename_i h2
          rw [if_neg h2]
          split at h
          · rename_i h3
            rw [if_pos h3]
            split at h
            · cases h
            · rename_i h4
              simp only [Option.some.injEq, Prod.mk.injEq] at h
              obtain ⟨rfl, rfl⟩ := h
              simp [Tr.leaves, Tr.way, Tr.fin, Tr.dg, h4]
          · rename_i h3
            rw [if_neg h3]
            split at h
            · cases h
            · rename_i h4
              rw [if_neg h4]
              split at h
              · rename_i h5
                rw [if_pos h5]
                split at h
                · rename_i h6
                  simp only [Option.some.injEq, Prod.mk.injEq] at h
                  obtain ⟨rfl, rfl⟩ := h
                  simp only [lfS, Tr.leaves, Tr.way, Tr.fin, Tr.dg, h6, List.reverse_nil, List.append_nil, ite_self]
                  cases hh : hasB fr to b.key <;> simp [hh]
                · cases h
              · rename_i h5
                rw [if_neg h5]
                split at h
                · cases h
                · rename_i h6
                  rw [if_neg h6]
                  have hd : d < 256 := by omega
                  split at h
                  · cases h
                  · rename_i x r1 e1
                    split at h
                    · cases h
                    · rename_i y r2 e2
                      simp only [Option.some.injEq, Prod.mk.injEq] at h
                      obtain ⟨rfl, rfl⟩ := h
                      rw [plS_some fr to key f top (d + 1) ⟨rest, ks, ds, sd, en⟩ x r1 (by omega) hl.up e1]
                      dsimp only
                      rw [if_neg (by simp)]
                      rw [plS_some fr to key f (flipL top d) (d + 1) _ y r2 (by omega) (hl.flip hd) e2]
                      dsimp only
                      rw [und_left hd hl, und_right hd hl]
                      simp only [sdS, Tr.leaves, Tr.way, Tr.fin, Tr.dg, List.filter_append, List.map_append, List.append_assoc]
                      cases und d key top <;> cases bitN key d <;> simp
theorem plS_none (fr to key : List UInt8) : ∀ (f : Nat) (top : List UInt8) (d : Nat) (s : RS), f + d = 257 → Low d top → rdTr (tchB fr to) f top d s.rest = none → (plS fr to key f top d s).2.2 = false
  | 0, top, d, s, _, _, h => by simp [plS]
  | f + 1, top, d, ⟨rest, ks, ds, sd, en⟩, hf, hl, h => by
    cases rest with
    | nil => simp [plS]
    | cons b rest =>
      unfold rdTr at h
      unfold plS
      dsimp only at h ⊢
      split at h
      · rename_i h1; rw [if_pos h1]
      · rename_i h1
        rw [if_neg h1]
        split at h
        · cases h
        · rename_i h2
          rw [if_neg h2]
          split at h
          · rename_i h3
            rw [if_pos h3]
            split at h
            · rename_i h4; simp [h4]
            · cases h
          · rename_i h3
            rw [if_neg h3]
            split at h
            · rename_i h4; rw [if_pos h4]
            · rename_i h4
              rw [if_neg h4]
              split at h
              · rename_i h5
                rw [if_pos h5]
                split at h
                · cases h
                · rename_i h6; simpa using h6
              · rename_i h5
                rw [if_neg h5]
                split at h
                · rename_i h6; rw [if_pos h6]
                · rename_i h6
                  rw [if_neg h6]
                  have hd : d < 256 := by omega
                  split at h
                  · rename_i e1
                    have := plS_none fr to key f top (d + 1) ⟨rest, ks, ds, sd, en⟩ (by omega) hl.up e1
                    rw [this]; simp
                  · rename_i x r1 e1
                    split at h
                    · rename_i e2
                      rw [plS_some fr to key f top (d + 1) ⟨rest, ks, ds, sd, en⟩ x r1 (by omega) hl.up e1]
                      dsimp only
                      rw [if_neg (by simp)]
                      exact plS_none fr to key f (flipL top d) (d + 1) _ (by omega) (hl.flip hd) e2
                    · cases h
end Go.Proofs.Ytigmpdhnhkdeiaa
/- Keys as ways down: the document's functions. -/
namespace Go.Proofs.Ytigmpdhnhkdeiaa
open Go Go.RowKit
theorem half_bit (c : UInt8) (m : Nat) (hm : m < 8) : c.toNat / 2 ^ (7 - m) % 2 = if bitAt c m then 1 else 0 := by
  rw [bitAt_test c m hm, Nat.testBit_eq_decide_div_mod_eq]
  have := Nat.mod_two_eq_zero_or_one (c.toNat / 2 ^ (7 - m))
  rcases this with h | h <;> rw [h] <;> rfl
set_option maxRecDepth 20000 in
theorem bitR_v (p : List UInt8) (hp : p.length = 32) (d : Int) : VC Try.prog 127 [.ba p, .v (.int .i64 d)] [] (.v (.int .i64 (pbit p d))) := by
  refine mE Try.func127 ?_; intro N w0 a w hN hR H
  refine mW ?_; clear H; intro a w H
  by_cases h : 0 ≤ d ∧ d < 256
  · have e8 := e8w d h.1
    skip
    refine mC H (fun hb => ?_) (fun hb => ?_)
    · exfalso; simp at hb; omega
    · obtain ⟨c, hc⟩ : ∃ c, c = p.getD (d.toNat / 8) 0 := ⟨_, rfl⟩
      have hc8 := c.toNat_lt
      have hX := And.intro @e8 (Eq.symm (hc))
      have hY := @e8
      refine mW ?_; clear H; intro a w H
      refine v_loop (fun k : Nat => ⟨[(6, none, .v (.int .i64 (k : Int))), (5, none, .v (.int .i64 ((c.toNat / 2 ^ k : Nat) : Int))), (1, none, .v (.int .i64 d))], [(.ba 32, .ba p)], [], []⟩) (fun k => k ≤ 7 - d.toNat % 8) (fun k => 8 - k) 0 (Nat.zero_le _) (H.to 1 0 ⟨Nat.le_trans hN (by decide), hR⟩ ⟨rfl, by rw [Nat.pow_zero, Nat.div_one]; rfl, rfl, trivial⟩ rfl rfl rfl rfl rfl) ?_
      clear H
      intro k a w hk H
      have hlt2 : c.toNat / 2 ^ k < 256 := Nat.lt_of_le_of_lt (Nat.div_le_self _ _) hc8
      obtain ⟨v, hv⟩ : ∃ v, v = c.toNat / 2 ^ k := ⟨_, rfl⟩
      rw [← hv] at H hlt2
      have hv' : PLift (v = c.toNat / 2 ^ k) := ⟨hv⟩
      clear hv
      clear hX
      clear hY
      refine mW ?_; clear H; intro a w H
      refine mC H (fun hb => ?_) (fun hb => ?_)
      · have hlt : k < 7 - d.toNat % 8 := by simp at hb; omega
        refine mW ?_; clear H; intro a w H
        have e2 : (v : Int) / 2 = ((c.toNat / 2 ^ (k + 1) : Nat) : Int) := by
          have hv : v = c.toNat / 2 ^ k := hv'.down
          rw [Nat.pow_succ, ← Nat.div_div_eq_div_mul, ← hv]; omega
        rw [e2] at H
        exact ⟨k + 1, hlt, by omega, H.to 1 0 ⟨Nat.le_trans hN (by decide), hR⟩ ⟨rfl, rfl, rfl, trivial⟩ rfl rfl rfl rfl rfl⟩
      · have hge : k = 7 - d.toNat % 8 := by simp at hb; omega
        subst hge
        have hb2 := half_bit c (d.toNat % 8) (by omega)
        have hv : v = c.toNat / 2 ^ (7 - d.toNat % 8) := hv'.down
        rw [← hv] at hb2
        clear hv
        have e3 : pbit p d = ((v % 2 : Nat) : Int) := by
          rw [pbit, if_pos h, hb2, hc]; unfold bitN; split <;> rfl
        rw [e3]
        refine mW ?_; clear H; intro a w H
        refine wp_ret ?_; exact mEnd [] [] [.tmp 4] [_] hN hR H
  · rw [pbit, if_neg h]
    refine mC H (fun hb => ?_) (fun hb => ?_)
    · refine mW ?_; clear H; intro a w H
      refine wp_ret ?_; exact mEnd [] [] [.tmp 4] [_] hN hR H
    · exfalso; simp at hb; omega
theorem pbit_nat (p : List UInt8) (k : Nat) (hk : k < 256) : pbit p (k : Int) = if bitN p k then 1 else 0 := by
  rw [pbit, if_pos (by omega), Int.toNat_natCast]
set_option maxRecDepth 20000 in
theorem commonR_v (p q : List UInt8) (hp : p.length = 32) (hq : q.length = 32) : VC Try.prog 225 [.ba p, .ba q] [] (.v (.int .i64 (com p q))) := by
  refine mE Try.func225 ?_; intro N w0 a w hN hR H
  refine mW ?_; clear H; intro a w H
  refine v_loop (fun k : Nat => ⟨[(5, none, .v (.int .i64 (k : Int))), (4, none, .v (.int .i64 0)), (3, none, .ptr 1 []), (2, none, .ptr 0 [])], [(.ba 32, .ba p), (.ba 32, .ba q)], [], []⟩) (fun k => k ≤ 256 ∧ agree k p q) (fun k => 256 - k) 0 ⟨Nat.zero_le _, fun t ht => by omega⟩ (H.to 2 0 ⟨Nat.le_trans hN (by decide), hR⟩ ⟨rfl, rfl, rfl, rfl, trivial⟩ rfl rfl rfl rfl rfl) ?_
  clear H
  rintro k a w ⟨hk, hag⟩ H
  have hp1 := bitR_v p hp (k : Int)
  have hq1 := bitR_v q hq (k : Int)
  refine mS ?_; refine mD 2 [5, 8] [6, 7] H ?_; clear H; intro gS H; refine mT ?_; clear H; intro a w H
  refine mCallTG [] [] (hp1) H ?_; clear H; intro a w H
  refine mT ?_; clear H; intro a w H
  refine mCallTG [] [] (hq1) H ?_; clear H; intro a w H
  refine mT ?_; clear H; intro a w H
  refine v_drawNil H ?_; clear H; intro H
  by_cases hk2 : k < 256
  · rw [pbit_nat p k hk2, pbit_nat q k hk2] at H
    refine mC H (fun hb => ?_) (fun hb => ?_)
    · have he : bitN p k = bitN q k := by
        revert hb
        cases bitN p k <;> cases bitN q k <;> simp
      refine mW ?_; clear H; intro a w H
      exact ⟨k + 1, ⟨hk2, fun t ht => by
        by_cases h1 : t < k
        · exact hag t h1
        · rw [show t = k by omega]; exact he⟩, by omega, H.to 2 0 ⟨Nat.le_trans hN (by decide), hR⟩ ⟨rfl, rfl, rfl, rfl, trivial⟩ rfl rfl rfl rfl rfl⟩
    · have hne : bitN p k ≠ bitN q k := fun e => by
        rw [e] at hb; simp at hb; omega
      have e := com_of hk hag fun _ => hne
      rw [e]
      refine mW ?_; clear H; intro a w H
      refine wp_ret ?_; exact mEnd [] [] [.tmp 4] [_] hN hR H
  · have e := com_of hk hag fun h => absurd h hk2
    rw [e]
    refine mC H (fun hb => ?_) (fun hb => ?_)
    · exfalso; simp at hb; omega
    · refine mW ?_; clear H; intro a w H
      refine wp_ret ?_; exact mEnd [] [] [.tmp 4] [_] hN hR H
theorem underR_v (p q : List UInt8) (hp : p.length = 32) (hq : q.length = 32) (d : Int) : VC Try.prog 176 [.ba p, .ba q, .v (.int .i64 d)] [] (.v (.bool (decide (0 ≤ d ∧ d ≤ 256 ∧ d ≤ com p q)))) := by
  have hc := commonR_v p q hp hq
  refine mE Try.func176 ?_; intro N w0 a w hN hR H
  refine mW ?_; clear H; intro a w H
  refine mCallG [] [] (hc) H ?_; clear H; intro a w H; try refine wpList_nil ?_
  refine mW ?_; clear H; intro a w H
  by_cases h0 : 0 ≤ d
  · by_cases h1 : d ≤ 256
    · have e : (decide (0 ≤ d ∧ d ≤ 256 ∧ d ≤ com p q)) = decide (d ≤ com p q) := by simp [h0, h1]
      rw [e]
      simp only [decide_eq_true h0, decide_eq_true h1, cond_true] at H
      refine wp_ret ?_; exact mEnd [] [] [.tmp 6] [_] hN hR H
    · have e : (decide (0 ≤ d ∧ d ≤ 256 ∧ d ≤ com p q)) = false := by simp [h1]
      rw [e]
      simp only [decide_eq_true h0, decide_eq_false h1, cond_true, cond_false] at H
      refine wp_ret ?_; exact mEnd [] [] [.tmp 6] [_] hN hR H
  · have e : (decide (0 ≤ d ∧ d ≤ 256 ∧ d ≤ com p q)) = false := by simp [h0]
    rw [e]
    simp only [decide_eq_false h0, cond_false] at H
    refine wp_ret ?_; exact mEnd [] [] [.tmp 6] [_] hN hR H
theorem cmp_at (p q : List UInt8) : ∀ k, k ≤ p.length → k ≤ q.length → (∀ j, j < k → p.getD j 0 = q.getD j 0) → Lib.compareBytes p q = Lib.compareBytes (p.drop k) (q.drop k)
  | 0, _, _, _ => rfl
  | k + 1, h1, h2, h => by
    rw [cmp_at p q k (by omega) (by omega) fun j hj => h j (by omega), List.drop_eq_getElem_cons (show k < p.length by omega), List.drop_eq_getElem_cons (show k < q.length by omega)]
    have := h k (by omega)
    rw [← List.getElem_eq_getD (h := show k < p.length by omega) 0, ← List.getElem_eq_getD (h := show k < q.length by omega) 0] at this
    rw [this]
    simp [Lib.compareBytes]
set_option maxRecDepth 20000 in
theorem pcmpR_v (p q : List UInt8) (hp : p.length = 32) (hq : q.length = 32) : VC Try.prog 110 [.ba p, .ba q] [] (.v (.int .i64 (Lib.compareBytes p q))) := by
  refine mE Try.func110 ?_; intro N w0 a w hN hR H
  refine mW ?_; clear H; intro a w H
  refine v_loop (fun k : Nat => ⟨[(5, none, .v (.int .i64 (k : Int))), (4, none, .v (.int .i64 0)), (3, none, .ptr 1 []), (2, none, .ptr 0 [])], [(.ba 32, .ba p), (.ba 32, .ba q)], [], []⟩) (fun k => k ≤ 32 ∧ ∀ j, j < k → p.getD j 0 = q.getD j 0) (fun k => 32 - k) 0 ⟨Nat.zero_le _, fun t ht => by omega⟩ (H.to 2 0 ⟨Nat.le_trans hN (by decide), hR⟩ ⟨rfl, rfl, rfl, rfl, trivial⟩ rfl rfl rfl rfl rfl) ?_
  clear H
  rintro k a w ⟨hk, hag⟩ H
  have hat := cmp_at p q k (by omega) (by omega) hag
  have hx8 := (p.getD k 0).toNat_lt
  have hy8 := (q.getD k 0).toNat_lt
  refine mW ?_; clear H; intro a w H
  refine mC H (fun hb => ?_) (fun hb => ?_)
  · have hlt : k < 32 := by simp at hb; omega
    rw [List.drop_eq_getElem_cons (show k < p.length by omega), List.drop_eq_getElem_cons (show k < q.length by omega), List.getElem_eq_getD (0 : UInt8), List.getElem_eq_getD (0 : UInt8)] at hat
    refine mW ?_; clear H; intro a w H
    refine mS ?_; refine mD 2 [] [] H ?_; clear H; intro gS H; refine mT ?_; clear H; intro a w H
    refine v_drawNil H ?_; clear H; intro H
    refine mC H (fun hb => ?_) (fun hb => ?_)
    · have h1 : p.getD k 0 < q.getD k 0 := by rw [UInt8.lt_iff_toNat_lt]; simpa using hb
      have e : Lib.compareBytes p q = -1 := by rw [hat]; simp only [Lib.compareBytes, if_pos h1]
      rw [e]
      refine mW ?_; clear H; intro a w H
      refine wp_ret ?_; exact mEnd [] [] [.tmp 4] [_] hN hR H
    · have h1 : ¬ p.getD k 0 < q.getD k 0 := by rw [UInt8.lt_iff_toNat_lt]; simpa using hb
      refine mW ?_; clear H; intro a w H
      refine mS ?_; refine mD 2 [] [] H ?_; clear H; intro gS H; refine mT ?_; clear H; intro a w H
      refine v_drawNil H ?_; clear H; intro H
      refine mC H (fun hb => ?_) (fun hb => ?_)
      · have h2 : q.getD k 0 < p.getD k 0 := by rw [UInt8.lt_iff_toNat_lt]; simpa using hb
        have e : Lib.compareBytes p q = 1 := by rw [hat]; simp only [Lib.compareBytes, if_neg h1, if_pos h2]
        rw [e]
        refine mW ?_; clear H; intro a w H
        refine wp_ret ?_; exact mEnd [] [] [.tmp 4] [_] hN hR H
      · have h2 : ¬ q.getD k 0 < p.getD k 0 := by rw [UInt8.lt_iff_toNat_lt]; simpa using hb
        refine mW ?_; clear H; intro a w H
        exact ⟨k + 1, ⟨hlt, fun j hj => by
          by_cases h3 : j < k
          · exact hag j h3
          · rw [show j = k by omega]; apply UInt8.toNat_inj.1; rw [UInt8.lt_iff_toNat_lt] at h1 h2; omega⟩, by omega, H.to 2 0 ⟨Nat.le_trans hN (by decide), hR⟩ ⟨rfl, rfl, rfl, rfl, trivial⟩ rfl rfl rfl rfl rfl⟩
  · have hge : k = 32 := by simp at hb; omega
    subst hge
    have e : Lib.compareBytes p q = 0 := by rw [hat, List.drop_eq_nil_of_le (by omega), List.drop_eq_nil_of_le (by omega)]; rfl
    rw [e]
    refine mW ?_; clear H; intro a w H
    refine wp_ret ?_; exact mEnd [] [] [.tmp 4] [_] hN hR H
end Go.Proofs.Ytigmpdhnhkdeiaa
/- The document's keys with a bit as said: ref04.Set, Filled; what has to be open: ref20.Open of a stretch. -/
namespace Go.Proofs.Ytigmpdhnhkdeiaa
open Go Go.RowKit
def setL (p : List UInt8) (d : Nat) (b : Bool) : List UInt8 := if bitN p d = b then p else flipL p d
theorem setL_len (p : List UInt8) (d : Nat) (b : Bool) : (setL p d b).length = p.length := by unfold setL; split; rfl; exact flipL_len _ _
theorem setL_bit (p : List UInt8) (hp : p.length = 32) (d : Nat) (hd : d < 256) (b : Bool) (t : Nat) (ht : t < 256) : bitN (setL p d b) t = if t = d then b else bitN p t := by
  unfold setL
  split
  · rename_i h; split
    · rename_i e; rw [e, h]
    · rfl
  · rename_i h
    rw [flipL_bit p hp d hd t ht]
    split
    · rename_i e; subst e; cases hb : bitN p t <;> cases b <;> simp_all
    · rfl
theorem setL_low {d : Nat} {p : List UInt8} (h : Low d p) (hd : d < 256) : setL p d false = p ∧ setL p d true = flipL p d := by
  unfold setL
  rw [h.2 d (Nat.le_refl _) hd]
  exact ⟨if_pos rfl, if_neg (by decide)⟩
set_option maxRecDepth 100000 in
theorem setX_ : ∀ (m : Fin 8) (x : Fin 256) (b : Bool), 0 ≤ (x.val : Int) + ((if b then 1 else 0) - (if bitAt (UInt8.ofNat x.val) m.val then 1 else 0)) * ((2 : Int) ^ (7 - m.val)) ∧ (x.val : Int) + ((if b then 1 else 0) - (if bitAt (UInt8.ofNat x.val) m.val then 1 else 0)) * ((2 : Int) ^ (7 - m.val)) ≤ 255 ∧
    UInt8.ofNat ((x.val : Int) + ((if b then 1 else 0) - (if bitAt (UInt8.ofNat x.val) m.val then 1 else 0)) * ((2 : Int) ^ (7 - m.val))).toNat = if bitAt (UInt8.ofNat x.val) m.val = b then UInt8.ofNat x.val else UInt8.ofNat x.val ^^^ UInt8.ofNat (128 / 2 ^ m.val) := by decide +kernel
set_option maxRecDepth 20000 in
theorem setR_v (p : List UInt8) (hp : p.length = 32) (d : Nat) (hd : d < 256) (b : Bool) : VC Try.prog 177 [.ba p, .v (.int .i64 (d : Int)), .v (.int .i64 (if b then 1 else 0))] [] (.ba (setL p d b)) := by
  have hbit := bitR_v p hp (d : Int)
  have hpb : pbit p (d : Int) = if bitN p d then 1 else 0 := by rw [pbit, if_pos (by omega), Int.toNat_natCast]
  rw [hpb] at hbit
  obtain ⟨s1, s2, s3⟩ := setX_ ⟨d % 8, by omega⟩ ⟨(p.getD (d / 8) 0).toNat, UInt8.toNat_lt _⟩ b
  simp only [UInt8.ofNat_toNat] at s1 s2 s3
  have hbn : bitAt (p.getD (d / 8) 0) (d % 8) = bitN p d := rfl
  rw [hbn] at s1 s2 s3
  have e8 : ((d : Int) / 8).toNat = d / 8 := by omega
  have hbi : (if b then (1 : Int) else 0) = 0 ∨ (if b then (1 : Int) else 0) = 1 := by cases b <;> simp
  have hbj : (if bitN p d then (1 : Int) else 0) = 0 ∨ (if bitN p d then (1 : Int) else 0) = 1 := by cases bitN p d <;> simp
  have hres : p.set (d / 8) (UInt8.ofNat (((p.getD (d / 8) 0).toNat : Int) + ((if b then 1 else 0) - (if bitN p d then 1 else 0)) * ((2 : Int) ^ (7 - d % 8))).toNat) = setL p d b := by
    rw [s3]; unfold setL
    split
    · rw [List.getD_eq_getElem?_getD, List.getElem?_eq_getElem (by omega)]; simp
    · rfl
  generalize hbv : (if b then (1 : Int) else 0) = bv at *
  generalize hbw : (if bitN p d then (1 : Int) else 0) = bw at *
  refine mE Try.func177 ?_; intro N w0 a w hN hR H
  refine mW ?_; clear H; intro a w H
  refine v_loop (fun i : Nat => ⟨[(8, none, .v (.int .i64 (i : Int))), (7, none, .v (.int .i64 ((2 ^ i : Nat) : Int))), (6, none, .ptr 1 []), (3, none, .ptr 0 []), (1, none, .v (.int .i64 (d : Int))), (2, none, .v (.int .i64 bv))], [(.ba 32, .ba p), (.ba 32, .ba (List.replicate 32 0))], [], []⟩)
    (fun i => i ≤ 7 - d % 8) (fun i => 7 - d % 8 - i) 0 (Nat.zero_le _) (H.to 2 0 ⟨Nat.le_trans hN (Nat.zero_le _), hR⟩ ⟨rfl, rfl, rfl, rfl, rfl, rfl, trivial⟩ rfl rfl rfl rfl rfl) ?_
  clear H
  intro i a w hi H
  have hi7 : i ≤ 7 := by omega
  have hp2 : 2 ^ i ≤ 128 := by
    have : 2 ^ i ≤ 2 ^ 7 := Nat.pow_le_pow_right (by decide) hi7
    exact this
  obtain ⟨v, hv⟩ : ∃ v, v = 2 ^ i := ⟨_, rfl⟩
  rw [← hv] at H hp2
  have hv' : PLift (v = 2 ^ i) := ⟨hv⟩
  clear hv
  refine mW ?_; clear H; intro a w H
  refine mC H (fun hb => ?_) (fun hb => ?_)
  · have hlt : i < 7 - d % 8 := by rw [decide_eq_true_eq] at hb; omega
    clear hb s1 s2 s3 hres
    refine mW ?_; clear H; intro a w H
    have e2 : (2 : Int) * (v : Int) = ((2 ^ (i + 1) : Nat) : Int) := by
      have hv : v = 2 ^ i := hv'.down
      rw [Nat.pow_succ, ← hv]; omega
    rw [e2] at H
    exact ⟨i + 1, by omega, by omega, H.to 2 0 ⟨Nat.le_trans hN (by decide), hR⟩ ⟨rfl, rfl, rfl, rfl, rfl, rfl, trivial⟩ rfl rfl rfl rfl rfl⟩
  · have hge : i = 7 - d % 8 := by rw [decide_eq_false_iff_not] at hb; omega
    clear hb
    subst hge
    have e9 : (2 : Int) ^ (7 - d % 8) = (v : Int) := by
      have hv : v = 2 ^ (7 - d % 8) := hv'.down
      rw [hv]; simp
    rw [e9] at s1 s2 s3 hres
    clear hv' e9
    have hx8 := (p.getD (d / 8) 0).toNat_lt
    refine mS ?_
    have hX := @e8
    have hY := @hp
    refine mS ?_; refine mD 2 [8] [0, 1, 2, 3, 4, 5, 10] H ?_; clear H; intro gS H; refine mT ?_; clear H; intro a w H
    refine mT ?_; clear H; intro a w H
    refine mCallT [] [] (hbit) H ?_; clear H; intro a w H
    refine mT ?_; clear H; intro a w H
    refine v_drawNil H ?_; clear H; intro H
    refine mW ?_; clear H; intro a w H
    rw [Int.emod_eq_of_lt s1 (by omega), hres] at H
    have hsl := setL_len p d b
    rw [hp] at hsl
    clear hX; have hX := @hsl
    refine wp_ret ?_; exact mEnd [] [] [.cell 6 49] [_] hN hR H
end Go.Proofs.Ytigmpdhnhkdeiaa
/- The document's keys from a depth on (ref04.Filled); what has to be open for a stretch (ref20.Open). -/
namespace Go.Proofs.Ytigmpdhnhkdeiaa
open Go Go.RowKit
theorem bit_ext {p q : List UInt8} (hp : p.length = 32) (hq : q.length = 32) (h : ∀ t, t < 256 → bitN p t = bitN q t) : p = q := by
  refine List.ext_getElem (by omega) fun i h1 h2 => ?_
  rw [List.getElem_eq_getD (0 : UInt8), List.getElem_eq_getD (0 : UInt8), ← b8_eta (p.getD i 0), ← b8_eta (q.getD i 0)]
  refine b8_congr fun k hk => ?_
  rw [← bitN_at p i k hk, ← bitN_at q i k hk]
  exact h _ (by omega)
/-- p with its bits from d on, before i, as said. -/
def fillT (p : List UInt8) (d : Nat) (b : Bool) (i : Nat) : List UInt8 := bitsB 256 fun t => if d ≤ t ∧ t < i then b else bitN p t
theorem fillT_len (p : List UInt8) (d : Nat) (b : Bool) (i : Nat) : (fillT p d b i).length = 32 := bitsB_len _ _
theorem fillT_bit (p : List UInt8) (d : Nat) (b : Bool) (i t : Nat) (ht : t < 256) : bitN (fillT p d b i) t = if d ≤ t ∧ t < i then b else bitN p t := by
  rw [show bitN (fillT p d b i) t = bitAt ((fillT p d b i).getD (t / 8) 0) (t % 8) from rfl]
  exact bitsB_bit 256 _ t ht
theorem fillT_zero (p : List UInt8) (hp : p.length = 32) (d : Nat) (b : Bool) : fillT p d b d = p :=
  bit_ext (fillT_len _ _ _ _) hp fun t ht => by rw [fillT_bit _ _ _ _ _ ht, if_neg (by omega)]
theorem fillT_next (p : List UInt8) (d : Nat) (b : Bool) (i : Nat) (hd : d ≤ i) (hi : i < 256) : setL (fillT p d b i) i b = fillT p d b (i + 1) :=
  bit_ext (by rw [setL_len, fillT_len]) (fillT_len _ _ _ _) fun t ht => by
    rw [setL_bit _ (fillT_len _ _ _ _) i hi b t ht, fillT_bit _ _ _ _ _ ht, fillT_bit _ _ _ _ _ ht]
    by_cases h : t = i
    · rw [if_pos h, if_pos (by omega)]
    · rw [if_neg h]
      by_cases h2 : d ≤ t ∧ t < i
      · rw [if_pos h2, if_pos (by omega)]
      · rw [if_neg h2, if_neg (by omega)]
theorem fillT_all (p : List UInt8) (d : Nat) (b : Bool) : fillT p d b 256 = fillL p d b :=
  bit_ext (fillT_len _ _ _ _) (fillL_len _ _ _) fun t ht => by
    rw [fillT_bit _ _ _ _ _ ht, fillL_bit _ _ _ _ ht]
    by_cases h : t < d
    · rw [if_pos h, if_neg (by omega)]
    · rw [if_neg h, if_pos (by omega)]
theorem cmp_anti : ∀ x y : List UInt8, Lib.compareBytes x y = - Lib.compareBytes y x
  | [], [] => rfl
  | [], _ :: _ => rfl
  | _ :: _, [] => rfl
  | a :: x, b :: y => by
    simp only [Lib.compareBytes]
    by_cases h1 : a < b
    · have h2 : ¬ b < a := fun h => by rw [UInt8.lt_iff_toNat_lt] at h1 h; omega
      rw [if_pos h1, if_neg h2, if_pos h1]
    · by_cases h2 : b < a
      · rw [if_neg h1, if_pos h2, if_pos h2]; rfl
      · rw [if_neg h1, if_neg h2, if_neg h2, if_neg h1]; exact cmp_anti x y
set_option maxRecDepth 20000 in
theorem filledR_v (p : List UInt8) (hp : p.length = 32) (d : Nat) (hd : d ≤ 256) (b : Bool) : VC Try.prog 224 [.ba p, .v (.int .i64 (d : Int)), .v (.int .i64 (if b then 1 else 0))] [] (.tup [.ba (fillL p d b), .v (.int .i64 0)]) := by
  refine mE Try.func224 ?_; intro N w0 a w hN hR H
  refine mW ?_; clear H; intro a w H
  refine mC H (fun hb => ?_) (fun hb => ?_)
  · exfalso
    rw [decide_eq_false (show ¬ (d : Int) < 0 by omega), decide_eq_false (show ¬ (256 : Int) < (d : Int) by omega)] at hb
    cases hb
  · clear hb
    refine mW ?_; clear H; intro a w H
    rw [← fillT_zero p hp d b] at H
    refine v_loop (fun i : Nat => ⟨[(8, none, .v (.int .i64 (i : Int))), (7, none, .v (.int .i64 0)), (6, none, .ptr 1 []), (3, none, .ptr 0 []), (1, none, .v (.int .i64 (d : Int))), (2, none, .v (.int .i64 (if b then 1 else 0)))], [(.ba 32, .ba (fillT p d b i)), (.ba 32, .ba (List.replicate 32 0))], [], []⟩) (fun i => d ≤ i ∧ i ≤ 256) (fun i => 256 - i) d ⟨Nat.le_refl _, hd⟩ (H.to 2 0 ⟨Nat.le_trans hN (by decide), hR⟩ ⟨rfl, rfl, rfl, rfl, rfl, rfl, trivial⟩ rfl rfl rfl rfl rfl) ?_
    clear H
    rintro i a w ⟨hi1, hi2⟩ H
    have hfl := fillT_len p d b i
    refine mW ?_; clear H; intro a w H
    refine mC H (fun hb => ?_) (fun hb => ?_)
    · have hlt : i < 256 := by rw [decide_eq_true_eq] at hb; omega
      clear hb
      have hs := setR_v (fillT p d b i) hfl i hlt b
      rw [fillT_next p d b i hi1 hlt] at hs
      have hfl2 := fillT_len p d b (i + 1)
      have hX := And.intro @hfl (@hfl2)
      refine mW ?_; clear H; intro a w H
      refine mCall [] [] (hs) H ?_; clear H; intro a w H; try refine wpList_nil ?_
      refine mW ?_; clear H; intro a w H
      exact ⟨i + 1, ⟨by omega, by omega⟩, by omega, H.to 2 0 ⟨Nat.le_trans hN (by decide), hR⟩ ⟨rfl, rfl, rfl, rfl, rfl, rfl, trivial⟩ rfl rfl rfl rfl rfl⟩
    · have hge : i = 256 := by rw [decide_eq_false_iff_not] at hb; omega
      subst hge
      rw [fillT_all p d b] at H
      have hfl := fillL_len p d b
      have hX := @hfl
      refine mW ?_; clear H; intro a w H
      refine wp_ret ?_; exact mEnd [] [] [.cell 6 49, .tmp 7] [_, _] hN hR H
end Go.Proofs.Ytigmpdhnhkdeiaa
/- The arguments of a statement, as values; what a statement's form asks for, out of a contract in values. -/
namespace Go.Proofs.Ytigmpdhnhkdeiaa
open Go Go.RowKit
theorem bulk_part {H : Type} {d : DataW H} : ∀ {l : List (DataW H)}, d ∈ l → Rows.uptoBulk d ≤ Rows.uptoBulkAll l
  | x :: l, h => by
    rcases List.mem_cons.1 h with e | e
    · subst e; simp only [Rows.uptoBulkAll]; omega
    · have := bulk_part e; simp only [Rows.uptoBulkAll]; omega
theorem bulk_one {H : Type} (d : DataW H) : 1 ≤ Rows.uptoBulk d := by
  cases d with
  | lit l => cases l <;> simp [Rows.uptoBulk]
  | _ => simp [Rows.uptoBulk]
theorem bulk_len {H : Type} : ∀ l : List (DataW H), l.length ≤ Rows.uptoBulkAll l
  | [] => by simp
  | x :: l => by have := bulk_one x; have := bulk_len l; simp only [Rows.uptoBulkAll, List.length_cons]; omega
def isU8 (τ : Tab) (e : Nat) : Bool := match Tab.get e τ with
  | some j => (match j.d with | .int .u8 => true | _ => false)
  | none => false
def tyOf (τ : Tab) (e : Nat) : Ty := match Tab.get e τ with
  | some j => j.ty
  | none => .sc
def ShL (f : Nat → AV → Prop) : List Nat → List AV → Prop
  | [], [] => True
  | t :: ts, a :: az => f t a ∧ ShL f ts az
  | _, _ => False
/-- The values that a type may have: each stretch no longer than M. -/
def Sh (τ : Tab) (M : Nat) : Nat → Nat → AV → Prop
  | 0, _, _ => False
  | d + 1, t, a => match (Tab.get t τ).map TI.d with
    | some (.int k) => ∃ n, a = .v (.int k n) ∧ ilo k ≤ n ∧ n ≤ ihi k
    | some .bool => ∃ b, a = .v (.bool b)
    | some .str => ∃ s : ByteArray, a = .v (.string s) ∧ s.size ≤ M
    | some (.slc e) => if isU8 τ e then ∃ l, a = .bs l none ∧ l.length ≤ M else ∃ es, a = .sl (tyOf τ e) es none ∧ es.length ≤ M ∧ ∀ x ∈ es, Sh τ M d e x
    | some (.arr n _) => ∃ l, a = .ba l ∧ l.length = n
    | some (.rcd fs) => ∃ az, a = .st az ∧ ShL (Sh τ M d) (fs.map (·.2)) az
    | _ => False
def lay (τ : Tab) : List (Nat × Nat) → Nat → Ty → Bool
  | [], _, .nl => true
  | (o, t) :: fs, off, .cn T Ts => o == off && (Tab.get t τ).isSome && tyOf τ t == T && lay τ fs (off + T.size) Ts
  | _, _, _ => false
def okT (τ : Tab) : Nat → Nat → Bool
  | 0, _ => false
  | d + 1, t => match Tab.get t τ with
    | some i => (match i.d with
      | .int _ => i.ty == .sc
      | .bool => i.ty == .sc
      | .str => i.ty == .sc
      | .slc e => i.ty == .sc && (Tab.get e τ).isSome && decide (0 < (tyOf τ e).size) && (isU8 τ e && tyOf τ e == .sc || !isU8 τ e && okT τ d e)
      | .arr n e => isU8 τ e && i.ty == .ba n && tyOf τ e == .sc
      | .rcd fs => lay τ fs 0 i.ty && i.ty.agg && fs.all fun f => okT τ d f.2
      | _ => false)
    | none => false
section
variable {τ : Tab} {M d t : Nat} {a : AV} {i : TI}
theorem Sh.int {k : IntKind} (ht : Tab.get t τ = some i) (hd : i.d = .int k) (h : Sh τ M (d + 1) t a) : ∃ n, a = .v (.int k n) ∧ ilo k ≤ n ∧ n ≤ ihi k := by
  unfold Sh at h; simp only [ht, Option.map_some, hd] at h; exact h
theorem Sh.bool (ht : Tab.get t τ = some i) (hd : i.d = .bool) (h : Sh τ M (d + 1) t a) : ∃ b, a = .v (.bool b) := by
  unfold Sh at h; simp only [ht, Option.map_some, hd] at h; exact h
theorem Sh.str (ht : Tab.get t τ = some i) (hd : i.d = .str) (h : Sh τ M (d + 1) t a) : ∃ s : ByteArray, a = .v (.string s) ∧ s.size ≤ M := by
  unfold Sh at h; simp only [ht, Option.map_some, hd] at h; exact h
theorem Sh.bytes {e : Nat} (ht : Tab.get t τ = some i) (hd : i.d = .slc e) (hu : isU8 τ e = true) (h : Sh τ M (d + 1) t a) : ∃ l, a = .bs l none ∧ l.length ≤ M := by
  unfold Sh at h; simp only [ht, Option.map_some, hd, hu, if_true] at h; exact h
theorem Sh.slc {e : Nat} (ht : Tab.get t τ = some i) (hd : i.d = .slc e) (hu : isU8 τ e = false) (h : Sh τ M (d + 1) t a) : ∃ es, a = .sl (tyOf τ e) es none ∧ es.length ≤ M ∧ ∀ x ∈ es, Sh τ M d e x := by
  unfold Sh at h; simp only [ht, Option.map_some, hd, hu, Bool.false_eq_true, if_false] at h; exact h
theorem Sh.arr {n e : Nat} (ht : Tab.get t τ = some i) (hd : i.d = .arr n e) (h : Sh τ M (d + 1) t a) : ∃ l, a = .ba l ∧ l.length = n := by
  unfold Sh at h; simp only [ht, Option.map_some, hd] at h; exact h
theorem Sh.rcd {fs : List (Nat × Nat)} (ht : Tab.get t τ = some i) (hd : i.d = .rcd fs) (h : Sh τ M (d + 1) t a) : ∃ az, a = .st az ∧ ShL (Sh τ M d) (fs.map (·.2)) az := by
  unfold Sh at h; simp only [ht, Option.map_some, hd] at h; exact h
theorem shl_nil {f : Nat → AV → Prop} {az : List AV} (h : ShL f [] az) : az = [] := by
  cases az with
  | nil => rfl
  | cons _ _ => exact h.elim
theorem shl_cons {f : Nat → AV → Prop} {t : Nat} {ts : List Nat} {az : List AV} (h : ShL f (t :: ts) az) : ∃ a r, az = a :: r ∧ f t a ∧ ShL f ts r := by
  cases az with
  | nil => exact h.elim
  | cons a r => exact ⟨a, r, rfl, h.1, h.2⟩
/-- Elements, each of a form. -/
theorem sh_list {α : Type} {p : AV → Prop} {q : α → Prop} {f : α → AV} (hp : ∀ x, p x → ∃ y, x = f y ∧ q y) : ∀ {es : List AV}, (∀ x ∈ es, p x) → ∃ ys : List α, es = ys.map f ∧ ∀ y ∈ ys, q y
  | [], _ => ⟨[], rfl, fun y h => by cases h⟩
  | x :: es, h => by
    obtain ⟨y, rfl, hy⟩ := hp x (h x List.mem_cons_self)
    obtain ⟨ys, rfl, hys⟩ := sh_list hp (es := es) fun x hx => h x (List.mem_cons_of_mem _ hx)
    exact ⟨y :: ys, rfl, fun z hz => by rcases List.mem_cons.1 hz with e | e; (subst e; exact hy); exact hys z e⟩
theorem u8_of {n : Int} (h : ilo .u8 ≤ n ∧ n ≤ ihi .u8) : ∃ k : UInt8, Value.int .u8 n = B8 k := ⟨UInt8.ofNat n.toNat, by
  simp only [ilo, ihi] at h
  simp only [B8, UInt8.toNat_ofNat']
  congr 1; omega⟩
end
/-- All cells of a memory. -/
def allOf (w : World) : Gh := ⟨fun b o => w.cell? ⟨b, o, none⟩, [], []⟩
section
variable {H : Type} {enc : TypeId × Value → H} {P : Program} {τ : Tab} {w : World} {sp : Nat → Bool} {held : Bool} {M : Nat}
theorem wf_lohi {k : IntKind} {n : Int} (h : (Lit.int k n).wf = true) : ilo k ≤ n ∧ n ≤ ihi k := by
  cases k <;> simp [Lit.wf, IntKind.min, IntKind.max, IntKind.signed, IntKind.bits] at h <;> simp only [ilo, ihi] <;> omega
theorem isU8_ok (hτ : τ.ok P) {e : Nat} (h : isU8 τ e = true) : P.underlying e = some (.int .u8) := by
  unfold isU8 at h
  split at h
  · rename_i j hj
    have hok := (Tab.get_ok hτ hj).d
    split at h
    · rename_i hd; rw [hd] at hok; exact hok
    · cases h
  · cases h
theorem cells_ty (hτ : τ.ok P) {e : Nat} (h : (Tab.get e τ).isSome = true) : P.cellsOf e = (tyOf τ e).size := by
  unfold tyOf
  cases hj : Tab.get e τ with
  | none => rw [hj] at h; cases h
  | some j =>
    obtain ⟨inf, z, h1, h2, _⟩ := (Tab.get_ok hτ hj).info
    simp [Program.cellsOf, h1, h2]
theorem isU8_some {e : Nat} (h : isU8 τ e = true) : (Tab.get e τ).isSome = true := by
  unfold isU8 at h
  split at h
  · rename_i j hj; rw [hj]; rfl
  · cases h
theorem B8_of {n : Int} (h : 0 ≤ n ∧ n ≤ 255) : B8 (UInt8.ofNat n.toNat) = .int .u8 n := by
  simp only [B8, UInt8.toNat_ofNat']
  congr 1; omega
theorem trod_rc (hτ : τ.ok P) : ∀ (d : Nat) {t fuel : Nat} {cs : List Value} {x : DataW H × List MemPlace}, okT τ d t = true → DataW.trod enc P w 0 sp held fuel t cs = some x → Rows.uptoBulk x.1 ≤ M →
    ∃ a, Sh τ M d t a ∧ RC (allOf w) (tyOf τ t) a cs := by
  intro d
  induction d with
  | zero => intro t fuel cs x h; cases h
  | succ d ih =>
    intro t fuel cs x hok hx hM
    unfold okT at hok
    cases hg : Tab.get t τ with
    | none => rw [hg] at hok; cases hok
    | some i =>
    rw [hg] at hok
    have hi := Tab.get_ok hτ hg
    have hty : tyOf τ t = i.ty := by unfold tyOf; rw [hg]
    have hdd := hi.d
    have hsz : P.cellsOf t = i.ty.size := by rw [← hty]; exact cells_ty hτ (by rw [hg]; rfl)
    rw [hty]
    dsimp only at hok
    have sh : ∀ a, (match some i.d with
      | some (.int k) => ∃ n, a = AV.v (.int k n) ∧ ilo k ≤ n ∧ n ≤ ihi k
      | some .bool => ∃ b, a = .v (.bool b)
      | some .str => ∃ s : ByteArray, a = .v (.string s) ∧ s.size ≤ M
      | some (.slc e) => if isU8 τ e then ∃ l, a = .bs l none ∧ l.length ≤ M else ∃ es, a = .sl (tyOf τ e) es none ∧ es.length ≤ M ∧ ∀ x ∈ es, Sh τ M d e x
      | some (.arr n _) => ∃ l, a = .ba l ∧ l.length = n
      | some (.rcd fs) => ∃ az, a = .st az ∧ ShL (Sh τ M d) (fs.map (·.2)) az
      | _ => False) → Sh τ M (d + 1) t a := fun a h => by unfold Sh; rw [hg]; exact h
    generalize hdi : i.d = D' at hok hdd sh
    cases D' with
    | int k =>
      obtain ⟨n, rfl, rfl, hw⟩ := DataW.trod_int hdd hx
      rw [eq_of_beq hok]
      exact ⟨.v (.int k n), sh _ ⟨n, rfl, wf_lohi hw⟩, .v rfl⟩
    | bool =>
      obtain ⟨b, rfl, rfl⟩ := DataW.trod_bool hdd hx
      rw [eq_of_beq hok]
      exact ⟨.v (.bool b), sh _ ⟨b, rfl⟩, .v rfl⟩
    | str =>
      obtain ⟨s, rfl, rfl, hs⟩ := DataW.trod_string hdd hx
      rw [eq_of_beq hok]
      refine ⟨.v (.string s), sh _ ⟨s, rfl, ?_⟩, .v rfl⟩
      simp only [Rows.uptoBulk] at hM
      have : s.data.toList.length = s.size := by rw [Array.length_toList]; rfl
      omega
    | slc e =>
      simp only [Bool.and_eq_true, Bool.or_eq_true, Bool.not_eq_true', decide_eq_true_eq] at hok
      obtain ⟨⟨⟨h1, h2⟩, h3⟩, h4⟩ := hok
      have hce := cells_ty hτ h2
      rw [eq_of_beq h1]
      by_cases hu : isU8 τ e = true
      · have hu1 : tyOf τ e = .sc := by rcases h4 with h4 | h4; exact eq_of_beq h4.2; rw [h4.1] at hu; cases hu
        have hs0 : P.cellsOf e = 1 := by rw [hce, hu1]; rfl
        rcases ChangeShapes.open_ints hdd (isU8_ok hτ hu) hs0 hx with ⟨rfl, rfl⟩ | ⟨A, len, cap, zs, rfl, _, hl, hm, hz, rfl, hc, hw⟩
        · refine ⟨.bs [] none, sh _ ?_, RC.nil1 rfl⟩
          show ite _ _ _
          rw [if_pos hu]; exact ⟨[], rfl, Nat.zero_le _⟩
        · have hlz : len ≤ zs.length := by rw [hz]; split <;> omega
          have hll : ((zs.take len).map fun n => UInt8.ofNat n.toNat).length = len := by simp [hlz]
          refine ⟨.bs ((zs.take len).map fun n => UInt8.ofNat n.toNat) none, sh _ ?_, ?_⟩
          · show ite _ _ _
            rw [if_pos hu]
            refine ⟨_, rfl, ?_⟩
            rw [hll]
            simp only [Rows.uptoBulk] at hM
            have h5 := bulk_len (ChangeShapes.lits (H := H) .u8 (zs.take len))
            have h6 : (ChangeShapes.lits (H := H) .u8 (zs.take len)).length = len := by simp [ChangeShapes.lits, hlz]
            omega
          · have := RC.bs (g := allOf w) (l := (zs.take len).map fun n => UInt8.ofNat n.toNat) (tok := none) (A := some A) (c := cap) (by rw [hll]; exact hl) hm ?_ (fun i hi => by cases hi)
            · rw [hll] at this; exact this
            · rcases Nat.eq_zero_or_pos len with h0 | h0
              · left; rw [h0]; rfl
              · right
                obtain ⟨b, o, rfl, hcc⟩ := ints_at hc (by omega)
                refine ⟨b, o, rfl, fun j hj => ?_⟩
                rw [hll] at hj
                have h7 := hcc j (by omega)
                show w.cell? _ = _
                rw [h7]
                have h8 : zs.getD j 0 = zs[j]'(by omega) := by simp [List.getD, show j < zs.length by omega]
                have h9 := wf_lohi (hw _ (List.getElem_mem (show j < zs.length by omega)))
                simp only [ilo, ihi] at h9
                rw [h8]
                simp only [List.getElem_map, List.getElem_take]
                rw [B8_of h9]
      · have h4' : okT τ d e = true := by rcases h4 with h4 | h4; exact absurd h4.1 hu; exact h4.2
        rcases DataW.trod_slice hdd hx with ⟨rfl, rfl⟩ | ⟨A, len, cap, elems, rest, n, _, rfl, rfl, _, hl, hm, hlen, hel, _, _⟩
        · refine ⟨.sl (tyOf τ e) [] none, sh _ ?_, RC.nil2 rfl⟩
          show ite _ _ _
          rw [if_neg hu]; exact ⟨[], rfl, Nat.zero_le _, fun x hx => by cases hx⟩
        · simp only [Rows.uptoBulk] at hM
          have hb1 := bulk_len (elems.map (·.1))
          rw [List.length_map, hlen] at hb1
          have each : ∀ k, ∃ p : List Value × AV, k < len → w.cells? 0 (A.add (k * P.cellsOf e)) (P.cellsOf e) = some p.1 ∧ Sh τ M d e p.2 ∧ RC (allOf w) (tyOf τ e) p.2 p.1 := fun k => by
            by_cases hk : k < len
            · have h5 := hel k hk
              rw [List.getElem?_eq_getElem (by omega)] at h5
              obtain ⟨cs', h6, h7⟩ := Option.bind_eq_some_iff.1 h5
              have h8 : Rows.uptoBulk (elems[k]'(by omega)).1 ≤ M := by
                have := bulk_part (List.mem_map_of_mem (f := (·.1)) (List.getElem_mem (show k < elems.length by omega)))
                omega
              obtain ⟨a, ha1, ha2⟩ := ih h4' h7 h8
              exact ⟨(cs', a), fun _ => ⟨h6, ha1, ha2⟩⟩
            · exact ⟨([], .any), fun h => absurd h hk⟩
          obtain ⟨f, hf⟩ := Classical.axiomOfChoice each
          have hll : ((List.range len).map fun k => (f k).2).length = len := by simp
          refine ⟨.sl (tyOf τ e) ((List.range len).map fun k => (f k).2) none, sh _ ?_, ?_⟩
          · show ite _ _ _
            rw [if_neg hu]
            refine ⟨_, rfl, by rw [hll]; omega, fun x hx => ?_⟩
            obtain ⟨k, hk, rfl⟩ := List.mem_map.1 hx
            exact (hf k (List.mem_range.1 hk)).2.1
          · have := RC.sl (g := allOf w) (T := tyOf τ e) (es := (List.range len).map fun k => (f k).2) (tok := none) (A := some A) (c := cap) (by rw [hll]; exact hl) hm (fun k => (f k).1) ?_ (fun k hk => ?_) (fun i hi => by cases hi)
            · rw [hll] at this; exact this
            · rcases Nat.eq_zero_or_pos len with h0 | h0
              · left; rw [h0]; rfl
              · right
                obtain ⟨b, o, spot⟩ := A
                have hs0 : spot = none := by
                  obtain ⟨_, h6, h7⟩ := World.cells?_some (hf 0 h0).1
                  have h8 := h7 0 (by omega)
                  have : 0 < (f 0).1.length := by omega
                  rw [List.getElem?_eq_getElem this] at h8
                  have := World.cell?_spot h8
                  simpa [Addr.add] using this
                subst hs0
                refine ⟨b, o, rfl, fun k hk j u hu => ?_⟩
                rw [hll] at hk
                obtain ⟨_, h6, h7⟩ := World.cells?_some (hf k hk).1
                have hj := (List.getElem?_eq_some_iff.1 hu).1
                have h8 := h7 j (by omega)
                rw [hu, addr_add, addr_add, hce] at h8
                exact h8
            · have hk' : k < len := by rw [hll] at hk; exact hk
              simp only [List.getElem_map, List.getElem_range]
              exact (hf k hk').2.2
    | arr n e =>
      simp only [Bool.and_eq_true] at hok
      obtain ⟨⟨h1, h2⟩, h3⟩ := hok
      have hce : P.cellsOf e = 1 := by rw [cells_ty hτ (isU8_some h1), eq_of_beq h3]; rfl
      obtain ⟨xs, m, _, rfl, hcl, hxl, hx1⟩ := DataW.trod_array hdd.1 hx
      rw [eq_of_beq h2]
      have hn : cs.length = n := by rw [hcl, hsz, eq_of_beq h2]; rfl
      have key : ∀ k (hk : k < cs.length), ∃ q : Int, cs[k] = .int .u8 q ∧ 0 ≤ q ∧ q ≤ 255 := fun k hk => by
        have h5 := hx1 k (by omega)
        rw [List.getElem?_eq_getElem (by omega)] at h5
        obtain ⟨q, h6, _, h7⟩ := DataW.trod_int (isU8_ok hτ h1) h5
        rw [hce, Nat.mul_one] at h6
        have h8 : ((cs.drop k).take 1)[0]? = some (.int .u8 q) := by rw [h6]; rfl
        rw [List.getElem?_take, if_pos (by decide), List.getElem?_drop, Nat.add_zero, List.getElem?_eq_getElem hk] at h8
        injection h8 with h8
        have := wf_lohi h7
        exact ⟨q, h8, this⟩
      have hcs : cs = (cs.map fun v => match v with | .int _ q => UInt8.ofNat q.toNat | _ => 0).map B8 := by
        apply List.ext_getElem
        · simp
        · intro k hk _
          obtain ⟨q, h5, h6⟩ := key k hk
          simp only [List.getElem_map, h5]
          exact (B8_of h6).symm
      obtain ⟨l, hl⟩ : ∃ l : List UInt8, cs = l.map B8 := ⟨_, hcs⟩
      subst hl
      exact ⟨.ba l, sh _ ⟨l, rfl, by simpa using hn⟩, .ba (by simpa using hn)⟩
    | rcd fs =>
      simp only [Bool.and_eq_true, List.all_eq_true] at hok
      obtain ⟨⟨h1, h2⟩, h3⟩ := hok
      obtain ⟨F, hu, hF, _⟩ := hdd
      obtain ⟨xs, m, _, rfl, hcl, hxl, hx1⟩ := DataW.trod_struct hu hx
      simp only [Rows.uptoBulk] at hM
      rw [hsz] at hcl
      have key : ∀ (L : List (Nat × Nat)) (off : Nat) (T : Ty) (k : Nat), fs.drop k = L → lay τ L off T = true → cs.length = off + T.size → ∃ az, ShL (Sh τ M d) (L.map (·.2)) az ∧ RC (allOf w) T (.st az) (cs.drop off) := by
        intro L
        induction L with
        | nil =>
          intro off T k _ hlay hc
          cases T with
          | nl => rw [show cs.drop off = [] from List.drop_eq_nil_of_le (by rw [hc]; exact Nat.le_refl _)]; exact ⟨[], trivial, .nl⟩
          | _ => cases hlay
        | cons p L ihL =>
          intro off T k hk hlay hc
          cases T with
          | cn T Ts =>
            obtain ⟨o, ft⟩ := p
            simp only [lay, Bool.and_eq_true] at hlay
            obtain ⟨⟨⟨h4, h5⟩, h6⟩, h7⟩ := hlay
            obtain rfl := eq_of_beq h4
            obtain rfl := eq_of_beq h6
            have hfk : fs[k]? = some (o, ft) := by
              have : (fs.drop k)[0]? = some (o, ft) := by rw [hk]; rfl
              rw [List.getElem?_drop, Nat.add_zero] at this; exact this
            have hFk : ∃ fl, F[k]? = some fl ∧ fl.offset = o ∧ fl.type = ft := by
              rw [← hF, List.getElem?_map] at hfk
              obtain ⟨fl, h8, h9⟩ := Option.map_eq_some_iff.1 hfk
              simp only [Prod.mk.injEq] at h9
              exact ⟨fl, by simpa using h8, h9.1, h9.2⟩
            obtain ⟨fl, hfl, rfl, rfl⟩ := hFk
            have h8 := hx1 k fl hfl
            have hkx : k < xs.length := by rw [hxl]; have := (Array.getElem?_eq_some_iff.1 hfl).1; exact this
            rw [List.getElem?_eq_getElem hkx] at h8
            have h9 : Rows.uptoBulk xs[k].1 ≤ M := by
              have := bulk_part (List.mem_map_of_mem (f := (·.1)) (List.getElem_mem hkx))
              omega
            obtain ⟨a, ha1, ha2⟩ := ih (h3 _ (List.mem_of_getElem? hfk)) h8 h9
            obtain ⟨az, hz1, hz2⟩ := ihL (fl.offset + (tyOf τ fl.type).size) Ts (k + 1) (by rw [← List.drop_drop, hk]; rfl) h7 (by rw [hc]; simp only [Ty.size]; omega)
            refine ⟨a :: az, ⟨ha1, hz1⟩, ?_⟩
            have := RC.cn ha2 hz2
            rw [cells_ty hτ h5, ← List.drop_drop, List.take_append_drop] at this
            exact this
          | _ => cases hlay
      obtain ⟨az, hz1, hz2⟩ := key fs 0 i.ty 0 rfl h1 (by rw [hcl]; omega)
      exact ⟨.st az, sh _ ⟨az, rfl, hz1⟩, hz2⟩
    | _ => cases hok
theorem arg_rv (hτ : τ.ok P) {d t b0 : Nat} {r : Reach} {v : Value} {x : DataW H} {ps : List MemPlace} (hok : okT τ d t = true) (hval : Value.okWide P w r b0 t v) (hx : DataW.Trod enc P w 0 sp held t v x ps) (hM : Rows.uptoBulk x ≤ M) :
    ∃ a, Sh τ M d t a ∧ RV (allOf w) a v := by
  obtain ⟨fuel, hf⟩ := hx
  obtain ⟨a, h1, h2⟩ := trod_rc hτ d hok hf hM
  refine ⟨a, h1, ?_⟩
  cases d with
  | zero => cases hok
  | succ d =>
  unfold okT at hok
  cases hg : Tab.get t τ with
  | none => rw [hg] at hok; cases hok
  | some i =>
  rw [hg] at hok
  have hdd := (Tab.get_ok hτ hg).d
  have hty : tyOf τ t = i.ty := by unfold tyOf; rw [hg]
  rw [hty] at h2
  dsimp only at hok
  have hag : i.ty.agg = true → (∃ cs, v = .agg cs) → RV (allOf w) a v := fun h3 ⟨cs, hv⟩ => by
    subst hv
    refine (show RV1 (allOf w) a (.agg cs) from .inl ⟨i.ty, cs.toList, h3, h2, rfl⟩).rv
  have hsc : i.ty = .sc → v.cells.toList = [v] → RV (allOf w) a v := fun h3 hv => by
    rw [h3, hv] at h2; exact h2.rvp
  generalize i.d = D' at hok hdd
  cases D' with
  | int k => obtain ⟨n, rfl⟩ := WideShapes.okWide_int hdd hval; exact hsc (eq_of_beq hok) rfl
  | bool => obtain ⟨n, rfl⟩ := WideShapes.okWide_bool hdd hval; exact hsc (eq_of_beq hok) rfl
  | str => obtain ⟨n, rfl⟩ := WideShapes.okWide_string hdd hval; exact hsc (eq_of_beq hok) rfl
  | slc e =>
    obtain ⟨A, len, cap, rfl⟩ := WideShapes.okWide_slice hdd hval
    simp only [Bool.and_eq_true] at hok
    exact hsc (eq_of_beq hok.1.1.1) rfl
  | arr n e =>
    simp only [Bool.and_eq_true] at hok
    have hu := hdd.1
    simp only [Value.okWide, hu] at hval
    obtain ⟨cs, rfl, _⟩ := hval
    exact hag (by rw [eq_of_beq hok.1.2]; rfl) ⟨cs, rfl⟩
  | rcd fs =>
    simp only [Bool.and_eq_true] at hok
    obtain ⟨F, hu, _⟩ := hdd
    obtain ⟨cs, rfl, _⟩ := WideShapes.okWide_struct hu hval
    exact hag hok.1.2 ⟨cs, rfl⟩
  | _ => cases hok
/-- All arguments. -/
theorem args_rv (hτ : τ.ok P) {d b0 : Nat} {r : Reach} : ∀ {ts : List TypeId} {vs : List Value} {ds : List (DataW H)} {ps : List MemPlace}, (ts.all fun t => okT τ d t) = true → DataW.TrodAll enc P w 0 sp held ts vs ds ps →
    (∀ (j : Nat) t v, ts[j]? = some t → vs[j]? = some v → Value.okWide P w r b0 t v) → Rows.uptoBulkAll ds ≤ M →
    ∃ az, ShL (Sh τ M d) ts az ∧ vs.length = az.length ∧ ∀ (i : Nat) x v, az[i]? = some x → vs[i]? = some v → RV (allOf w) x v
  | [], [], [], _, _, _, _, _ => ⟨[], trivial, rfl, fun i x v h => by simp at h⟩
  | t :: ts, v :: vs, x :: ds, _, hok, h, hval, hM => by
    obtain ⟨p, q, h1, h2, _⟩ := h
    simp only [List.all_cons, Bool.and_eq_true] at hok
    simp only [Rows.uptoBulkAll] at hM
    obtain ⟨a, ha1, ha2⟩ := arg_rv (M := M) hτ hok.1 (hval 0 t v rfl rfl) h1 (by omega)
    obtain ⟨az, hz1, hz2, hz3⟩ := args_rv hτ hok.2 h2 (fun j t v hj hv => hval (j + 1) t v hj hv) (by omega)
    refine ⟨a :: az, ⟨ha1, hz1⟩, by simp [hz2], fun i y u hy hu => ?_⟩
    cases i with
    | zero =>
      simp only [List.getElem?_cons_zero, Option.some.injEq] at hy hu
      subst hy hu; exact ha2
    | succ i => exact hz3 i y u (by simpa using hy) (by simpa using hu)
  | [], _ :: _, _, _, _, h, _, _ => by cases h
  | [], [], _ :: _, _, _, h, _, _ => by cases h
  | _ :: _, [], _, _, _, h, _, _ => by cases h
  | _ :: _, _ :: _, [], _, _, h, _, _ => by cases h
theorem allOf_inv (P : Program) (w : World) : Inv P w (allOf w) (allOf w) [] [] [] w := by
  have nb : ∀ (i : Nat) (x : Bx), (allOf w).bx[i]? = some x → False := fun i x h => by simp [allOf] at h
  have nr : ∀ (i : Nat) (x : Rw), (allOf w).rw[i]? = some x → False := fun i x h => by simp [allOf] at h
  refine ⟨⟨fun b o u h => h, fun i x hx => (nb i x hx).elim, fun i x hx => (nb i x hx).elim, fun i x hx => (nb i x hx).elim, fun i r hr => (nr i r hr).elim, fun i x hx => (nb i x hx).elim, fun i x hx => (nb i x hx).elim, fun i j x y hx => (nb i x hx).elim, fun i r k hr => (nr i r hr).elim, fun i r k hr => (nr i r hr).elim, fun i j x r hx => (nb i x hx).elim, fun i j r s k hr => (nr i r hr).elim⟩,
    ⟨Kept.refl _ _, fun i x hx => (nb i x hx).elim, fun i r k hr => (nr i r hr).elim, fun b _ _ o => rfl, Gh.le.refl _⟩, ⟨rfl, fun i T a h => by simp at h⟩, fun i x hx => (nb i x hx).elim, rfl, fun r hr => by simp [allOf] at hr⟩
/-- A law's function, called: true, and nothing old has turned. -/
theorem law_calls (hτ : τ.ok P) {f : FuncId} {fn : Func} {d b0 : Nat} {r : Reach} {args : Array Value} {ds : List (DataW H)} {ps : List MemPlace} (hok : (fn.params.toList.all fun t => okT τ d t) = true)
    (hT : DataW.TrodAll enc P w 0 sp held fn.params.toList args.toList ds ps) (hval : ∀ (j : Nat) t v, fn.params[j]? = some t → args[j]? = some v → Value.okWide P w r b0 t v) (hM : Rows.uptoBulkAll ds ≤ M)
    (h : ∀ az, ShL (Sh τ M d) fn.params.toList az → VC P f az [] (.v (.bool true))) : Calls P f args w fun e w' => e = .returned (.bool true) ∧ Below w.heap.size w w' := by
  obtain ⟨az, h1, h2, h3⟩ := args_rv (M := M) hτ hok hT (fun j t v hj hv => hval j t v (by simpa using hj) (by simpa using hv)) hM
  have := (h az h1).2 w (allOf w) args.toList (allOf_inv P w) h2 h3
  refine this.mono fun e w' hp => ?_
  obtain ⟨g, v, rfl, hi, hv⟩ := hp
  refine ⟨by rw [hv.v_inv], hi.fr.kept.below (Nat.le_refl _) fun k _ hk => ?_⟩
  rcases hk with ⟨x, hx, _⟩ | ⟨x, hx, _⟩ <;> simp [allOf] at hx
theorem trodAll_below (hl : laidOutB P = true) {W W' : World} (hb : Below W.heap.size W W') : ∀ {ts : List TypeId} {vs : List Value} {ds : List (DataW H)} {ps : List MemPlace}, (ts.all fun t => P.readableRec t && decide (t < P.types.size)) = true →
    DataW.TrodAll enc P W 0 (fun _ => true) true ts vs ds ps → (∀ x ∈ ps, x.block < W.heap.size) → DataW.TrodAll enc P W' 0 (fun b => decide (b < W.heap.size)) true ts vs ds ps
  | [], [], [], _, _, h, _ => h
  | t :: ts, v :: vs, x :: ds, _, hr, h, hlt => by
    obtain ⟨p, q, h1, h2, rfl⟩ := h
    simp only [List.all_cons, Bool.and_eq_true, decide_eq_true_eq] at hr
    exact ⟨p, q, Below.trod hl hr.1.1 hr.1.2 h1 hb (fun x hx => hlt x (List.mem_append_left _ hx)), trodAll_below hl hb hr.2 h2 (fun x hx => hlt x (List.mem_append_right _ hx)), rfl⟩
  | [], _ :: _, _, _, _, h, _ => by cases h
  | [], [], _ :: _, _, _, h, _ => by cases h
  | _ :: _, [], _, _, _, h, _ => by cases h
  | _ :: _, _ :: _, [], _, _, h, _ => by cases h
/-- What a statement's form asks for: true is handed back, the arguments are as they were. -/
theorem post_true (hl : laidOutB P = true) {fn : Func} {s : ChangeSpec} {W W' : World} {args : Array Value} {ds gs : List (DataW H)} {before : List MemPlace} {bt : TypeId}
    (hW : DataW.Whole enc P fn.params.toList s.vars false W args.toList ds gs before) (hb : Below W.heap.size W W') (hr : (fn.params.toList.all fun t => P.readableRec t && decide (t < P.types.size)) = true) (hv : s.vars = []) (hrt : fn.resultTypes = #[bt]) (hbt : P.underlying bt = some .bool)
    (hs : s.fn H (ds ++ gs) = ⟨[.lit (.bool true)], ds, []⟩) : s.post enc P fn false true false false W args (.bool true) W' := by
  have hlt := fun x hx => hW.lt x hx
  obtain ⟨p, q, hA, hV, rfl, hfz, hnd⟩ := id hW
  refine ⟨ds, gs, p ++ q, [], p, [], hW, ?_, ?_, ?_, hb.frame _, fun h => by cases h⟩
  · rw [hrt, hs]
    exact ⟨[], [], ⟨1, by simp [DataW.trod, hbt, Value.cells]⟩, rfl, rfl⟩
  · rw [hs]
    exact trodAll_below hl hb hr hA fun x hx => by simpa using hlt x (List.mem_append_left _ hx)
  · rw [hs, hv]; rfl
end
end Go.Proofs.Ytigmpdhnhkdeiaa
/- What grows, lent to a call that only reads it. -/
namespace Go.Proofs.Ytigmpdhnhkdeiaa
open Go Go.RowKit
section
variable {P : Program} {τ : Tab} {w0 w : World} {N : Gh} {g gS : Gh} {st st' sq sq' : St} {nt : Nat} {a : Act}
/-- What was known under a guard that is known to hold, is known. -/
def gdEq (t : Nat) : Bool → Gd → Bool
  | true, some (k, true) => k == t
  | false, some (k, false) => k == t
  | _, _ => false
theorem gdEq_ok {t : Nat} {b : Bool} {c : Gd} (h : gdEq t b c = true) : c = some (t, b) := by
  unfold gdEq at h
  split at h
  · rw [beq_iff_eq.1 h]
  · rw [beq_iff_eq.1 h]
  · cases h
def unG (t : Nat) (b : Bool) : List (Nat × Gd × AV) → List (Nat × Gd × AV)
  | [] => []
  | (k, c, x) :: l => (k, bif gdEq t b c then none else c, x) :: unG t b l
theorem unG_mem {t : Nat} {b : Bool} {p : Nat × Gd × AV} : ∀ {l : List (Nat × Gd × AV)}, p ∈ unG t b l → ∃ q ∈ l, p = (q.1, bif gdEq t b q.2.1 then none else q.2.1, q.2.2)
  | (k, c, x) :: l, h => by
    rcases List.mem_cons.1 h with h | h
    · exact ⟨_, List.mem_cons_self, h⟩
    · obtain ⟨q, hq, e⟩ := unG_mem h
      exact ⟨q, List.mem_cons_of_mem _ hq, e⟩
theorem FR.unG (hF : FR g nt st a) {t : Nat} {b : Bool} (h : a.tmps.getD t undef = .bool b) : FR g nt ⟨unG t b st.t, st.bx, st.fz, st.rw⟩ a := by
  refine ⟨hF.sz, hF.df, fun p hp hg => ?_, fun p hp hg => ?_⟩
  · obtain ⟨q, hq, rfl⟩ := unG_mem hp
    cases e : gdEq t b q.2.1 with
    | true => exact hF.t q hq (by rw [gdEq_ok e]; exact h)
    | false => exact hF.t q hq (by simpa [e] using hg)
  · obtain ⟨q, hq, rfl⟩ := unG_mem hp
    cases e : gdEq t b q.2.1 with
    | true => exact absurd (by rw [e]; exact trivial) hg
    | false => exact hF.u q hq (by simpa [e] using hg)
theorem v_known (H : Rel P w0 N nt st a w) (t : Nat) (b : Bool) (hk : st.tmp none t = .v (.bool b)) : Rel P w0 N nt ⟨unG t b st.t, st.bx, st.fz, st.rw⟩ a w := by
  obtain ⟨g, HI, hF⟩ := H
  have h1 := tmp_sound hF (c := none) trivial t
  rw [hk] at h1
  exact ⟨g, HI, hF.unG h1.v_inv⟩
theorem v_knownT (H : RelT P w0 N nt gS sq st a w) (t : Nat) (b : Bool) (hk : st.tmp none t = .v (.bool b)) : RelT P w0 N nt gS sq ⟨unG t b st.t, st.bx, st.fz, st.rw⟩ a w := by
  obtain ⟨hM, hrw, hFq, hBq, g, HI, hF, hle, hbs⟩ := H
  have h1 := tmp_sound hF (c := none) trivial t
  rw [hk] at h1
  exact ⟨hM, hrw, hFq, hBq, g, HI, hF.unG h1.v_inv, hle, hbs⟩
/-- A guard that is known to hold, in a region that draws. -/
theorem v_guardT {ops : Array Oper} {Q : Exit → Act → World → Prop} {L A : List Nat} {i : Nat} {rest : List Oper} {o : Oper} {t : Nat} {b : Bool} (H : RelT P w0 N nt gS sq st a w) (hL : L.contains i = true) (hgd : gdOf ops o = some (some (t, b))) (hk : st.tmp none t = .v (.bool b))
    (h : wpT P ops Q (Mem gS) L A ({ o with guard := none } :: rest) i a w) : wpT P ops Q (Mem gS) L A (o :: rest) i a w := by
  obtain ⟨hM, hrw, hFq, hBq, g, HI, hF, hle, hbs⟩ := H
  have h1 := tmp_sound hF (c := none) trivial t
  rw [hk] at h1
  have hw : Region.wanted o (yielded ops a.tmps) = true := (gdOf_wanted hgd).2 h1.v_inv
  obtain ⟨dst, op, ty, pos, after, gd⟩ := o
  unfold wpT at h ⊢
  rw [if_pos hw, if_pos hL]
  rw [if_pos (by simp [Region.wanted]), if_pos hL] at h
  exact h
end
section
variable {P : Program} {τ : Tab} {w0 w : World} {N : Gh} {g gS : Gh} {st st' sq sq' : St} {nt : Nat} {a : Act} {r : AV} {cd : Prop}
end
end Go.Proofs.Ytigmpdhnhkdeiaa
/- The statements' kit: do lists share memory? -/
namespace Go.Proofs.Ytigmpdhnhkdeiaa
open Go Go.RowKit
attribute [local irreducible] wpT
/-- A slice, in its three parts. -/
abbrev SV := Option Addr × Nat × Nat
abbrev SV.v (x : SV) : Value := .slice x.1 x.2.1 x.2.2
theorem madeCells_row (z : Value) (n : Nat) : madeCells #[z] n = (List.replicate n z).toArray := by
  apply Array.ext
  · simp [madeCells]
  · intro i h1 h2; simp [madeCells, Nat.mod_one]
theorem own_same {α : Type} {E : El α} {a b : World} {base base' g : Nat} {v : Value} {xs sp : List α} (h : Own E a base v xs sp) (h' : Own E b base' v xs sp) (hg : v.ownBlock = some g) : b.heap[g]? = a.heap[g]? := by
  rcases h with ⟨rfl, _⟩ | ⟨g1, _, rfl, h1, _⟩
  · simp [Value.ownBlock] at hg
  · simp [Value.ownBlock] at hg; subst hg
    rcases h' with ⟨hv, _⟩ | ⟨g2, _, hv, h2, _⟩
    · cases hv
    · injection hv with e; injection e with e; injection e with e; subst e; exact h2.trans h1.symm
/-- A row, and what the list that names it says of it. -/
abbrev ARow := SV × List UInt8 × List UInt8 × TypeId
abbrev ARow.str (x : ARow) : Value := .string (strOf (x.2.1 ++ x.2.2.1))
/-- Rows that do not share memory. -/
structure Apart (w : World) (base : Nat) (L : List ARow) : Prop where
  own : ∀ i (hi : i < L.length), Own (byteT L[i].2.2.2) w base L[i].1.v L[i].2.1 L[i].2.2.1
  ne : ∀ i j (hi : i < L.length) (hj : j < L.length), i ≠ j → L[i].1.v.ownBlock = none ∨ L[i].1.v.ownBlock ≠ L[j].1.v.ownBlock
theorem Apart.below {w w' : World} {base : Nat} {L : List ARow} (h : Apart w base L) (hb : Below w.heap.size w w') : Apart w' base L :=
  ⟨fun i hi => (h.own i hi).belowSize hb, h.ne⟩
/-- The row is no list of slices. -/
theorem own_not {t : TypeId} {w : World} {base g i : Nat} {v : Value} {xs sp : List UInt8} (h : Own (byteT t) w base v xs sp) {x : SV} (hc : w.cell? ⟨g, i, none⟩ = some x.v) : v.ownBlock ≠ some g := by
  intro e
  rcases h with ⟨rfl, _⟩ | ⟨g1, _, rfl, h1, _⟩
  · simp [Value.ownBlock] at e
  · simp [Value.ownBlock] at e; subst e
    rw [h1.cell, byteT_all, List.getElem?_toArray, List.getElem?_map] at hc
    obtain ⟨a, _, ha⟩ := Option.map_eq_some_iff.1 hc; cases ha
/-- The whole row as a string: what the code's 'string(x[:cap(x)])' reads. -/
theorem own_str {w : World} {base : Nat} {x : ARow} (h : Own (byteT x.2.2.2) w base x.1.v x.2.1 x.2.2.1) : ∃ A m c, x.1.v = .slice A m c ∧ m ≤ c ∧ c ≤ maxLen ∧ (A = none → c = 0 ∧ m = 0) ∧
    ∀ W : World, Own (byteT x.2.2.2) W base x.1.v x.2.1 x.2.2.1 → (convert 26 9 (.slice A c c)).run Try.prog W = .ok x.str W := by
  rcases h with ⟨hv, h2, h3⟩ | ⟨g1, _, hv, h1, h2⟩
  · refine ⟨none, 0, 0, hv, Nat.le_refl _, by simp [maxLen], fun _ => ⟨rfl, rfl⟩, fun W _ => ?_⟩
    unfold ARow.str; rw [h2, h3]
    exact run_str (Rd.nil W 0 none) 0 0 rfl
  · refine ⟨_, _, _, hv, by omega, h2, fun e => (by cases e), fun W hW => ?_⟩
    refine run_str (B := W.heap.size) ?_ _ _ (by rw [List.length_append])
    rw [hv] at hW
    have hb := own_byteT hW
    exact Rd.of_blk hb hb.lt 0 fun j u hu => by rw [byteE_all] at hu; rw [Nat.zero_add]; simpa using hu
set_option maxRecDepth 100000 in
set_option maxHeartbeats 1600000 in
theorem apart_any (L : List ARow) (g o c base : Nat) (w : World) (hS : ∀ i (hi : i < L.length), w.cell? ⟨g, o + i, none⟩ = some L[i].1.v) (hg : g < w.heap.size) (hP : Apart w base L) (h0 : 0 < L.length) (hl : L.length ≤ 1099511627776) :
    Calls Try.prog 23 #[.slice (some ⟨g, o, none⟩) L.length c] w fun e w' => e = .returned (.bool true) ∧ Below w.heap.size w w' := by
  obtain ⟨n, hn⟩ : ∃ n, L.length = n := ⟨_, rfl⟩
  have km := fun W : World => run_make_row' (P := Try.prog) 189 9 (.string ⟨#[]⟩) 16 Try.underlying189 (by kernel_rfl) rfl .i64 .i64 n (by omega) (by omega) W
  have hgne : ∀ i (hi : i < L.length), L[i].1.v.ownBlock ≠ some g := fun i hi => own_not (hP.own i hi) (hS i hi)
  have HP := Lib.hid hP; have HS := Lib.hid hS; have HG := Lib.hid hgne; clear hP hS hgne
  rw [hn] at h0 hl ⊢
  have HN := Lib.hid hn; clear hn
  go_enter Try.func23, Try.ntmps23
  go_wp2
  go_loopw [3] (fun v wr => ∃ i : Nat, i ≤ n ∧ v = .int .i64 (i : Int) ∧ Below w.heap.size w wr) (fun v _ => n - (intOf v).toNat)
  case atStart => exact ⟨0, by omega, rfl, Below.refl _ _⟩
  case round =>
    obtain ⟨i, hi, rfl, hb⟩ := hrel
    obtain ⟨wo, rfl⟩ : ∃ wo : World, wo = wr := ⟨_, rfl⟩
    have HB := Lib.hid hb; clear hb
    by_cases hlt : i < n
    · have hiL : i < L.length := by rw [HN.out]; exact hlt
      have hw0 : w.heap.size ≤ wo.heap.size := HB.out.size
      have PO := Lib.hid (HP.out.below HB.out)
      have SO : Hid (∀ j (hj : j < L.length), wo.cell? ⟨g, o + j, none⟩ = some L[j].1.v) := fun j hj => (World.cell?_of_block (a := ⟨g, o + j, none⟩) (HB.out.block g hg)).trans (HS.out j hj)
      obtain ⟨Ai, mi, ci, hvi, -, -, -, -⟩ := own_str (PO.out.own i hiL)
      have HVI := Lib.hid hvi; clear hvi
      go_wp2
      rw [madeCells_row]
      have B0 : Hid (Blk (wo.alloc (Obj.cells (List.replicate n (Value.string ⟨#[]⟩)).toArray 9)) wo.heap.size 9 (List.replicate n (Value.string ⟨#[]⟩)).toArray) := Blk.new _ _ _
      have L0 := Lib.hid ((Below.refl wo.heap.size wo).alloc (Nat.le_refl _) (Obj.cells (List.replicate n (Value.string ⟨#[]⟩)).toArray 9))
      go_loopw [5] (fun v wr => ∃ k : Nat, k ≤ n ∧ v = .int .i64 (k : Int) ∧ Blk wr wo.heap.size 9 ((L.take k).map ARow.str ++ List.replicate (n - k) (Value.string ⟨#[]⟩)).toArray ∧ Below wo.heap.size wo wr) (fun v _ => n - (intOf v).toNat)
      case atStart => exact ⟨0, by omega, rfl, by simpa using B0.out, L0.out⟩
      case round =>
        clear B0 L0
        obtain ⟨k, hk, rfl, b1, b2⟩ := hrel
        have B1 := Lib.hid b1; have B2 := Lib.hid b2; clear b1 b2
        by_cases hlt2 : k < n
        · have hkL : k < L.length := by rw [HN.out]; exact hlt2
          obtain ⟨Ak, mk, ck, hvk, hm1, hm2, hm3, hsk⟩ := own_str ((PO.out.below B2.out).own k hkL)
          have k1 := hsk wr.drew ((PO.out.below B2.out).own k hkL)
          have c1 : wr.cell? ⟨g, o + k, none⟩ = some (.slice Ak mk ck) := by rw [← hvk]; exact (World.cell?_of_block (a := ⟨g, o + k, none⟩) (B2.out.block g (by omega))).trans (SO.out k hkL)
          have ht : ((L.take k).map ARow.str).length = k := by rw [List.length_map, List.length_take]; omega
          have c2 : wr.cell? ⟨wo.heap.size, k, none⟩ = some (Value.string ⟨#[]⟩) := by
            rw [B1.out.cell, List.getElem?_toArray, List.getElem?_append_right (by omega), ht, Nat.sub_self]
            rw [List.getElem?_replicate, if_pos (by omega)]
          have c3 := B1.out.free k
          have hn2 : Blk (wr.drew.setCell ⟨wo.heap.size, k, none⟩ L[k].str) wo.heap.size 9 ((L.take (k + 1)).map ARow.str ++ List.replicate (n - (k + 1)) (Value.string ⟨#[]⟩)).toArray := by
            have := B1.out.drew.put k L[k].str
            have e : ((L.take k).map ARow.str ++ List.replicate (n - k) (Value.string ⟨#[]⟩)).toArray.setIfInBounds k L[k].str = ((L.take (k + 1)).map ARow.str ++ List.replicate (n - (k + 1)) (Value.string ⟨#[]⟩)).toArray := by
              apply Array.toList_inj.1
              rw [Array.toList_setIfInBounds, List.take_succ_eq_append_getElem hkL]
              simp only [List.map_append, List.map_cons, List.map_nil]
              rw [List.set_append_right _ _ (by rw [ht]; exact Nat.le_refl _), ht, Nat.sub_self, show n - k = (n - (k + 1)) + 1 by omega, List.replicate_succ]
              simp
            rw [e] at this; exact this
          have N2 := Lib.hid hn2
          have N3 := Lib.hid (below_putAt (B2.out.drew) (b := wo.heap.size) (i := k) (Nat.le_refl _) L[k].str)
          unfold ARow.str at k1
          have e1 : L[k].str = .string (strOf (L[k].2.1 ++ L[k].2.2.1)) := rfl
          rw [e1] at N2 N3
          generalize L[k].2.1 ++ L[k].2.2.1 = bs at k1 N2 N3 e1
          clear hn2 hvk hsk e1 ht
          cases Ak with
          | none =>
            obtain ⟨rfl, rfl⟩ := hm3 rfl
            go_wp2
            refine wp_region_T [14] [] (fun _ => True) (by kernel_rfl) (by kernel_rfl) trivial ?_
            repeat (first
              | (refine wpT_skip (by rfl) ?_; go_simp)
              | (refine wpT_here (by rfl) (by rfl) (by rfl) (fun K hK => ?_); go_big_quiet_op; refine hK _ ?_; clear hK K)
              | (refine wpT_loud (by rfl) (by rfl) (fun K hK => ?_); go_big_op; refine hK _ _ trivial ?_; clear hK K))
            refine wpT_nil ?_
            go_wp2
            go_roundw
            case rel => exact ⟨k + 1, by omega, by go_num, N2.out, N3.out⟩
            case measure => simp [intOf]; omega
          | some a =>
            go_wp2
            refine wp_region_T [14] [] (fun _ => True) (by kernel_rfl) (by kernel_rfl) trivial ?_
            repeat (first
              | (refine wpT_skip (by rfl) ?_; go_simp)
              | (refine wpT_here (by rfl) (by rfl) (by rfl) (fun K hK => ?_); go_big_quiet_op; refine hK _ ?_; clear hK K)
              | (refine wpT_loud (by rfl) (by rfl) (fun K hK => ?_); go_big_op; refine hK _ _ trivial ?_; clear hK K))
            refine wpT_nil ?_
            go_wp2
            go_roundw
            case rel => exact ⟨k + 1, by omega, by go_num, N2.out, N3.out⟩
            case measure => simp [intOf]; omega
        · obtain rfl : k = n := by omega
          have c1 : wr.cell? ⟨g, o + i, none⟩ = some (.slice Ai mi ci) := by rw [← HVI.out]; exact (World.cell?_of_block (a := ⟨g, o + i, none⟩) (B2.out.block g (by omega))).trans (SO.out i hiL)
          have o1 := (PO.out.below B2.out).own i hiL
          rw [HVI.out] at o1
          have O1 := Lib.hid o1; clear o1
          go_wp2_with (go_at_call 109; refine (over_any _ _ _ _ _ O1.out).mono ?_; rintro e w1 ⟨rfl, hO1, hg1⟩; have O2 := Lib.hid hO1; have G1 := Lib.hid hg1; clear hO1 hg1; dsimp only)
          obtain ⟨wp, rfl⟩ : ∃ wp : World, wp = wr := ⟨_, rfl⟩
          have hlo : ∀ r, (Value.slice Ai mi ci).ownBlock = some r → r < wo.heap.size := fun r hr => by
            have := (PO.out.own i hiL).lt (g := r) (by rw [HVI.out]; exact hr); exact this.2
          have b1 : Blk w1 wo.heap.size 9 (L.map ARow.str).toArray := by
            have := (B1.out.grown G1.out fun e => by have := hlo _ e.symm; omega)
            rw [List.take_of_length_le (by rw [HN.out]; exact Nat.le_refl _), Nat.sub_self, List.replicate_zero, List.append_nil] at this; exact this
          have hsz : wo.heap.size ≤ wp.heap.size := B2.out.size
          have hsz1 : wp.heap.size ≤ w1.heap.size := G1.out.size
          have hgi : (Value.slice Ai mi ci).ownBlock ≠ some g := by have := HG.out i hiL; rw [HVI.out] at this; exact this
          have cell1 : ∀ j (hj : j < L.length), w1.cell? ⟨g, o + j, none⟩ = some L[j].1.v := fun j hj =>
            (World.cell?_of_block (a := ⟨g, o + j, none⟩) (G1.out.block g (by omega) (fun e => hgi e.symm))).trans ((World.cell?_of_block (a := ⟨g, o + j, none⟩) (B2.out.block g (by omega))).trans (SO.out j hj))
          have C1 := Lib.hid cell1; have S1 := Lib.hid b1; clear cell1 b1
          have own1 : ∀ j (hj : j < L.length), j ≠ i → Own (byteT L[j].2.2.2) w1 base L[j].1.v L[j].2.1 L[j].2.2.1 := fun j hj hne => by
            refine ((PO.out.below B2.out).own j hj).grown G1.out ?_
            rcases HP.out.ne j i hj hiL hne with h | h
            · exact .inl h
            · exact .inr (by rw [HVI.out] at h; exact h)
          have W1 := Lib.hid own1; clear own1
          clear c1 B1
          go_loopw [6] (fun v wr => ∃ q : Nat, q ≤ k ∧ v = .int .i64 (q : Int) ∧ Below w1.heap.size w1 wr) (fun v _ => k - (intOf v).toNat)
          case atStart => exact ⟨0, by omega, rfl, Below.refl _ _⟩
          case round =>
            obtain ⟨q, hq, rfl, b2⟩ := hrel
            have B3 := Lib.hid b2; clear b2
            by_cases hlt3 : q < k
            · by_cases hqi : q = i
              · subst hqi
                go_wp2
                refine wp_region_T [] [] (fun _ => True) (by kernel_rfl) (by kernel_rfl) trivial ?_
                repeat (first
                  | (refine wpT_skip (by rfl) ?_; go_simp)
                  | (refine wpT_here (by rfl) (by rfl) (by rfl) (fun K hK => ?_); go_big_quiet_op; refine hK _ ?_; clear hK K)
                  | (refine wpT_loud (by rfl) (by rfl) (fun K hK => ?_); go_big_op; refine hK _ _ trivial ?_; clear hK K))
                refine wpT_nil ?_
                go_wp2
                go_roundw
                case rel => exact ⟨q + 1, by omega, by go_num, B3.out.drew⟩
                case measure => simp [intOf]; omega
              · have hqL : q < L.length := by rw [HN.out]; exact hlt3
                have oq := (W1.out q hqL hqi).belowSize B3.out
                obtain ⟨Ak, mk, ck, hvk, hm1, hm2, hm3, hsk⟩ := own_str oq
                have k1 := hsk wr.drew oq
                have c1 : wr.cell? ⟨g, o + q, none⟩ = some (.slice Ak mk ck) := by rw [← hvk]; exact (World.cell?_of_block (a := ⟨g, o + q, none⟩) (B3.out.block g (by omega))).trans (C1.out q hqL)
                have c2 : wr.cell? ⟨wo.heap.size, q, none⟩ = some L[q].str := by
                  rw [(S1.out.below B3.out S1.out.lt).cell, List.getElem?_toArray, List.getElem?_map, List.getElem?_eq_getElem hqL]; rfl
                have hne : ((q : Int) != (i : Int)) = true := by simp; omega
                unfold ARow.str at k1 c2
                generalize strOf (L[q].2.1 ++ L[q].2.2.1) = bs at k1 c2
                clear oq hvk hsk
                cases Ak with
                | none =>
                  obtain ⟨rfl, rfl⟩ := hm3 rfl
                  go_wp2
                  refine wp_region_T [] [] (fun _ => True) (by kernel_rfl) (by kernel_rfl) trivial ?_
                  repeat (first
                    | (refine wpT_skip (by rfl) ?_; go_simp)
                    | (refine wpT_here (by rfl) (by rfl) (by rfl) (fun K hK => ?_); go_big_quiet_op; refine hK _ ?_; clear hK K)
                    | (refine wpT_loud (by rfl) (by rfl) (fun K hK => ?_); go_big_op; refine hK _ _ trivial ?_; clear hK K))
                  refine wpT_nil ?_
                  go_wp2
                  go_roundw
                  case rel => exact ⟨q + 1, by omega, by go_num, B3.out.drew⟩
                  case measure => simp [intOf]; omega
                | some a =>
                  go_wp2
                  refine wp_region_T [] [] (fun _ => True) (by kernel_rfl) (by kernel_rfl) trivial ?_
                  repeat (first
                    | (refine wpT_skip (by rfl) ?_; go_simp)
                    | (refine wpT_here (by rfl) (by rfl) (by rfl) (fun K hK => ?_); go_big_quiet_op; refine hK _ ?_; clear hK K)
                    | (refine wpT_loud (by rfl) (by rfl) (fun K hK => ?_); go_big_op; refine hK _ _ trivial ?_; clear hK K))
                  refine wpT_nil ?_
                  go_wp2
                  go_roundw
                  case rel => exact ⟨q + 1, by omega, by go_num, B3.out.drew⟩
                  case measure => simp [intOf]; omega
            · obtain rfl : q = k := by omega
              have c1 : wr.cell? ⟨g, o + i, none⟩ = some (.slice Ai mi ci) := by rw [← HVI.out]; exact (World.cell?_of_block (a := ⟨g, o + i, none⟩) (B3.out.block g (by omega))).trans (C1.out i hiL)
              have O3 := Lib.hid (O2.out.belowSize B3.out)
              have hsz2 : w1.heap.size ≤ wr.heap.size := B3.out.size
              go_wp2_with (go_at_call 109; refine (over_any _ _ _ _ _ O3.out).mono ?_; rintro e w4 ⟨rfl, hO4, hg4⟩; have O4 := Lib.hid hO4; have G4 := Lib.hid hg4; clear hO4 hg4; dsimp only)
              go_roundw
              case rel =>
                refine ⟨i + 1, by omega, by go_num, ?_⟩
                have o4 := O4.out
                rw [map_over_over, map_over_over] at o4
                refine ⟨?_, ?_, ?_, ?_, ?_⟩
                · rw [G4.out.os, B3.out.os, G1.out.os, B2.out.os, HB.out.os]
                · rw [G4.out.tape, B3.out.tape, G1.out.tape, B2.out.tape, HB.out.tape]
                · rw [G4.out.output, B3.out.output, G1.out.output, B2.out.output, HB.out.output]
                · have := G4.out.size; omega
                · intro r hr
                  by_cases hri : (Value.slice Ai mi ci).ownBlock = some r
                  · rw [own_same O1.out o4 hri, B2.out.block r (by omega), HB.out.block r hr]
                  · rw [G4.out.block r (by omega) (fun e => hri e.symm), B3.out.block r (by omega), G1.out.block r (by omega) (fun e => hri e.symm), B2.out.block r (by omega), HB.out.block r hr]
              case measure => simp [intOf]; omega
    · obtain rfl : i = n := by omega
      go_wp2
      go_ret
      exact ⟨rfl, HB.out⟩
end Go.Proofs.Ytigmpdhnhkdeiaa
/- ApartBytes of slices that own their memory, written out where they are asked about; guards that are known to hold. -/
namespace Go.Proofs.Ytigmpdhnhkdeiaa
open Go Go.RowKit
section
variable {P : Program} {τ : Tab} {w0 w : World} {N : Gh} {g gS : Gh} {st st' sq sq' : St} {nt : Nat} {a : Act}
theorem zero_u8 : zeroOf Try.prog 5 = [.int .u8 0] := by kernel_rfl
theorem flat_z (m : Nat) : (List.replicate m [Value.int .u8 0]).flatten = (List.replicate m (0 : UInt8)).map B8 := by
  induction m with
  | zero => rfl
  | succ m ih => rw [List.replicate_succ, List.flatten_cons, ih, List.replicate_succ]; rfl
end
end Go.Proofs.Ytigmpdhnhkdeiaa
/- Rows that no frame owns: lists of bytes, each with memory of its own; contracts that hand them out. -/
namespace Go.Proofs.Ytigmpdhnhkdeiaa
open Go Go.RowKit
/-- A slice on its own: its block, its length and room, the block's cells; the first k of them stay as they are. -/
structure XR where
  A : Option Nat
  n : Nat
  c : Nat
  tid : TypeId
  cells : List Value
  k : Nat
def XR.v (x : XR) : Value := .slice (x.A.map fun b => ⟨b, 0, none⟩) x.n x.c
theorem XR.own (x : XR) : x.v.ownBlock = x.A := by unfold XR.v; cases x.A <;> rfl
structure XOk (lo : Nat) (g : Gh) (w : World) (x : XR) : Prop where
  le : x.n ≤ x.c ∧ x.c ≤ maxLen
  nil : x.A = none → x.c = 0
  own : ∀ b, x.A = some b → ¬ g.has b ∧ lo ≤ b ∧ Blk w b x.tid x.cells.toArray ∧ ∀ o u, o < x.k → x.cells[o]? = some u → g.ro b o = some u
theorem XOk.lt {lo : Nat} {g : Gh} {w : World} {x : XR} (h : XOk lo g w x) {b : Nat} (hb : x.A = some b) : b < w.heap.size := (h.own b hb).2.2.1.lt
def XApart (X : List XR) : Prop := X.Pairwise fun x y => x.A = none ∨ x.A ≠ y.A
structure Xs (lo : Nat) (g : Gh) (w : World) (X : List XR) : Prop where
  ok : ∀ x ∈ X, XOk lo g w x
  un : XApart X
/-- As Fr, but for blocks from lo on. -/
structure FrX (lo : Nat) (w0 : World) (N g : Gh) (w : World) : Prop where
  os : w.os = w0.os
  tape : w.tape = w0.tape
  output : w.output = w0.output
  size : w0.heap.size ≤ w.heap.size
  block : ∀ k, k < w0.heap.size → k < lo → ¬ N.has k → w.heap[k]? = w0.heap[k]?
  bx : ∀ (i : Nat) (x : Bx), g.bx[i]? = some x → x.off = false → w0.heap.size ≤ x.blk ∨ ∃ y, N.bx[i]? = some y ∧ y.off = false ∧ y.blk = x.blk
  rw : ∀ (i : Nat) (r : Rw) (k : Nat), g.rw[i]? = some r → r.v.ownBlock = some k → w0.heap.size ≤ k ∨ ∃ s, N.rw[i]? = some s ∧ s.v.ownBlock = some k
  ro : ∀ b, b < w0.heap.size → b < lo → ¬ N.has b → ∀ o, g.ro b o = N.ro b o
  le : N.le g
section
variable {P : Program} {τ : Tab} {w0 w w1 w2 : World} {N N1 N2 : Gh} {g g1 gS : Gh} {st st' sq sq' : St} {nt : Nat} {a : Act} {lo : Nat} {X Y : List XR}
theorem FrX.of (h : Fr w0 N g w) (lo : Nat) : FrX lo w0 N g w := ⟨h.kept.os, h.kept.tape, h.kept.output, h.kept.size, fun k hk _ hn => h.kept.block k hk hn, h.bx, h.rw, fun b hb _ hn => h.ro b hb hn, h.le⟩
theorem FrX.fr (h : FrX lo w0 N g w) (hlo : w0.heap.size ≤ lo) : Fr w0 N g w := ⟨⟨h.os, h.tape, h.output, h.size, fun k hk hn => h.block k hk (by omega) hn⟩, h.bx, h.rw, fun b hb hn => h.ro b hb (by omega) hn, h.le⟩
theorem FrX.back (h : FrX lo w0 N g w) {b : Nat} (hb : b < w0.heap.size) (hh : g.has b) : N.has b := by
  rcases hh with ⟨y, hy, hyo, he⟩ | ⟨s, hr, he⟩
  · obtain ⟨i, hi⟩ := List.getElem?_of_mem hy
    rcases h.bx i y hi hyo with h3 | ⟨z, h3, h4, h5⟩
    · omega
    · exact .inl ⟨z, List.mem_of_getElem? h3, h4, h5.trans he⟩
  · obtain ⟨i, hi⟩ := List.getElem?_of_mem hr
    rcases h.rw i s b hi he with h3 | ⟨z, h3, h4⟩
    · omega
    · exact .inr ⟨z, List.mem_of_getElem? h3, h4⟩
theorem FrX.trans (h : FrX lo w0 N N1 w1) (k : FrX lo w1 N1 g w) : FrX lo w0 N g w := by
  have hs := h.size
  refine ⟨k.os.trans h.os, k.tape.trans h.tape, k.output.trans h.output, Nat.le_trans h.size k.size, fun b hb hl hn => (k.block b (by omega) hl (fun hh => hn (h.back hb hh))).trans (h.block b hb hl hn), fun i x hx hxo => ?_, fun i r b hr hrb => ?_, fun b hb hl hn o => (k.ro b (by omega) hl (fun hh => hn (h.back hb hh)) o).trans (h.ro b hb hl hn o), h.le.trans k.le⟩
  · rcases k.bx i x hx hxo with h1 | ⟨y, h1, h2, h3⟩
    · exact .inl (by omega)
    · rw [← h3]; exact h.bx i y h1 h2
  · rcases k.rw i r b hr hrb with h1 | ⟨s, h1, h2⟩
    · exact .inl (by omega)
    · exact h.rw i s b h1 h2
theorem Inv.self {bx : List (Ty × AV)} {fz : List Nat} {rw : List (TypeId × Nat)} (HI : Inv P w0 N g bx fz rw w) : Inv P w g g bx fz rw w :=
  ⟨HI.mem, ⟨Kept.refl _ _, fun i x hx hxo => .inr ⟨x, hx, hxo, rfl⟩, fun i r k hr hrk => .inr ⟨r, hr, hrk⟩, fun _ _ _ _ => rfl, Gh.le.refl _⟩, HI.br, HI.fz, HI.wr, HI.wz⟩
theorem XOk.step {x : XR} (h : XOk lo N1 w1 x) {bx : List (Ty × AV)} {fz : List Nat} {rw : List (TypeId × Nat)} (HI : Inv P w1 N1 g bx fz rw w) : XOk lo g w x := by
  have hB := FrX.of HI.fr w1.heap.size
  refine ⟨h.le, h.nil, fun b hb => ?_⟩
  obtain ⟨h1, h2, h3, h4⟩ := h.own b hb
  exact ⟨fun hh => h1 (hB.back h3.lt hh), h2, h3.kept HI.fr.kept h1, fun o u ho hu => HI.fr.le.ro _ _ _ (h4 o u ho hu)⟩
theorem Xs.step (h : Xs lo N1 w1 X) {bx : List (Ty × AV)} {fz : List Nat} {rw : List (TypeId × Nat)} (HI : Inv P w1 N1 g bx fz rw w) : Xs lo g w X := ⟨fun x hx => (h.ok x hx).step HI, h.un⟩
/-- A frame, and rows on their own. -/
def RelX (lo : Nat) (P : Program) (w0 : World) (N : Gh) (nt : Nat) (st : St) (X : List XR) (a : Act) (w : World) : Prop :=
  ∃ g, Inv P w g g st.bx st.fz st.rw w ∧ FrX lo w0 N g w ∧ FR g nt st a ∧ Xs lo g w X
theorem Rel.toX (H : Rel P w0 N nt st a w) (lo : Nat) : RelX lo P w0 N nt st [] a w := by
  obtain ⟨g, HI, hF⟩ := H
  exact ⟨g, HI.self, .of HI.fr lo, hF, ⟨fun x hx => (by cases hx), List.Pairwise.nil⟩⟩
theorem RelX.open_ (H : RelX lo P w0 N nt st X a w) : ∃ N1, FrX lo w0 N N1 w ∧ Xs lo N1 w X ∧ Rel P w N1 nt st a w ∧ N1.bx.length = st.bx.length ∧ N1.rw.length = st.rw.length := by
  obtain ⟨g, HI, hB, hF, hX⟩ := H
  exact ⟨g, hB, hX, ⟨g, HI, hF⟩, HI.br.len, by rw [← HI.wr, List.length_map]⟩
theorem RelX.close (hB : FrX lo w0 N N1 w1) (hX : Xs lo N1 w1 X) (H : Rel P w1 N1 nt st a w) : RelX lo P w0 N nt st X a w := by
  obtain ⟨g, HI, hF⟩ := H
  exact ⟨g, HI.self, hB.trans (.of HI.fr lo), hF, hX.step HI⟩
theorem RelX.cast (H : RelX lo P w0 N nt st X a w) (h : st = st') : RelX lo P w0 N nt st' X a w := h ▸ H
theorem RelX.eq (H : RelX lo P w0 N nt st X a w) (h : X = Y) : RelX lo P w0 N nt st Y a w := h ▸ H
/-- Bytes that are the last row's become a row on its own. -/
theorem v_pub0 (HI : Inv P w g g st.bx st.fz st.rw w) (hB : FrX lo w0 N g w) (hF : FR g nt st a) (hX : Xs lo g w X) (hlo : lo ≤ w0.heap.size) (ks : List Nat) (d k e : Nat) {l : List UInt8} (hk : st.rw.length = k + 1) (hNk : N.rw.length ≤ k) (hd : find d st.t = some (none, .bs l (some k))) (hrow : st.rw[k]? = some (e, l.length))
    (h1 : keepT ks st.bx.length k st.t = true) (h2 : (st.bx.take st.bx.length).all (fun x => low st.bx.length k 4 x.2) = true) :
    ∃ x : XR, (x.n = l.length ∧ x.tid = e ∧ x.k = l.length ∧ ∃ m, x.c = l.length + m ∧ x.cells = l.map B8 ++ (List.replicate m (zeroOf P e)).flatten) ∧ Inv P w (g.cut st.bx.length k) (g.cut st.bx.length k) (st.bx.take st.bx.length) (st.fz) (st.rw.take k) w ∧ FrX lo w0 N (g.cut st.bx.length k) w ∧ FR (g.cut st.bx.length k) nt ⟨(d, none, .v x.v) :: st.t.filter (fun p => ks.contains p.1), st.bx.take st.bx.length, st.fz, st.rw.take k⟩ a ∧ Xs lo (g.cut st.bx.length k) w (X ++ [x]) := by
  have hgl : g.rw.length = k + 1 := by rw [← hk, ← HI.wr, List.length_map]
  have hbs := (hF.t _ (find_mem hd) trivial).bs_inv
  have hv0 : a.tmps.getD d undef = a.tmps.getD d undef := rfl
  generalize hvd : a.tmps.getD d undef = vd at hbs
  cases hbs with
  | @bs _ _ _ A c hc hm hr ht =>
    obtain ⟨r, hrk, _, h3⟩ := ht k rfl
    have hw : (r.tid, r.n) = (e, l.length) := by
      have := HI.wr
      rw [← this, List.getElem?_map, hrk] at hrow
      injection hrow
    simp only [Prod.mk.injEq] at hw
    obtain ⟨hv, hcx⟩ := h3 hw.2
    have hcut := HI.loose.cut (nb := st.bx.length) (nr := k) (Nat.zero_le _) (Nat.zero_le _) h2
    have hbx : ∀ {i : Nat} {x : Bx}, (g.cut st.bx.length k).bx[i]? = some x → g.bx[i]? = some x := fun {i x} hx => by
      have : (g.bx.take st.bx.length)[i]? = some x := hx
      rw [List.getElem?_take] at this; split at this; exact this; cases this
    have hrw : ∀ {i : Nat} {x : Rw}, (g.cut st.bx.length k).rw[i]? = some x → i < k ∧ g.rw[i]? = some x := fun {i x} hx => by
      have : (g.rw.take k)[i]? = some x := hx
      rw [List.getElem?_take] at this; split at this; exact ⟨by assumption, this⟩; cases this
    have hhas : ∀ b, (g.cut st.bx.length k).has b → g.has b := fun b hh => by
      rcases hh with ⟨y, hy, h⟩ | ⟨s, hs, h⟩
      · exact .inl ⟨y, List.mem_of_mem_take hy, h⟩
      · exact .inr ⟨s, List.mem_of_mem_take hs, h⟩
    have hrow1 := HI.mem.rw k r hrk
    have hz := (HI.wz r (List.mem_of_getElem? hrk)).2
    have hxv : (⟨r.v.ownBlock, r.n, c, r.tid, r.cx ++ noughts r, l.length⟩ : XR).v = r.v := by
      rcases hrow1.at_ with ⟨q1, q2, q3⟩ | ⟨b, q1, q2, q3⟩
      · rw [q1] at hv; injection hv with _ hv1 hv2
        unfold XR.v; rw [q1, q2, ← hv2]; rfl
      · rw [q1] at hv; injection hv with _ hv1 hv2
        unfold XR.v; rw [q1, ← hv2]; rfl
    refine ⟨⟨r.v.ownBlock, r.n, c, r.tid, r.cx ++ noughts r, l.length⟩, ⟨hw.2, hw.1, rfl, r.m, by
      show c = l.length + r.m
      rcases hrow1.at_ with ⟨q1, q2, q3⟩ | ⟨b, q1, q2, q3⟩
      · rw [q1] at hv; injection hv with _ hv1 hv2; omega
      · rw [q1] at hv; injection hv with _ hv1 hv2; omega, by rw [hcx]; unfold noughts; rw [hz, hw.1]⟩, hcut.self, ⟨hB.os, hB.tape, hB.output, hB.size, hB.block, fun i x hx => hB.bx i x (hbx hx), fun i s b hs => hB.rw i s b (hrw hs).2, hB.ro, hB.le.ro, fun i x hx => ?_, fun i s hs => ?_⟩, ⟨hF.sz, hF.df, fun p hp hg => ?_, fun p hp hg => ?_⟩, ⟨fun x hx => ?_, ?_⟩⟩
    · obtain ⟨x', q1, q2⟩ := hB.le.bx i x hx
      refine ⟨x', ?_, q2⟩
      show (g.bx.take st.bx.length)[i]? = _
      rw [List.getElem?_take, if_pos (by rw [← HI.br.len]; exact (List.getElem?_eq_some_iff.1 q1).1)]; exact q1
    · obtain ⟨x', q1, q2⟩ := hB.le.rw i s hs
      refine ⟨x', ?_, q2⟩
      show (g.rw.take k)[i]? = _
      rw [List.getElem?_take, if_pos (Nat.lt_of_lt_of_le (List.getElem?_eq_some_iff.1 hs).1 hNk)]; exact q1
    · rcases List.mem_cons.1 hp with rfl | hp
      · show RV _ (.v _) (a.tmps.getD d undef)
        rw [hvd, hxv, hv]; exact RV.v_of rfl
      · simp only [List.mem_filter] at hp
        simp only [keepT, List.all_eq_true, Bool.or_eq_true, Bool.not_eq_true'] at h1
        have hl : low st.bx.length k 4 p.2.2 = true := by
          rcases h1 p hp.1 with h | h
          · rw [h] at hp; cases hp.2
          · exact h
        exact (hF.t p hp.1 hg).low_ (d := 3) hl
    · rcases List.mem_cons.1 hp with rfl | hp
      · exact absurd trivial hg
      · simp only [List.mem_filter] at hp; exact hF.u p hp.1 hg
    · rcases List.mem_append.1 hx with hx | hx
      · have h := hX.ok x hx
        exact ⟨h.le, h.nil, fun b hb => ⟨fun hh => (h.own b hb).1 (hhas b hh), (h.own b hb).2⟩⟩
      · simp only [List.mem_singleton] at hx
        subst hx
        refine ⟨⟨by show r.n ≤ c; rw [hw.2]; exact hc, hm⟩, fun hA => ?_, fun b hb => ⟨fun hh => ?_, ?_, ?_, fun o u ho hu => ?_⟩⟩
        · show c = 0
          rcases hrow1.at_ with ⟨q1, _⟩ | ⟨b, q1, _⟩
          · rw [q1] at hv; injection hv with _ _ hv2; exact hv2.symm
          · have : r.v.ownBlock = none := hA
            rw [q1] at this; cases this
        · rcases hh with ⟨y, hy, hyo, he⟩ | ⟨s, hs, he⟩
          · obtain ⟨i, hi⟩ := List.getElem?_of_mem hy
            exact HI.mem.rb i k y r (hbx hi) hrk hyo (by rw [he]; exact hb)
          · obtain ⟨i, hi⟩ := List.getElem?_of_mem hs
            have := HI.mem.rr i k s r b (hrw hi).2 hrk he hb
            have := (hrw hi).1
            omega
        · rcases hB.rw k r b hrk hb with h | ⟨s, h, _⟩
          · omega
          · have := (List.getElem?_eq_some_iff.1 h).1; omega
        · have hb : r.v.ownBlock = some b := hb
          rcases hrow1.at_ with ⟨q1, _⟩ | ⟨b', q1, q2, _⟩
          · rw [q1] at hb; cases hb
          · rw [q1] at hb; injection hb with hb; subst hb; exact q2
        · refine HI.mem.rwo k r b hrk hb o u ?_
          have hu : (r.cx ++ noughts r)[o]? = some u := hu
          rwa [List.getElem?_append_left (by rw [hcx, List.length_map]; exact ho)] at hu
    · unfold XApart
      rw [List.pairwise_append]
      refine ⟨hX.un, List.pairwise_singleton _ _, fun x hx y hy => ?_⟩
      simp only [List.mem_singleton] at hy
      subst hy
      cases hb : x.A with
      | none => exact .inl rfl
      | some b =>
        refine .inr fun e => ?_
        have hn := ((hX.ok x hx).own b hb).1
        exact hn (.inr ⟨r, List.mem_of_getElem? hrk, e.symm⟩)
/-- Lent bytes that are the last box become a slice on its own. -/
theorem v_pubC0 (HI : Inv P w g g st.bx st.fz st.rw w) (hB : FrX lo w0 N g w) (hF : FR g nt st a) (hX : Xs lo g w X) (hlo : lo ≤ w0.heap.size) (ks : List Nat) (d i : Nat) {full : List UInt8} {n m : Nat} {l' : List UInt8} (hi : st.bx.length = i + 1) (hNi : N.bx.length ≤ i) (hd : find d st.t = some (none, .bc full n (some i))) (hbx0 : st.bx[i]? = some (.ba m, .ba l'))
    (h1 : keepT ks i st.rw.length st.t = true) (h2 : (st.bx.take i).all (fun x => low i st.rw.length 4 x.2) = true) :
    ∃ x : XR, (x.n = n ∧ x.c = full.length ∧ x.k = full.length ∧ x.cells = full.map B8) ∧ Inv P w (g.cut i st.rw.length) (g.cut i st.rw.length) (st.bx.take i) (st.fz.filter (fun j => decide (j < i))) (st.rw.take st.rw.length) w ∧ FrX lo w0 N (g.cut i st.rw.length) w ∧ FR (g.cut i st.rw.length) nt ⟨(d, none, .v x.v) :: st.t.filter (fun p => ks.contains p.1), st.bx.take i, st.fz.filter (fun j => decide (j < i)), st.rw.take st.rw.length⟩ a ∧ Xs lo (g.cut i st.rw.length) w (X ++ [x]) := by
  have hbl : g.bx.length = i + 1 := by rw [← hi]; exact HI.br.len
  have hrl : g.rw.length = st.rw.length := by rw [← HI.wr, List.length_map]
  have hbs := (hF.t _ (find_mem hd) trivial).bc_inv
  generalize hvd : a.tmps.getD d undef = vd at hbs
  cases hbs with
  | bc hn hm hr ht =>
    rename_i A
    obtain ⟨y, hy, hA, hty⟩ := ht i rfl
    obtain ⟨y', hy', hT, hrc⟩ := HI.br.at_ i _ _ hbx0
    rw [hy] at hy'; injection hy' with hy'; subst hy'
    rw [hty] at hT; injection hT with hT
    obtain ⟨hyo, hym, hrc⟩ := hrc.rc rfl
    have hblk := (HI.mem.bx i y hy hyo).c hym
    have hcells : y.cells = l'.map B8 ∧ l'.length = m := by
      generalize hcs : y.cells = cs at hrc
      cases hrc with
      | ba h => exact ⟨rfl, h⟩
    have hll : l'.length = full.length := by rw [hcells.2, hT]
    have hfl : l' = full := by
      apply List.ext_getElem hll
      intro j hj1 hj2
      rcases hr with h | ⟨b, o, hb, hj⟩
      · subst h; simp at hj2
      · rw [hA] at hb
        injection hb with hb
        injection hb with hb1 hb2
        have h5 := HI.mem.ro _ _ _ (hj j hj2)
        rw [← hb1, ← hb2, Nat.zero_add, hblk.cell, hcells.1] at h5
        simp only [List.getElem?_toArray, List.getElem?_map, List.getElem?_eq_getElem hj1, Option.map_some, Option.some.injEq] at h5
        have h6 : B8 l'[j] = B8 full[j] := h5
        simp only [B8, Value.int.injEq, true_and] at h6
        exact UInt8.toNat_inj.1 (by omega)
    subst hfl
    have hcut := HI.loose.cut (nb := i) (nr := st.rw.length) (Nat.zero_le _) (Nat.zero_le _) h2
    have hbx : ∀ {j : Nat} {x : Bx}, (g.cut i st.rw.length).bx[j]? = some x → j < i ∧ g.bx[j]? = some x := fun {j x} hx => by
      have : (g.bx.take i)[j]? = some x := hx
      rw [List.getElem?_take] at this; split at this; exact ⟨by assumption, this⟩; cases this
    have hrw : ∀ {j : Nat} {x : Rw}, (g.cut i st.rw.length).rw[j]? = some x → g.rw[j]? = some x := fun {j x} hx => by
      have : (g.rw.take st.rw.length)[j]? = some x := hx
      rw [List.getElem?_take] at this; split at this; exact this; cases this
    have hhas : ∀ b, (g.cut i st.rw.length).has b → g.has b := fun b hh => by
      rcases hh with ⟨y, hy, h⟩ | ⟨s, hs, h⟩
      · exact .inl ⟨y, List.mem_of_mem_take hy, h⟩
      · exact .inr ⟨s, List.mem_of_mem_take hs, h⟩
    have hself := hcut.self
    refine ⟨⟨some y.blk, n, l'.length, y.tid, l'.map B8, l'.length⟩, ⟨rfl, rfl, rfl, rfl⟩, ⟨hself.mem, hself.fr, hself.br, fun j x hx hf => ?_, hself.wr, hself.wz⟩, ⟨hB.os, hB.tape, hB.output, hB.size, hB.block, fun j x hx => hB.bx j x (hbx hx).2, fun j s b hs => hB.rw j s b (hrw hs), hB.ro, hB.le.ro, fun j x hx => ?_, fun j s hs => ?_⟩, ⟨hF.sz, hF.df, fun p hp hg => ?_, fun p hp hg => ?_⟩, ⟨fun x hx => ?_, ?_⟩⟩
    · exact List.mem_filter.2 ⟨HI.fz j x (hbx hx).2 hf, decide_eq_true (hbx hx).1⟩
    · obtain ⟨x', q1, q2⟩ := hB.le.bx j x hx
      refine ⟨x', ?_, q2⟩
      show (g.bx.take i)[j]? = _
      rw [List.getElem?_take, if_pos (Nat.lt_of_lt_of_le (List.getElem?_eq_some_iff.1 hx).1 hNi)]; exact q1
    · obtain ⟨x', q1, q2⟩ := hB.le.rw j s hs
      refine ⟨x', ?_, q2⟩
      show (g.rw.take st.rw.length)[j]? = _
      rw [List.getElem?_take, if_pos (by rw [← hrl]; exact (List.getElem?_eq_some_iff.1 q1).1)]; exact q1
    · rcases List.mem_cons.1 hp with rfl | hp
      · show RV _ (.v _) (a.tmps.getD d undef)
        rw [hvd, hA]; exact RV.v_of rfl
      · simp only [List.mem_filter] at hp
        simp only [keepT, List.all_eq_true, Bool.or_eq_true, Bool.not_eq_true'] at h1
        have hl : low i st.rw.length 4 p.2.2 = true := by
          rcases h1 p hp.1 with h | h
          · rw [h] at hp; cases hp.2
          · exact h
        exact (hF.t p hp.1 hg).low_ (d := 3) hl
    · rcases List.mem_cons.1 hp with rfl | hp
      · exact absurd trivial hg
      · simp only [List.mem_filter] at hp; exact hF.u p hp.1 hg
    · rcases List.mem_append.1 hx with hx | hx
      · have h := hX.ok x hx
        exact ⟨h.le, h.nil, fun b hb => ⟨fun hh => (h.own b hb).1 (hhas b hh), (h.own b hb).2⟩⟩
      · simp only [List.mem_singleton] at hx
        subst hx
        refine ⟨⟨hn, hm⟩, fun hA => (by cases hA), fun b hb => ?_⟩
        injection hb with hb
        subst hb
        refine ⟨fun hh => ?_, ?_, by rw [← hcells.1]; exact hblk, fun o u ho hu => ?_⟩
        · rcases hh with ⟨z, hz, hzo, he⟩ | ⟨s, hs, he⟩
          · obtain ⟨j, hj⟩ := List.getElem?_of_mem hz
            have := HI.mem.bb j i z y (hbx hj).2 hy hzo hyo he
            have := (hbx hj).1
            omega
          · obtain ⟨j, hj⟩ := List.getElem?_of_mem hs
            exact HI.mem.rb i j y s hy (hrw hj) hyo he
        · rcases hB.bx i y hy hyo with h | ⟨s, h, _⟩
          · omega
          · have := (List.getElem?_eq_some_iff.1 h).1; omega
        · rcases hr with h | ⟨b, o', hb, hj⟩
          · subst h; simp at hu
          · rw [hA] at hb
            injection hb with hb
            injection hb with hb1 hb2
            have hol : o < l'.length := ho
            have := hj o hol
            rw [← hb1, ← hb2, Nat.zero_add] at this
            have hu : (l'.map B8)[o]? = some u := hu
            rw [List.getElem?_map, List.getElem?_eq_getElem hol] at hu
            show g.ro y.blk o = some u
            rw [this]; exact hu
    · unfold XApart
      rw [List.pairwise_append]
      refine ⟨hX.un, List.pairwise_singleton _ _, fun x hx z hz => ?_⟩
      simp only [List.mem_singleton] at hz
      subst hz
      cases hb : x.A with
      | none => exact .inl rfl
      | some b =>
        refine .inr fun e => ?_
        injection e with e
        exact ((hX.ok x hx).own b hb).1 (.inl ⟨y, List.mem_of_getElem? hy, hyo, e.symm⟩)
/-- Rows on their own are seen as bytes. -/
inductive SeeX (X : List XR) : AV → AV → Prop
  | refl (x : AV) : SeeX X x x
  | pub (x : XR) (l : List UInt8) (h : x ∈ X) (hk : l.length ≤ x.k) (hn : x.n = l.length) (hc : x.cells.take l.length = l.map B8) : SeeX X (.v x.v) (.bs l none)
  | pubc (x : XR) (full : List UInt8) (h : x ∈ X) (hk : full.length ≤ x.k) (hc : x.c = full.length) (hs : x.cells = full.map B8) : SeeX X (.v x.v) (.bc full x.n none)
  | bs (l : List UInt8) (tok : Option Nat) : SeeX X (.bs l tok) (.bs l none)
  | bc (full l : List UInt8) (n : Nat) (tok : Option Nat) (h : full.take n = l) : SeeX X (.bc full n tok) (.bs l none)
  | nil : SeeX X (.v (.slice none 0 0)) (.bs [] none)
  | st {fs fs' : List AV} (hl : fs.length = fs'.length) (h : ∀ i (h1 : i < fs.length) (h2 : i < fs'.length), SeeX X fs[i] fs'[i]) : SeeX X (.st fs) (.st fs')
  | sl {T : Ty} {es es' : List AV} {tok : Option Nat} (hl : es.length = es'.length) (h : ∀ i (h1 : i < es.length) (h2 : i < es'.length), SeeX X es[i] es'[i]) : SeeX X (.sl T es tok) (.sl T es' none)
theorem RC.seeX {x y : AV} (hX : Xs lo N w0 X) (hs : SeeX X x y) : ∀ {g : Gh} {T : Ty} {cs : List Value}, (∀ b o u, N.ro b o = some u → g.ro b o = some u) → RC g T x cs → RC g T y cs := by
  induction hs with
  | refl x => intro g T cs _ h; exact h
  | pub x l hx hk hn hc =>
    intro g T cs hro h
    obtain ⟨rfl, rfl⟩ := h.v_inv
    have ho := hX.ok x hx
    unfold XR.v
    rw [hn]
    refine .bs (by have := ho.le.1; omega) ho.le.2 ?_ fun i hi => by cases hi
    cases hA : x.A with
    | none => left; have := ho.nil hA; have := ho.le.1; exact List.length_eq_zero_iff.1 (by omega)
    | some b =>
      right
      refine ⟨b, 0, rfl, fun j hj => ?_⟩
      rw [Nat.zero_add]
      refine hro _ _ _ ((ho.own b hA).2.2.2 j _ (by omega) ?_)
      have : (x.cells.take l.length)[j]? = some (B8 l[j]) := by rw [hc, List.getElem?_map, List.getElem?_eq_getElem hj]; rfl
      rwa [List.getElem?_take, if_pos hj] at this
  | pubc x full hx hk hc hs =>
    intro g T cs hro h
    obtain ⟨rfl, rfl⟩ := h.v_inv
    have ho := hX.ok x hx
    unfold XR.v
    rw [hc]
    refine .bc (by have := ho.le.1; omega) (by have := ho.le.2; omega) ?_ fun i hi => by cases hi
    cases hA : x.A with
    | none => left; have := ho.nil hA; exact List.length_eq_zero_iff.1 (by omega)
    | some b =>
      right
      refine ⟨b, 0, rfl, fun j hj => ?_⟩
      rw [Nat.zero_add]
      refine hro _ _ _ ((ho.own b hA).2.2.2 j _ (by omega) ?_)
      rw [hs, List.getElem?_map, List.getElem?_eq_getElem hj]; rfl
  | bs l tok => intro g T cs _ h; cases h with | bs hc hm hr ht => exact .bs hc hm hr fun i hi => by cases hi
  | bc full l n tok hl =>
    intro g T cs _ h
    cases h with
    | bc hn hm hr ht =>
      rename_i A
      have hll : l.length = n := by rw [← hl, List.length_take]; omega
      rw [← hll]
      refine .bs (by omega) hm ?_ fun i hi => by cases hi
      rcases hr with h | ⟨b, o, hb, hj⟩
      · left; rw [← hl, h]; simp
      · refine .inr ⟨b, o, hb, fun j hj2 => ?_⟩
        have := hj j (by omega)
        subst hl
        simpa using this
  | nil => intro g T cs _ h; obtain ⟨rfl, rfl⟩ := h.v_inv; exact RC.nil1 rfl
  | @st fs fs' hl hsub ih =>
    intro g T cs hro h
    induction T generalizing cs fs fs' with
    | cn T Ts _ ihs =>
      cases h with
      | cn h hs =>
        cases fs' with
        | nil => cases hl
        | cons b m =>
          refine .cn (ih 0 (by simp) (by simp) hro h) (ihs (by simpa using hl) (fun i h1 h2 => hsub (i + 1) (by simpa using h1) (by simpa using h2)) (fun i h1 h2 => ?_) hs)
          intro g T cs hro h
          exact ih (i + 1) (by simpa using h1) (by simpa using h2) hro (by simpa using h)
    | nl => cases h; cases fs' with | nil => exact .nl | cons _ _ => cases hl
    | _ => cases h
  | @sl T es es' tok hl _ ih =>
    intro g T2 cs hro h
    cases h with
    | @sl _ _ _ _ A c hc hm F hr hv ht =>
      rw [hl] at hc ⊢
      refine .sl hc hm F ?_ (fun k hk => ih k (by rw [hl]; exact hk) hk (fun b o u hu => hro b o u hu) (hv k (by rw [hl]; exact hk))) fun i hi => by cases hi
      rcases hr with h | ⟨b, o, hA, hj⟩
      · left; subst h; exact List.length_eq_zero_iff.1 hl.symm
      · exact .inr ⟨b, o, hA, fun k hk => hj k (by rw [hl]; exact hk)⟩
theorem SeeX.not {x y : AV} (h : SeeX X x y) : (x = .any → y = .any) ∧ (∀ az, x = .tup az → y = .tup az) := by
  cases h <;> exact ⟨fun e => (by first | exact e | cases e), fun az e => (by first | exact e | cases e)⟩
theorem RV.seeX {x y : AV} (hX : Xs lo N w0 X) (hs : SeeX X x y) (hro : ∀ b o u, N.ro b o = some u → g.ro b o = some u) {v : Value} (h : RV g x v) : RV g y v := by
  by_cases h1 : x = .any
  · rw [hs.not.1 h1]; trivial
  by_cases h2 : ∃ az, x = .tup az
  · obtain ⟨az, h2⟩ := h2
    rw [hs.not.2 az h2]; rw [h2] at h; exact h
  have h3 : RV1 g x v := by
    cases x with
    | any => exact absurd rfl h1
    | tup az => exact absurd ⟨az, rfl⟩ h2
    | _ => exact h
  rcases h3 with ⟨T, cs, e1, e2, e3⟩ | h3
  · exact RV1.rv (.inl ⟨T, cs, e1, e2.seeX hX hs hro, e3⟩)
  · exact RV1.rv (.inr (h3.seeX hX hs hro))
theorem v_seeX (hX : Xs lo N w0 X) (H : Rel P w0 N nt st a w) (d : Nat) {x : AV} (y : AV) (hs : SeeX X x y) (hd : find d st.t = some (none, x)) : Rel P w0 N nt ⟨nilT d y st.t, st.bx, st.fz, st.rw⟩ a w := by
  obtain ⟨g, HI, hF⟩ := H
  refine ⟨g, HI, hF.sz, hF.df, fun p hp hg => ?_, fun p hp hg => by rcases nilT_mem hp with h | h; (subst h; exact absurd trivial hg); exact hF.u p h hg⟩
  rcases nilT_mem hp with h | h
  · subst h; exact (hF.t _ (find_mem hd) trivial).seeX hX hs fun b o u hu => HI.fr.le.ro b o u hu
  · exact hF.t p h hg
/-- A contract that hands out rows on their own. -/
def PostX (P : Program) (w0 : World) (N : Gh) (R : List XR → List (Ty × AV) → List (TypeId × Nat) → AV → Prop) (e : Ending) (w' : World) : Prop :=
  ∃ X bx' rw' res g v, R X bx' rw' res ∧ e = .returned v ∧ Inv P w0 N g bx' [] rw' w' ∧ RV g res v ∧ Xs w0.heap.size g w' X
def VE (P : Program) (f : FuncId) (args : List AV) (R : List XR → List (Ty × AV) → List (TypeId × Nat) → AV → Prop) : Prop :=
  Fok P f ∧ ∀ (w : World) (N : Gh) (vs : List Value), Inv P w N N [] [] [] w → vs.length = args.length → (∀ (i : Nat) x v, args[i]? = some x → vs[i]? = some v → RV N x v) → Calls P f vs.toArray w (PostX P w N R)
theorem v_enterE {f : FuncId} {fn : Func} {c : Code} {args : List AV} {R : List XR → List (Ty × AV) → List (TypeId × Nat) → AV → Prop} (hf : P.funcs[f]? = some fn) (hb : fn.body = some c) (hnm : (fn.name == "runtime.NumGoroutine") = false) (hn : args.length ≤ fn.ntmps)
    (h : ∀ (N : Gh) (w0 : World) (a : Act) (w : World), N.bx.length ≤ 0 → N.rw.length ≤ 0 → Rel P w0 N fn.ntmps ⟨slots 0 args, [], [], []⟩ a w → c.wp P (bodyPost P fn (PostX P w0 N R)) a w) : VE P f args R := by
  refine ⟨⟨fn, hf, hnm, by rw [hb]; rfl⟩, ?_⟩
  intro w N vs hI hl hv
  refine calls_of_wp hf hb (h N w _ w (by rw [hI.br.len]; exact Nat.le_refl _) (by have := hI.wr; rw [List.map_eq_nil_iff] at this; rw [this]; exact Nat.le_refl _) ⟨N, hI, ?_, rfl, fun p hp _ => ?_, fun p hp hg => absurd (by obtain ⟨_, _, h2, _⟩ := slots_mem hp; rw [h2]; trivial) hg⟩)
  · simp only [Array.size_append, List.size_toArray, Array.size_replicate, hl]; omega
  · obtain ⟨i, h1, h2, h3⟩ := slots_mem hp
    have hi : i < vs.length := by rw [hl]; exact (List.getElem?_eq_some_iff.1 h3).1
    have := hv i p.2.2 vs[i] h3 (List.getElem?_eq_getElem hi)
    rw [h1, Nat.zero_add]
    have e : (vs.toArray ++ Array.replicate (fn.ntmps - vs.toArray.size) undef).getD i undef = vs[i] := by
      rw [Array.getD_eq_getD_getElem?, Array.getElem?_append_left (by simpa using hi)]; simp [hi]
    exact e ▸ this
theorem v_endG {fn : Func} {rs : List ResultVar} {nb nr : Nat} (js ks : List Nat) (hτ : τ.ok P) (hM : N.bx.length ≤ nb ∧ N.rw.length ≤ nr) (hr : fn.results = rs.toArray) (HI : Inv P w0 N g st.bx st.fz st.rw w) (hF : FR g nt st a)
    (hchk : (okSel js st.bx.length && okSel ks st.rw.length && usesB js st.bx && preOk js nb && preOk ks nr && rs.all (fun x => argOk js (resv τ st x))) = true)
    {bx' : List (Ty × AV)} {fz' : List Nat} {rw' : List (TypeId × Nat)} {ress : List AV} {res : AV} (hf : fzOk js st.fz fz' 0 = true) (hb : bxs (pickB js ks st.bx) bx') (hw : ks.filterMap (st.rw[·]?) = rw')
    (he : allP (sub 4) (rs.map fun x => ren (idx? js) (idx? ks) 4 (resv τ st x)) ress) (ht : tupOf ress = res) :
    a.defers = [] ∧ ∃ v, (results fn a.tmps).run P w = .ok v w ∧ Inv P w0 N (g.pick js ks) bx' fz' rw' w ∧ RV (g.pick js ks) res v := by
  subst ht
  simp only [Bool.and_eq_true] at hchk
  obtain ⟨⟨⟨⟨⟨c1, c2⟩, c3⟩, c4⟩, c5⟩, c6⟩ := hchk
  obtain ⟨hj, nj⟩ := okSel_ok c1
  obtain ⟨hk, nk⟩ := okSel_ok c2
  have hlr : g.rw.length = st.rw.length := by rw [← HI.wr, List.length_map]
  have hj' : ∀ j ∈ js, j < g.bx.length := fun j hm => by rw [HI.br.len]; exact hj j hm
  have hk' : ∀ k ∈ ks, k < g.rw.length := fun k hm => by rw [hlr]; exact hk k hm
  have p1 := fun j hj => preOk_ok c4 j (Nat.lt_of_lt_of_le hj hM.1)
  have p2 := fun j hj => preOk_ok c5 j (Nat.lt_of_lt_of_le hj hM.2)
  have hfr : Fr w0 N (g.pick js ks) w := by
    refine ⟨HI.fr.kept, fun i x hx hxo => ?_, fun i r k hr hrk => ?_, HI.fr.ro, ⟨HI.fr.le.ro, fun i x hx => ?_, fun i r hr => ?_⟩⟩
    · have hx' : (js.filterMap (g.bx[·]?))[i]? = some x := hx
      rw [pick_get hj'] at hx'
      obtain ⟨j, h1, h2⟩ := Option.bind_eq_some_iff.1 hx'
      rcases HI.fr.bx j x h2 hxo with h3 | ⟨y, h3, h4⟩
      · exact .inl h3
      · have := nodup_get nj h1 (p1 j (List.getElem?_eq_some_iff.1 h3).1); subst this
        exact .inr ⟨y, h3, h4⟩
    · have hx' : (ks.filterMap (g.rw[·]?))[i]? = some r := hr
      rw [pick_get hk'] at hx'
      obtain ⟨j, h1, h2⟩ := Option.bind_eq_some_iff.1 hx'
      rcases HI.fr.rw j r k h2 hrk with h3 | ⟨y, h3, h4⟩
      · exact .inl h3
      · have := nodup_get nk h1 (p2 j (List.getElem?_eq_some_iff.1 h3).1); subst this
        exact .inr ⟨y, h3, h4⟩
    · obtain ⟨x', h1, h2⟩ := HI.fr.le.bx i x hx
      refine ⟨x', ?_, h2⟩
      show (js.filterMap (g.bx[·]?))[i]? = _
      rw [pick_get hj', p1 i (List.getElem?_eq_some_iff.1 hx).1]; exact h1
    · obtain ⟨x', h1, h2⟩ := HI.fr.le.rw i r hr
      refine ⟨x', ?_, h2⟩
      show (ks.filterMap (g.rw[·]?))[i]? = _
      rw [pick_get hk', p2 i (List.getElem?_eq_some_iff.1 hr).1]; exact h1
  have HP : Inv P w0 N (g.pick js ks) bx' fz' rw' w := HI.pick js ks hj hk nj nk (usesB_ok c3) hb (fun i j hi hm => by simpa using fzOk_ok hf i j hi hm) hw hfr
  have key : ∀ (l : List ResultVar) (ress : List AV), l.all (fun x => argOk js (resv τ st x)) = true → allP (sub 4) (l.map fun x => ren (idx? js) (idx? ks) 4 (resv τ st x)) ress → ∃ vs : List Value, (l.mapM fun x : ResultVar => (match x with
      | .tmp t => pure (a.tmps.getD t undef)
      | .cell p t => (do loadVar t (← asAddr (a.tmps.getD p undef))) : Sem Value)).run P w = .ok vs w ∧ vs.length = l.length ∧ vs.length = ress.length ∧ ∀ (i : Nat) x v, ress[i]? = some x → vs[i]? = some v → RV1 (g.pick js ks) x v := by
    intro l
    induction l with
    | nil => intro ress _ he; cases ress with
      | nil => exact ⟨[], rfl, rfl, rfl, fun i x v h => by simp at h⟩
      | cons _ _ => exact he.elim
    | cons x l ih =>
      intro ress hp he
      cases ress with
      | nil => exact he.elim
      | cons y ress =>
      simp only [List.all_cons, Bool.and_eq_true] at hp
      obtain ⟨vs, h1, h2, h2', h3⟩ := ih ress hp.2 he.2
      have hc := hp.1
      simp only [argOk, Bool.and_eq_true, Bool.not_eq_true'] at hc
      obtain ⟨v, h4, h5⟩ := resv_sound (P := P) hτ HI hF x hc.1.2
      have ht : ∀ az, resv τ st x ≠ .tup az := fun az e => by rw [e] at hc; simp at hc
      have h6 := ((h5.pick_ (d := 3) hj' hk' hc.1.1).rv1 (ren_any hc.1.2) (ren_tup ht)).sub_ he.1
      refine ⟨v :: vs, ?_, by simp [h2], by simp [h2'], fun i z u hz hu => ?_⟩
      · rw [List.mapM_cons]
        cases x <;> (dsimp only at h4 ⊢; simp only [Sem.run_bind, h4, Result.andThen_ok, h1, Sem.run_pure])
      · cases i with
        | zero =>
          simp only [List.getElem?_cons_zero, Option.some.injEq] at hz hu
          subst hz hu; exact h6
        | succ i => exact h3 i z u (by simpa using hz) (by simpa using hu)
  obtain ⟨vs, h1, h2, h2', h3⟩ := key rs ress c6 he
  have hres : (results fn a.tmps).run P w = .ok (if h : vs.length = 1 then vs[0] else .tuple vs.toArray) w := by
    have e : results fn a.tmps = (do
        let vs ← rs.toArray.mapM fun x : ResultVar => (match x with
          | .tmp t => pure (a.tmps.getD t undef)
          | .cell p t => (do loadVar t (← asAddr (a.tmps.getD p undef))) : Sem Value)
        pure (if h : vs.size = 1 then vs[0] else .tuple vs)) := by unfold results; rw [hr]; rfl
    rw [e]
    simp only [Sem.run_bind, Array.mapM_eq_mapM_toList, Sem.run_map]
    rw [h1]
    simp
  refine ⟨hF.df, _, hres, HP, ?_⟩
  by_cases hl : vs.length = 1
  · rw [dif_pos hl]
    obtain ⟨x, rfl⟩ : ∃ x, ress = [x] := by
      match ress, h2' with
      | [x], _ => exact ⟨x, rfl⟩
      | [], h => simp at h; rw [h] at hl; cases hl
      | x :: y :: l, h => simp at h; omega
    exact (h3 0 _ _ rfl (List.getElem?_eq_getElem (by omega))).rv
  · rw [dif_neg hl]
    have htu : tupOf ress = .tup ress := by
      match ress, h2' with
      | [x], h => simp at h; exact absurd h hl
      | [], h => rfl
      | x :: y :: l, h => rfl
    rw [htu]
    exact ⟨vs, rfl, h2', fun i x u hx hu => h3 i x u hx hu⟩

theorem pick_has {js ks : List Nat} {b : Nat} (h : (g.pick js ks).has b) : g.has b := by
  rcases h with ⟨y, hy, h⟩ | ⟨s, hs, h⟩
  · obtain ⟨j, _, hj⟩ := List.mem_filterMap.1 hy; exact .inl ⟨y, List.mem_of_getElem? hj, h⟩
  · obtain ⟨j, _, hj⟩ := List.mem_filterMap.1 hs; exact .inr ⟨s, List.mem_of_getElem? hj, h⟩
theorem v_endE {fn : Func} {rs : List ResultVar} {nb nr : Nat} {R : List XR → List (Ty × AV) → List (TypeId × Nat) → AV → Prop} (js ks : List Nat) (hτ : τ.ok P) (hM : N.bx.length ≤ nb ∧ N.rw.length ≤ nr) (hr : fn.results = rs.toArray) (H : RelX w0.heap.size P w0 N nt st X a w)
    (hchk : (okSel js st.bx.length && okSel ks st.rw.length && usesB js st.bx && preOk js nb && preOk ks nr && rs.all (fun x => argOk js (resv τ st x))) = true)
    {bx' : List (Ty × AV)} {rw' : List (TypeId × Nat)} {ress : List AV} {res : AV} (hf : fzOk js st.fz [] 0 = true) (hb : bxs (pickB js ks st.bx) bx') (hw : ks.filterMap (st.rw[·]?) = rw')
    (he : allP (sub 4) (rs.map fun x => ren (idx? js) (idx? ks) 4 (resv τ st x)) ress) (ht : tupOf ress = res) (hR : R X bx' rw' res) :
    a.defers = [] ∧ ∃ v, (results fn a.tmps).run P w = .ok v w ∧ PostX P w0 N R (.returned v) w := by
  obtain ⟨g, HI, hB, hF, hX⟩ := H
  have HI0 : Inv P w0 N g st.bx st.fz st.rw w := ⟨HI.mem, hB.fr (Nat.le_refl _), HI.br, HI.fz, HI.wr, HI.wz⟩
  obtain ⟨h1, v, h2, h3, h4⟩ := v_endG js ks hτ hM hr HI0 hF hchk hf hb hw he ht
  exact ⟨h1, v, h2, X, bx', rw', res, _, v, hR, rfl, h3, h4, ⟨fun x hx => ⟨(hX.ok x hx).le, (hX.ok x hx).nil, fun b hb => ⟨fun hh => ((hX.ok x hx).own b hb).1 (pick_has hh), ((hX.ok x hx).own b hb).2⟩⟩, hX.un⟩⟩
/-- A call of such a contract: a new base. -/
theorem v_callE {ops : Array Oper} {Q : Exit → Act → World → Prop} {rest : List Oper} {o : Oper} {f : FuncId} {xs : List Operand} {ats : Array TypeId} {args : List AV} {R : List XR → List (Ty × AV) → List (TypeId × Nat) → AV → Prop}
    (hc : VE P f args R) (hB : FrX lo w0 N N1 w1) (hlo : lo ≤ w0.heap.size) (hX : Xs lo N1 w1 X) (H : Rel P w1 N1 nt st a w)
    (hRu : ∀ Y bx' rw' res, R Y bx' rw' res → uses some 4 res = true ∧ bx'.all (fun x => uses some 4 x.2) = true)
    (k : ∀ Y bx' rw' res a w, R Y bx' rw' res → RelX lo P w0 N nt ((⟨st.t, mergeL st.bx [] (renB [] [] st.bx.length st.rw.length bx'), st.fz, mergeL st.rw [] rw'⟩ : St).put o.dst none (ren (fun k => some (nth [] st.bx.length k)) (fun k => some (nth [] st.rw.length k)) 4 res)) (X ++ Y) a w → wpList P ops Q rest a w)
    (hgd : o.guard = none := by rfl) (ho : o.op = .call ⟨.value (.func f), xs.toArray, ats⟩ := by rfl) (hchk : (xs.all (fun x => argOk [] (st.ev none x)) && okDst nt none o.dst) = true := by rfl) (ha : allP (sub 4) (cargs st [] [] xs) args := by exact caX) : wpList P ops Q (o :: rest) a w := by
  obtain ⟨hfok, hcall⟩ := hc
  obtain ⟨g, HI, hF⟩ := H
  simp only [Bool.and_eq_true] at hchk
  obtain ⟨c5, c8⟩ := hchk
  obtain ⟨h1, h2⟩ := cargs_ok HI hF (js := []) (ks := []) (fun j hj => by cases hj) (fun j hj => by cases hj) c5 ha
  refine wpList_plain hgd fun K hK => ?_
  unfold Oper.wp
  rw [run_callF hfok xs ats ho w, Oper.upon_enter]
  have HP : Inv P w (g.pick [] []) (g.pick [] []) [] [] [] w := HI.pick (bx2 := []) (fz2 := []) (rw2 := []) [] [] (fun j hj => by cases hj) (fun j hj => by cases hj) List.nodup_nil List.nodup_nil (fun j hj => by cases hj) trivial (fun i j hi => by simp at hi) rfl
    ⟨Kept.refl _ _, fun i x hx hxo => .inr ⟨x, hx, hxo, rfl⟩, fun i r k hr hrk => .inr ⟨r, hr, hrk⟩, fun _ _ _ _ => rfl, Gh.le.refl _⟩
  refine (hcall w (g.pick [] []) (xs.map a.eval) HP (by simp [h1]) h2).mono fun e w' hp => ?_
  obtain ⟨Y, bx', rw', res, g1, v, hRR, rfl, HI1, hv, hY⟩ := hp
  obtain ⟨c6, c7⟩ := hRu _ _ _ _ hRR
  obtain ⟨k1, k2, k3, k4⟩ := HI.call HI1 (fun j hj => by cases hj) (fun j hj => by cases hj) List.nodup_nil List.nodup_nil (fun x hx => List.all_eq_true.1 c7 x hx)
  have hv' := hv.ren_ (g1 := g1) (g2 := ⟨g1.ro, mergeL g.bx [] g1.bx, mergeL g.rw [] g1.rw⟩) (fb := fun k => some (nth [] st.bx.length k)) (fr := fun k => some (nth [] st.rw.length k)) (d := 3) rfl (fun i j x hij hx => by injection hij with hij; subst hij; exact k3 i x hx) (fun i j x hij hx => by injection hij with hij; subst hij; exact k4 i x hx) (uses_some c6)
  have hX' : Xs lo (⟨g1.ro, mergeL g.bx [] g1.bx, mergeL g.rw [] g1.rw⟩ : Gh) w' X := hX.step k2
  have hsz : w.heap.size ≤ w'.heap.size := HI1.fr.kept.size
  have hws : w1.heap.size ≤ w.heap.size := HI.fr.kept.size
  have hY' : ∀ y ∈ Y, XOk lo (⟨g1.ro, mergeL g.bx [] g1.bx, mergeL g.rw [] g1.rw⟩ : Gh) w' y := fun y hy => by
    have h := hY.ok y hy
    refine ⟨h.le, h.nil, fun b hb => ?_⟩
    obtain ⟨q1, q2, q3⟩ := h.own b hb
    refine ⟨fun hh => ?_, by have := hB.size; omega, q3⟩
    have hm : ∀ {α : Type} {l m : List α} {x : α}, x ∈ mergeL l [] m → x ∈ l ∨ x ∈ m := fun {α l m x} h => by
      unfold mergeL at h
      rw [show setAll l [] m = l by cases m <;> rfl] at h
      simpa using h
    rcases hh with ⟨z, hz, hzo, he⟩ | ⟨s, hs, he⟩
    · rcases hm hz with hz | hz
      · obtain ⟨i, hi⟩ := List.getElem?_of_mem hz
        have := (HI.mem.bx i z hi hzo).lt; omega
      · exact q1 (.inl ⟨z, hz, hzo, he⟩)
    · rcases hm hs with hs | hs
      · obtain ⟨i, hi⟩ := List.getElem?_of_mem hs
        have := (HI.mem.rw i s hi).lt he; omega
      · exact q1 (.inr ⟨s, hs, he⟩)
  have hun : XApart (X ++ Y) := by
    unfold XApart
    rw [List.pairwise_append]
    refine ⟨hX.un, hY.un, fun x hx y hy => ?_⟩
    cases hb : x.A with
    | none => exact .inl rfl
    | some b =>
      refine .inr fun e => ?_
      have h1 := (hX.ok x hx).lt hb
      have h2 := ((hY.ok y hy).own b e.symm).2.1
      omega
  refine hK _ _ (k Y bx' rw' res _ _ hRR ⟨_, ?_, ?_, (hF.mono k1).put c8 (fun _ => hv') rfl (fun h => absurd trivial h), ⟨fun x hx => (List.mem_append.1 hx).elim (hX'.ok x) (hY' x), hun⟩⟩)
  · have := k2.self
    cases o.dst <;> simpa [St.put] using this
  · exact hB.trans (.of k2.fr lo)
/-- A loop, by a family of what holds. -/
theorem v_loopI {ι : Type} {c : Code} {Q : Exit → Act → World → Prop} (F : ι → Act → World → Prop) (C : ι → Prop) (μ : ι → Nat) (i0 : ι) (h0 : C i0) (H : F i0 a w)
    (round : ∀ i a w, C i → F i a w → c.wp P (Exit.then (fun a' w' => ∃ i', C i' ∧ μ i' < μ i ∧ F i' a' w') Q) a w) : (Code.loop c).wp P Q a w := by
  have hp : ∀ a w, (∃ i, C i ∧ F i a w) → ∃ m, (∃ i, (C i ∧ F i a w) ∧ μ i = m) ∧ ∀ k, (∃ i, (C i ∧ F i a w) ∧ μ i = k) → m ≤ k := fun a w ⟨i, hi⟩ => min_ex ⟨_, i, hi, rfl⟩
  obtain ⟨m, hm⟩ : ∃ m : Act → World → Nat, ∀ a w, (∃ i, C i ∧ F i a w) → (∃ i, (C i ∧ F i a w) ∧ μ i = m a w) ∧ ∀ k, (∃ i, (C i ∧ F i a w) ∧ μ i = k) → m a w ≤ k := by
    classical
    refine ⟨fun a w => if h : ∃ i, C i ∧ F i a w then Classical.choose (hp a w h) else 0, fun a w h => ?_⟩
    have := Classical.choose_spec (hp a w h)
    simp only [dif_pos h]
    exact this
  refine wp_loop (fun a w => ∃ i, C i ∧ F i a w) m ⟨i0, h0, H⟩ fun a w hi => ?_
  obtain ⟨⟨i, hi', hmi⟩, _⟩ := hm a w hi
  refine Code.wp_mono (fun e a' w' q => ?_) (round i a w hi'.1 hi'.2)
  cases e with
  | normal => obtain ⟨i', h1, h2, h3⟩ := q; exact ⟨⟨i', h1, h3⟩, by have := (hm a' w' ⟨i', h1, h3⟩).2 _ ⟨i', ⟨h1, h3⟩, rfl⟩; omega⟩
  | _ => exact q
end
end Go.Proofs.Ytigmpdhnhkdeiaa
/- What has to be open for a stretch: ref20.Open. -/
namespace Go.Proofs.Ytigmpdhnhkdeiaa
open Go Go.RowKit
/-- What is asked: a stretch. -/
def askS (fr to : List UInt8) : AV := .st [.sl (.ba 32) [] none, .v (.bool true), .ba fr, .ba to]
theorem tch_alt (fr to p : List UInt8) (d : Nat) : tchB fr to p d = (bif decide (Lib.compareBytes (fillL p d false) to ≤ 0) then decide (Lib.compareBytes fr (fillL p d true) ≤ 0) else false) := by
  have h : decide (0 ≤ Lib.compareBytes (fillL p d true) fr) = decide (Lib.compareBytes fr (fillL p d true) ≤ 0) := by
    rw [cmp_anti (fillL p d true) fr]; exact decide_eq_decide.2 (by omega)
  unfold tchB
  rw [h]
  cases decide (Lib.compareBytes (fillL p d false) to ≤ 0) <;> cases decide (Lib.compareBytes fr (fillL p d true) ≤ 0) <;> rfl
set_option maxRecDepth 20000 in
theorem openR_v (fr to p : List UInt8) (h1 : fr.length = 32) (h2 : to.length = 32) (h3 : p.length = 32) (d : Nat) (hd : d ≤ 256) : VC Try.prog 174 [askS fr to, .ba p, .v (.int .i64 (d : Int))] [] (.v (.bool (tchB fr to p d))) := by
  have f1 := filledR_v p h3 d hd false
  have f2 := filledR_v p h3 d hd true
  have l1 := fillL_len p d false
  have l2 := fillL_len p d true
  have c1 := pcmpR_v (fillL p d false) to l1 h2
  have c2 := pcmpR_v fr (fillL p d true) h1 l2
  rw [tch_alt]
  unfold askS
  generalize fillL p d false = la at *
  generalize fillL p d true = lb at *
  refine mE Try.func174 ?_; intro N w0 a w hN hR H
  have hX := And.intro @l1 (@l2)
  refine mW ?_; clear H; intro a w H
  refine mC H (fun hb => ?_) (fun hb => ?_)
  · clear hb
    refine mW ?_; clear H; intro a w H
    refine mCall [] [] (f1) H ?_; clear H; intro a w H; try refine wpList_nil ?_
    refine mW ?_; clear H; intro a w H
    refine mCall [] [] (f2) H ?_; clear H; intro a w H; try refine wpList_nil ?_
    refine mW ?_; clear H; intro a w H
    refine mCall [] [] (c1) H ?_; clear H; intro a w H; try refine wpList_nil ?_
    refine mW ?_; clear H; intro a w H
    refine mCallG [] [] (c2) H ?_; clear H; intro a w H; try refine wpList_nil ?_
    refine mW ?_; clear H; intro a w H
    refine wp_ret ?_; exact mEnd [] [] [.tmp 6] [_] hN hR H
  · cases hb
end Go.Proofs.Ytigmpdhnhkdeiaa
/- Parts of a sketch that are clean. -/
namespace Go.Proofs.Ytigmpdhnhkdeiaa
open Go Go.RowKit
theorem kz (k : UInt8) (n : Nat) (hn : n < 256) : decide ((k.toNat : Int) = (n : Int)) = decide (k = UInt8.ofNat n) := by
  rw [decide_eq_decide]
  constructor
  · intro h; exact UInt8.toNat_inj.1 (by rw [UInt8.toNat_ofNat']; omega)
  · intro h; rw [h, UInt8.toNat_ofNat']; omega
theorem clean0 (key v g : List UInt8) : Br.clean ⟨0, key, v, g⟩ = (decide (key = List.replicate 32 0) && (decide (v = List.replicate 32 0) && decide (g = List.replicate 32 0))) := by
  rw [Bool.eq_iff_iff]; unfold Br.clean; rw [if_pos (Or.inl rfl), Bool.and_eq_true, Bool.and_eq_true, decide_eq_true_iff, decide_eq_true_iff, decide_eq_true_iff, decide_eq_true_iff]; exact Iff.rfl
theorem clean2 (key v g : List UInt8) : Br.clean ⟨2, key, v, g⟩ = (decide (key = List.replicate 32 0) && (decide (v = List.replicate 32 0) && decide (g = List.replicate 32 0))) := by
  rw [Bool.eq_iff_iff]; unfold Br.clean; rw [if_pos (Or.inr rfl), Bool.and_eq_true, Bool.and_eq_true, decide_eq_true_iff, decide_eq_true_iff, decide_eq_true_iff, decide_eq_true_iff]; exact Iff.rfl
theorem clean1 (key v g : List UInt8) : Br.clean ⟨1, key, v, g⟩ = decide (g = List.replicate 32 0) := by
  rw [Bool.eq_iff_iff]; unfold Br.clean; rw [if_neg (by dsimp only; decide), if_pos rfl, decide_eq_true_iff, decide_eq_true_iff]; exact Iff.rfl
theorem clean3 (key v g : List UInt8) : Br.clean ⟨3, key, v, g⟩ = (decide (((3 : UInt8).toNat : Int) = 3) && (decide (key = List.replicate 32 0) && decide (v = List.replicate 32 0))) := by
  rw [show decide (((3 : UInt8).toNat : Int) = 3) = true from by decide, Bool.true_and, Bool.eq_iff_iff]; unfold Br.clean; rw [if_neg (by dsimp only; decide), if_neg (by dsimp only; decide), if_pos rfl, Bool.and_eq_true, decide_eq_true_iff, decide_eq_true_iff, decide_eq_true_iff]; exact Iff.rfl
set_option maxRecDepth 20000 in
theorem sclean_v (b : Br) (hw : b.wf) : VC Try.prog 231 [b.av] [] (.v (.bool b.clean)) := by
  obtain ⟨h1, h2, h3⟩ := id hw
  obtain ⟨k, key, v, g⟩ := b
  dsimp only at h1 h2 h3
  have hz2 := z32_len
  have hzl : (List.replicate 32 (0 : UInt8)).length = 32 := List.length_replicate
  have k0 : decide ((k.toNat : Int) = 0) = decide (k = 0) := kz k 0 (by decide)
  have k1 : decide ((k.toNat : Int) = 1) = decide (k = 1) := kz k 1 (by decide)
  have k2 : decide ((k.toNat : Int) = 2) = decide (k = 2) := kz k 2 (by decide)
  have k3 : decide ((k.toNat : Int) = 3) = decide (k = 3) := kz k 3 (by decide)
  refine mE Try.func231 ?_; intro N w0 a w hN hR H
  simp only [Br.av] at H
  have hX := @hzl
  have hY := And.intro @h1 (And.intro @h2 (@h3))
  refine mW ?_; clear H; intro a w H
  refine mC H (fun hb => ?_) (fun hb => ?_)
  · rw [k0, decide_eq_true_eq] at hb
    subst hb
    refine mW ?_; clear H; intro a w H
    refine mC H (fun hb => ?_) (fun hb => ?_)
    · refine mW ?_; clear H; intro a w H
      rw [clean0]
      refine wp_ret ?_; exact mEnd [] [] [.tmp 2] [_] hN hR H
    · exact absurd hb (by decide)
  · rw [k0, decide_eq_false_iff_not] at hb
    have hk0 := hb
    clear hb
    refine mW ?_; clear H; intro a w H
    refine mC H (fun hb => ?_) (fun hb => ?_)
    · rw [k2, decide_eq_true_eq] at hb
      subst hb
      refine mW ?_; clear H; intro a w H
      rw [clean2]
      refine wp_ret ?_; exact mEnd [] [] [.tmp 2] [_] hN hR H
    · rw [k2, decide_eq_false_iff_not] at hb
      have hk2 := hb
      clear hb
      refine mW ?_; clear H; intro a w H
      refine mC H (fun hb => ?_) (fun hb => ?_)
      · rw [k1, decide_eq_true_eq] at hb
        subst hb
        refine mW ?_; clear H; intro a w H
        rw [clean1]
        refine wp_ret ?_; exact mEnd [] [] [.tmp 2] [_] hN hR H
      · rw [k1, decide_eq_false_iff_not] at hb
        have hk1 := hb
        clear hb
        refine mW ?_; clear H; intro a w H
        refine mC H (fun hb => ?_) (fun hb => ?_)
        · rw [k3, decide_eq_true_eq] at hb
          subst hb
          refine mW ?_; clear H; intro a w H
          rw [clean3]
          refine wp_ret ?_; exact mEnd [] [] [.tmp 2] [_] hN hR H
        · rw [k3, decide_eq_false_iff_not] at hb
          refine mW ?_; clear H; intro a w H
          have e : Br.clean ⟨k, key, v, g⟩ = false := by
            unfold Br.clean
            rw [if_neg (by simp [hk0, hk2]), if_neg hk1, if_neg hb]
          rw [e]
          refine wp_ret ?_; exact mEnd [] [] [.tmp 2] [_] hN hR H
end Go.Proofs.Ytigmpdhnhkdeiaa
/- Parts of a sketch that are clean: ref20.clean. -/
namespace Go.Proofs.Ytigmpdhnhkdeiaa
open Go Go.RowKit
theorem and3_bif (a b c : Bool) : (a && (b && c)) = (bif (bif a then b else false) then c else false) := by cases a <;> cases b <;> cases c <;> rfl
theorem clean0r (key v g : List UInt8) : Br.clean ⟨0, key, v, g⟩ = (bif (bif decide (key = List.replicate 32 0) then decide (v = List.replicate 32 0) else false) then decide (g = List.replicate 32 0) else false) := by
  rw [clean0, and3_bif]
theorem clean2r (key v g : List UInt8) : Br.clean ⟨2, key, v, g⟩ = (bif (bif decide (key = List.replicate 32 0) then decide (v = List.replicate 32 0) else false) then decide (g = List.replicate 32 0) else false) := by
  rw [clean2, and3_bif]
theorem clean3r (key v g : List UInt8) : Br.clean ⟨3, key, v, g⟩ = (bif decide (key = List.replicate 32 0) then decide (v = List.replicate 32 0) else false) := by
  rw [clean3, show decide (((3 : UInt8).toNat : Int) = 3) = true from by decide, Bool.true_and]
  cases decide (key = List.replicate 32 0) <;> rfl
set_option maxRecDepth 20000 in
theorem cleanR_v (b : Br) (hw : b.wf) : VC Try.prog 172 [b.av] [] (.v (.bool b.clean)) := by
  obtain ⟨h1, h2, h3⟩ := id hw
  obtain ⟨k, key, v, g⟩ := b
  dsimp only at h1 h2 h3
  have hz2 := z32_len
  have hzl : (List.replicate 32 (0 : UInt8)).length = 32 := List.length_replicate
  have k0 : decide ((k.toNat : Int) = 0) = decide (k = 0) := kz k 0 (by decide)
  have k1 : decide ((k.toNat : Int) = 1) = decide (k = 1) := kz k 1 (by decide)
  have k2 : decide ((k.toNat : Int) = 2) = decide (k = 2) := kz k 2 (by decide)
  have k3 : decide ((k.toNat : Int) = 3) = decide (k = 3) := kz k 3 (by decide)
  refine mE Try.func172 ?_; intro N w0 a w hN hR H
  simp only [Br.av] at H
  have hX := @hzl
  have hY := And.intro @h1 (And.intro @h2 (@h3))
  refine mW ?_; clear H; intro a w H
  refine mC H (fun hb => ?_) (fun hb => ?_)
  · rw [k0, decide_eq_true_eq] at hb
    subst hb
    refine mW ?_; clear H; intro a w H
    refine mC H (fun hb => ?_) (fun hb => ?_)
    · refine mW ?_; clear H; intro a w H
      rw [clean0r]
      refine wp_ret ?_; exact mEnd [] [] [.tmp 2] [_] hN hR H
    · exact absurd hb (by decide)
  · rw [k0, decide_eq_false_iff_not] at hb
    have hk0 := hb
    clear hb
    refine mW ?_; clear H; intro a w H
    refine mC H (fun hb => ?_) (fun hb => ?_)
    · rw [k2, decide_eq_true_eq] at hb
      subst hb
      refine mW ?_; clear H; intro a w H
      rw [clean2r]
      refine wp_ret ?_; exact mEnd [] [] [.tmp 2] [_] hN hR H
    · rw [k2, decide_eq_false_iff_not] at hb
      have hk2 := hb
      clear hb
      refine mW ?_; clear H; intro a w H
      refine mC H (fun hb => ?_) (fun hb => ?_)
      · rw [k1, decide_eq_true_eq] at hb
        subst hb
        refine mW ?_; clear H; intro a w H
        rw [clean1]
        refine wp_ret ?_; exact mEnd [] [] [.tmp 2] [_] hN hR H
      · rw [k1, decide_eq_false_iff_not] at hb
        have hk1 := hb
        clear hb
        refine mW ?_; clear H; intro a w H
        refine mC H (fun hb => ?_) (fun hb => ?_)
        · rw [k3, decide_eq_true_eq] at hb
          subst hb
          refine mW ?_; clear H; intro a w H
          rw [clean3r]
          refine wp_ret ?_; exact mEnd [] [] [.tmp 2] [_] hN hR H
        · rw [k3, decide_eq_false_iff_not] at hb
          refine mW ?_; clear H; intro a w H
          have e : Br.clean ⟨k, key, v, g⟩ = false := by
            unfold Br.clean
            rw [if_neg (by simp [hk0, hk2]), if_neg hk1, if_neg hb]
          rw [e]
          refine wp_ret ?_; exact mEnd [] [] [.tmp 2] [_] hN hR H
end Go.Proofs.Ytigmpdhnhkdeiaa
/- Values seen as others: a nil slice inside a box as a row that is none yet; an empty window as no bytes. -/
namespace Go.Proofs.Ytigmpdhnhkdeiaa
open Go Go.RowKit
section
variable {P : Program} {τ : Tab} {w0 w w' : World} {N : Gh} {g g1 g2 : Gh} {st st' : St} {nt : Nat} {a : Act}
end
end Go.Proofs.Ytigmpdhnhkdeiaa
/- Proofs as bytes: what may be, how it is told. -/
namespace Go.Proofs.Ytigmpdhnhkdeiaa
open Go Go.RowKit
structure Pf where
  s : List (List UInt8)
  e : Nd
  deriving DecidableEq
def bas (ls : List (List UInt8)) : List AV := ls.map .ba
theorem bas_len (ls : List (List UInt8)) : (bas ls).length = ls.length := by simp [bas]
theorem bas_get (ls : List (List UInt8)) (k : Nat) (hk : k < ls.length) : (bas ls).getD k .any = .ba ls[k] := by simp [bas, List.getD, hk]
structure Pf.wf (p : Pf) : Prop where
  s : ∀ h ∈ p.s, h.length = 32
  e : p.e.wf
def Pf.av (p : Pf) : AV := .st [.sl (.ba 32) (bas p.s) none, p.e.av]
def Pf.chk (p : Pf) : Int := if 256 < p.s.length then 4 else if p.e.ok ∧ p.e.k ≠ 2 then 0 else 2
/-- The digest of nothing. -/
def E0 : List UInt8 := sum [0]
def hidesB (s : List (List UInt8)) (t : Nat) : Bool := match s[t]? with | some h => h != E0 | none => false
def Pf.bits (p : Pf) : List UInt8 := bitsB p.s.length (hidesB p.s)
def hashes (s : List (List UInt8)) : List UInt8 := (s.filter (· != E0)).flatten
def Pf.text (p : Pf) : List UInt8 := [UInt8.ofNat (p.s.length / 256), UInt8.ofNat p.s.length] ++ (p.bits ++ (hashes p.s ++ p.e.text))
end Go.Proofs.Ytigmpdhnhkdeiaa
/- A region in every order of its loud operations: the steps as theorems that a tactic can try one after another. -/
namespace Go.Proofs.Ytigmpdhnhkdeiaa
open Go Go.RowKit
section
variable {P : Program} {ops : Array Oper} {Q : Exit → Act → World → Prop} {S : World → Prop} {L A : List Nat} {U : List (Nat × Nat)}
theorem wpT_at {l : List Oper} {a : Act} {w : World} (i : Nat) (h : wpT P ops Q S L A l i a w) : wpT P ops Q S L A l i a w := h
theorem wpZ_q1 {i n : Nat} {rest : List Nat} {o : Oper} {a : Act} {w : World} (hL : L.contains i = false) (ho : (ops.toList.drop i).head? = some o)
    (h : wpT P ops (fun _ a w => wpZ P ops Q S L A U n rest a w) S L A [o] i a w) : wpZ P ops Q S L A U (n + 1) (i :: rest) a w := by
  have ho : ops[i]? = some o := by rw [List.head?_drop, Array.getElem?_toList] at ho; exact ho
  unfold wpZ; rw [if_neg (by rw [hL]; exact Bool.false_ne_true)]; unfold tOp; simp only [ho]; exact h
theorem wpZ_l1 {i n : Nat} {rest : List Nat} {o : Oper} {a : Act} {w : World} (hL : L.contains i = true) (hc : altZ U i rest = []) (ho : (ops.toList.drop i).head? = some o)
    (h : wpT P ops (fun _ a w => wpZ P ops Q S L A U n rest a w) S L A [o] i a w) : wpZ P ops Q S L A U (n + 1) (i :: rest) a w := by
  refine wpZ_two hL hc (all1 ?_)
  exact wpZ_pick (by simp) ho h
theorem wpZ_l2 {i m n : Nat} {rest r2 : List Nat} {o o2 : Oper} {a : Act} {w : World} (hL : L.contains i = true) (hc : altZ U i rest = [m]) (ho : (ops.toList.drop i).head? = some o) (ho2 : (ops.toList.drop m).head? = some o2) (hr2 : (i :: rest).erase m = r2)
    (h : wpT P ops (fun _ a w => wpZ P ops Q S L A U n rest a w) S L A [o] i a w) (h2 : wpT P ops (fun _ a w => wpZ P ops Q S L A U n r2 a w) S L A [o2] m a w) : wpZ P ops Q S L A U (n + 1) (i :: rest) a w := by
  refine wpZ_two hL hc (all2 ⟨?_, ?_⟩)
  · exact wpZ_pick (by simp) ho h
  · exact wpZ_pick hr2 ho2 h2
theorem wpZ_l3 {i m k n : Nat} {rest r2 r3 : List Nat} {o o2 o3 : Oper} {a : Act} {w : World} (hL : L.contains i = true) (hc : altZ U i rest = [m, k]) (ho : (ops.toList.drop i).head? = some o) (ho2 : (ops.toList.drop m).head? = some o2) (ho3 : (ops.toList.drop k).head? = some o3) (hr2 : (i :: rest).erase m = r2) (hr3 : (i :: rest).erase k = r3)
    (h : wpT P ops (fun _ a w => wpZ P ops Q S L A U n rest a w) S L A [o] i a w) (h2 : wpT P ops (fun _ a w => wpZ P ops Q S L A U n r2 a w) S L A [o2] m a w) (h3 : wpT P ops (fun _ a w => wpZ P ops Q S L A U n r3 a w) S L A [o3] k a w) : wpZ P ops Q S L A U (n + 1) (i :: rest) a w := by
  refine wpZ_two hL hc (all3 ⟨?_, ?_, ?_⟩)
  · exact wpZ_pick (by simp) ho h
  · exact wpZ_pick hr2 ho2 h2
  · exact wpZ_pick hr3 ho3 h3
theorem all4 {p : Nat → Prop} {x y z u : Nat} (h : p x ∧ p y ∧ p z ∧ p u) : ∀ m ∈ [x, y, z, u], p m := fun m hm => by
  simp at hm
  rcases hm with rfl | rfl | rfl | rfl
  · exact h.1
  · exact h.2.1
  · exact h.2.2.1
  · exact h.2.2.2
theorem wpZ_l4 {i m k j n : Nat} {rest r2 r3 r4 : List Nat} {o o2 o3 o4 : Oper} {a : Act} {w : World} (hL : L.contains i = true) (hc : altZ U i rest = [m, k, j]) (ho : (ops.toList.drop i).head? = some o) (ho2 : (ops.toList.drop m).head? = some o2) (ho3 : (ops.toList.drop k).head? = some o3) (ho4 : (ops.toList.drop j).head? = some o4) (hr2 : (i :: rest).erase m = r2) (hr3 : (i :: rest).erase k = r3) (hr4 : (i :: rest).erase j = r4)
    (h : wpT P ops (fun _ a w => wpZ P ops Q S L A U n rest a w) S L A [o] i a w) (h2 : wpT P ops (fun _ a w => wpZ P ops Q S L A U n r2 a w) S L A [o2] m a w) (h3 : wpT P ops (fun _ a w => wpZ P ops Q S L A U n r3 a w) S L A [o3] k a w) (h4 : wpT P ops (fun _ a w => wpZ P ops Q S L A U n r4 a w) S L A [o4] j a w) : wpZ P ops Q S L A U (n + 1) (i :: rest) a w := by
  refine wpZ_two hL hc (all4 ⟨?_, ?_, ?_, ?_⟩)
  · exact wpZ_pick (by simp) ho h
  · exact wpZ_pick hr2 ho2 h2
  · exact wpZ_pick hr3 ho3 h3
  · exact wpZ_pick hr4 ho4 h4
end
end Go.Proofs.Ytigmpdhnhkdeiaa
/- A reader of a stretch: (*span.reader).leaf. -/
namespace Go.Proofs.Ytigmpdhnhkdeiaa
open Go Go.RowKit
abbrev srdT : Ty := ti211.ty
abbrev brT : Ty := ti54.ty
def brs (l : List Br) : List AV := l.map Br.av
theorem brs_len (l : List Br) : (brs l).length = l.length := by simp [brs]
abbrev rdA (fr to key : List UInt8) (s : RS) : AV := .st [.st [.ba fr, .ba to], .sl brT (brs s.rest) none, .ba (sum [0]), .vw 1 s.ks.length s.ks.length, .vw 2 s.ds.length s.ds.length, .ba key, .st [.vw 3 s.sd.length s.sd.length, s.en.av]]
abbrev rdB (fr to key : List UInt8) (s : RS) : List (Ty × AV) := [(srdT, rdA fr to key s), (.vc 52 (.ba 32), .vc s.ks.length (bas s.ks)), (.vc 50 (.ba 32), .vc s.ds.length (bas s.ds)), (.vc 50 (.ba 32), .vc s.sd.length (bas s.sd))]
structure RS.wf (s : RS) : Prop where
  rest : ∀ b ∈ s.rest, b.wf
  ks : ∀ k ∈ s.ks, k.length = 32
  ds : ∀ k ∈ s.ds, k.length = 32
  sd : ∀ k ∈ s.sd, k.length = 32
  en : s.en.wf
  lk : s.ks.length + s.rest.length ≤ 100000
  ld : s.ds.length + s.rest.length ≤ 100000
  ls : s.sd.length + s.rest.length ≤ 100000
theorem cutG9 {B R : Act → World → Prop} {G : Prop} (h : (∀ a w, R a w → B a w) → G) (k : ∀ a w, R a w → B a w) : G := h k
set_option maxRecDepth 20000 in
set_option maxHeartbeats 4000000 in
theorem sleaf_v (fr to key : List UInt8) (h1 : fr.length = 32) (h2 : to.length = 32) (h3 : key.length = 32) (s : RS) (hs : s.wf) (b : Br) (hb : b.wf) (hlk : s.ks.length < 100000) (hld : s.ds.length < 100000) (top : List UInt8) (ht : top.length = 32) (d : Nat) (hd : d ≤ 256) :
    VX Try.prog 233 (rdB fr to key s) [] [] [.ptr 0 [], b.av, .ba top, .v (.int .i64 (d : Int))] (rdB fr to key (lfS fr to key s b top d)) [] [] (.tup [.ba (leafH b.key b.v), .v (.bool (und d b.key top))]) := by
  obtain ⟨q1, q2, q3⟩ := id hb
  obtain ⟨bk, bkey, bv, bg⟩ := b
  dsimp only at q1 q2 q3
  have hhas := has_v fr to bkey h1 h2 q1
  have hun := under_v key top h3 ht (d : Int)
  have hun2 := under_v bkey top q1 ht (d : Int)
  have hlf := leaf_v bkey bv q1 q2
  have hll := leafH_len bkey bv
  have eu : ∀ k : List UInt8, decide (0 ≤ (d : Int) ∧ (d : Int) ≤ 256 ∧ (d : Int) ≤ (com k top : Int)) = und d k top := fun k => by
    unfold und; rw [decide_eq_decide]; omega
  rw [eu] at hun hun2
  obtain ⟨rest, ks, ds, sd, en⟩ := s
  dsimp only [rdB, rdA, lfS] at *
  have hkl := bas_len ks
  have hdl := bas_len ds
  refine mE Try.func233 ?_; intro N w0 a w hN hR H
  simp only [Br.av] at H
  have hX := And.intro @h1 (And.intro @h2 (And.intro @h3 (And.intro @q1 (And.intro @q2 (And.intro @q3 (And.intro @ht (And.intro @hkl (@hdl))))))))
  refine mW ?_; clear H; intro a w H
  replace H := v_ref H 5 4 (Nat.le_trans hN (Nat.le_of_ble_eq_true rfl)) rfl rfl rfl
  simp only [nilT, strip, List.map_cons, List.map_nil, reduceIte, Nat.reduceEqDiff] at H
  replace H := v_ref H 6 5 (Nat.le_trans hN (Nat.le_of_ble_eq_true rfl)) rfl rfl rfl
  simp only [nilT, strip, List.map_cons, List.map_nil, reduceIte, Nat.reduceEqDiff] at H
  refine mS ?_; refine mD 7 [6] [] H ?_; clear H; intro gS H
  refine mT ?_; clear H; intro a w H
  refine mCallT [] [] (hhas) H ?_; clear H; intro a w H
  refine v_drawNil H ?_; clear H; intro H
  refine mW ?_; clear H; intro a w H
  obtain ⟨ks', hks'⟩ : ∃ x, x = (if hasB fr to bkey then ks ++ [bkey] else ks) := ⟨_, rfl⟩
  obtain ⟨ds', hds'⟩ : ∃ x, x = (if hasB fr to bkey then ds ++ [bv] else ds) := ⟨_, rfl⟩
  rw [← hks', ← hds']
  revert a w
  apply cutG9 (R := fun a w => Rel Try.prog w0 N Try.f233.ntmps ⟨[(8, none, .ptr 6 []), (6, none, .ref (.ba 32) (.ba top)), (5, none, .ref brT (.st [.v (B8 bk), .ba bkey, .ba bv, .ba bg])), (3, none, .v (.int .i64 (d : Int))), (0, none, .ptr 0 [])],
    [(srdT, .st [.st [.ba fr, .ba to], .sl brT (brs rest) none, .ba (sum [0]), .vw 1 ks'.length ks'.length, .vw 2 ds'.length ds'.length, .ba key, .st [.vw 3 sd.length sd.length, en.av]]), (.vc 52 (.ba 32), .vc ks'.length (bas ks')), (.vc 50 (.ba 32), .vc ds'.length (bas ds')), (.vc 50 (.ba 32), .vc sd.length (bas sd)), (brT, .st [.v (B8 bk), .ba bkey, .ba bv, .ba bg]), (.ba 32, .ba top), (.ba 32, .ba (List.replicate 32 0))], [5, 4], []⟩ a w)
  · intro key1 a w H
    refine mC H (fun hb => ?_) (fun hb => ?_)
    · have e1 : ks' = ks ++ [bkey] := by rw [hks', hb, if_pos rfl]
      have e2 : ds' = ds ++ [bv] := by rw [hds', hb, if_pos rfl]
      have l1 : ks.length + 1 = ks'.length := by rw [e1, List.length_append]; rfl
      have l2 : ds.length + 1 = ds'.length := by rw [e2, List.length_append]; rfl
      have b1 : bas ks ++ [.ba bkey] = bas ks' := by rw [e1]; simp [bas]
      have b2 : bas ds ++ [.ba bv] = bas ds' := by rw [e2]; simp [bas]
      have t1 : (bas ks).take ks.length = bas ks := List.take_of_length_le (by omega)
      have t2 : (bas ds).take ds.length = bas ds := List.take_of_length_le (by omega)
      repeat (first | refine wp_seq ?_ | refine wp_block ?_)
      refine v_drawZ 0 [0, 1, 2, 3, 4, 6, 7, 10, 11, 12, 14, 15, 5, 8, 9, 13, 16, 17, 18, 19, 20, 21, 22, 23] [5, 8, 9, 13, 16, 17, 20, 23] [0, 1, 2, 3, 4, 6, 7, 10, 11, 12, 14, 15] [(5, 8), (5, 13), (5, 16), (8, 13), (8, 16), (9, 13), (9, 16), (13, 16)] (by kernel_rfl) (by kernel_rfl) (by kernel_rfl) (by kernel_rfl) (by kernel_rfl) H (by rfl) ?_; clear H; intro gS H; try replace H := ntf H
      repeat' ((first | refine wpZ_q1 rfl rfl ?_ | refine wpZ_l1 rfl rfl rfl ?_ | refine wpZ_l2 rfl rfl rfl rfl rfl ?_ ?_ | refine wpZ_l3 rfl rfl rfl rfl rfl rfl rfl ?_ ?_ ?_ | refine wpZ_l4 rfl rfl rfl rfl rfl rfl rfl rfl rfl ?_ ?_ ?_ ?_) <;> ((first | (refine v_someT 1 tab_ok hN H rfl ctX ?_; clear H; intro a w H; replace H := ntf H; simp only [List.drop_succ_cons, List.drop_zero, List.drop_nil])); refine wpT_nil ?_; try dsimp only))
      all_goals (refine wpZ_nil ?_; replace H := RelT.toRel H)
      all_goals
        refine mS ?_
        simp only [t1, t2, l1, l2, b1, b2] at H
        exact key1 _ _ (H.to 7 0 ⟨Nat.le_trans hN (Nat.le_of_ble_eq_true rfl), hR⟩ ⟨rfl, rfl, rfl, rfl, rfl, trivial⟩ rfl rfl rfl rfl rfl)
    · have e1 : ks' = ks := by rw [hks', hb, if_neg (by decide)]
      have e2 : ds' = ds := by rw [hds', hb, if_neg (by decide)]
      refine mS ?_
      simp only [← e1, ← e2] at H
      exact key1 _ _ (H.to 7 0 ⟨Nat.le_trans hN (Nat.le_of_ble_eq_true rfl), hR⟩ ⟨rfl, rfl, rfl, rfl, rfl, trivial⟩ rfl rfl rfl rfl rfl)
  intro a w H
  have hkl2 := bas_len ks'
  have hdl2 := bas_len ds'
  clear hks' hds'
  obtain ⟨en', hen'⟩ : ∃ x, x = (if und d key top then Nd.one bkey bv else en) := ⟨_, rfl⟩
  rw [← hen']
  refine mS ?_; refine mD 7 [6] [] H ?_; clear H; intro gS H
  refine mT ?_; clear H; intro a w H
  refine mCallT [] [] (hun) H ?_; clear H; intro a w H
  refine v_drawNil H ?_; clear H; intro H
  refine mW ?_; clear H; intro a w H
  revert a w
  apply cutG9 (R := fun a w => Rel Try.prog w0 N Try.f233.ntmps ⟨[(8, none, .ptr 6 []), (6, none, .ref (.ba 32) (.ba top)), (5, none, .ref brT (.st [.v (B8 bk), .ba bkey, .ba bv, .ba bg])), (3, none, .v (.int .i64 (d : Int))), (0, none, .ptr 0 [])],
    [(srdT, .st [.st [.ba fr, .ba to], .sl brT (brs rest) none, .ba (sum [0]), .vw 1 ks'.length ks'.length, .vw 2 ds'.length ds'.length, .ba key, .st [.vw 3 sd.length sd.length, en'.av]]), (.vc 52 (.ba 32), .vc ks'.length (bas ks')), (.vc 50 (.ba 32), .vc ds'.length (bas ds')), (.vc 50 (.ba 32), .vc sd.length (bas sd)), (brT, .st [.v (B8 bk), .ba bkey, .ba bv, .ba bg]), (.ba 32, .ba top), (.ba 32, .ba (List.replicate 32 0))], [5, 4], []⟩ a w)
  · intro key1 a w H
    refine mC H (fun hb => ?_) (fun hb => ?_)
    · have e1 : en' = Nd.one bkey bv := by rw [hen', hb, if_pos rfl]
      refine mW ?_; clear H; intro a w H
      have e3 : AV.st [.v (.int .u8 1), .ba bkey, .ba bv, .ba (List.replicate 32 0), .ba (List.replicate 32 0)] = en'.av := by rw [e1]; rfl
      simp only [e3] at H
      exact key1 _ _ (H.to 7 0 ⟨Nat.le_trans hN (Nat.le_of_ble_eq_true rfl), hR⟩ ⟨rfl, rfl, rfl, rfl, rfl, trivial⟩ rfl rfl rfl rfl rfl)
    · have e1 : en' = en := by rw [hen', hb, if_neg (by decide)]
      refine mS ?_
      simp only [← e1] at H
      exact key1 _ _ (H.to 7 0 ⟨Nat.le_trans hN (Nat.le_of_ble_eq_true rfl), hR⟩ ⟨rfl, rfl, rfl, rfl, rfl, trivial⟩ rfl rfl rfl rfl rfl)
  intro a w H
  refine mS ?_; refine mD 0 [4, 9, 10] [5, 6, 7, 8] H ?_; clear H; intro gS H
  refine mT ?_; clear H; intro a w H
  refine mCallT [] [] (hlf) H ?_; clear H; intro a w H
  refine mT ?_; clear H; intro a w H
  refine mCallT [] [] (hun2) H ?_; clear H; intro a w H
  refine mT ?_; clear H; intro a w H
  refine v_drawNil H ?_; clear H; intro H
  refine mS ?_
  clear hX; have hX := @Nd.av.eq_1
  refine wp_ret ?_; exact mEnd [0, 1, 2, 3] [] [.cell 8 50, .tmp 9] [_, _] hN hR H
end Go.Proofs.Ytigmpdhnhkdeiaa
/- Digests of the empty place, of leaves, of inner nodes: the document's. -/
namespace Go.Proofs.Ytigmpdhnhkdeiaa
open Go Go.RowKit
theorem ofHR_v (t : UInt8) (ls : List (List UInt8)) (hb : ls.flatten.length ≤ 34359737000) (hl : ls.length ≤ 34359737000) : VC Try.prog 181 [.v (B8 t), .sl .sc (bss ls) none] [] (.ba (sum (t :: ls.flatten))) := by
  have h1 := textR_v t ls (by omega) (by omega)
  have h2 := sumR_v (t :: ls.flatten) (by simp only [List.length_cons]; omega)
  have hsl := sum_length (t :: ls.flatten)
  refine mE Try.func181 ?_; intro N w0 a w hN hR H
  refine mW ?_; clear H; intro a w H
  refine mCall [] [] (h1) H ?_; clear H; intro a w H; try refine wpList_nil ?_
  refine mW ?_; clear H; intro a w H
  refine mCall [] [] (h2) H ?_; clear H; intro a w H; try refine wpList_nil ?_
  refine mW ?_; clear H; intro a w H
  refine wp_ret ?_; exact mEnd [] [] [.cell 4 49] [_] hN hR H
theorem emptyR_v : VC Try.prog 173 [] [] (.ba (sum [0])) := by
  have hsl := sum_length [0]
  refine mE Try.func173 ?_; intro N w0 a w hN hR H
  refine mW ?_; clear H; intro a w H
  refine mCall [] [] (ofHR_v 0 [] (by simp) (by simp)) H ?_; clear H; intro a w H; try refine wpList_nil ?_
  refine mW ?_; clear H; intro a w H
  refine wp_ret ?_; exact mEnd [] [] [.cell 0 49] [_] hN hR H
theorem leafHR_v (k v : List UInt8) (hk : k.length = 32) (hv : v.length = 32) : VC Try.prog 175 [.ba k, .ba v] [] (.ba (leafH k v)) := by
  have h1 := leafR_v k v hk hv
  have h2 := sumR_v (1 :: (k ++ v)) (by simp; omega)
  have hsl := sum_length (1 :: (k ++ v))
  have hl : (1 :: (k ++ v)).length = 65 := by simp; omega
  unfold leafH
  refine mE Try.func175 ?_; intro N w0 a w hN hR H
  refine mW ?_; clear H; intro a w H
  refine mCall [] [] (h1) H ?_; clear H; intro a w H; try refine wpList_nil ?_
  refine mW ?_; clear H; intro a w H
  refine mCall [] [] (h2) H ?_; clear H; intro a w H; try refine wpList_nil ?_
  refine mW ?_; clear H; intro a w H
  refine wp_ret ?_; exact mEnd [] [] [.cell 4 49] [_] hN hR H
theorem innerHR_v (k v : List UInt8) (hk : k.length = 32) (hv : v.length = 32) : VC Try.prog 128 [.ba k, .ba v] [] (.ba (innerH k v)) := by
  have h1 := innerR_v k v hk hv
  have h2 := sumR_v (2 :: (k ++ v)) (by simp; omega)
  have hsl := sum_length (2 :: (k ++ v))
  unfold innerH
  refine mE Try.func128 ?_; intro N w0 a w hN hR H
  refine mW ?_; clear H; intro a w H
  refine mCall [] [] (h1) H ?_; clear H; intro a w H; try refine wpList_nil ?_
  refine mW ?_; clear H; intro a w H
  refine mCall [] [] (h2) H ?_; clear H; intro a w H; try refine wpList_nil ?_
  refine mW ?_; clear H; intro a w H
  refine wp_ret ?_; exact mEnd [] [] [.cell 4 49] [_] hN hR H
end Go.Proofs.Ytigmpdhnhkdeiaa
/- A contract that says less: rows that nobody will make longer. -/
namespace Go.Proofs.Ytigmpdhnhkdeiaa
open Go Go.RowKit
end Go.Proofs.Ytigmpdhnhkdeiaa
/- Proofs as bytes: how they are read. -/
namespace Go.Proofs.Ytigmpdhnhkdeiaa
open Go Go.RowKit
/-- The sides that marks and bytes say, what is left, and whether bytes were lacking. -/
def runS : List Bool → List UInt8 → List (List UInt8) × List UInt8 × Bool
  | [], r => ([], r, false)
  | m :: ms, r => if m = true ∧ r.length < 32 then ([E0], r, true) else ((if m then r.take 32 else E0) :: (runS ms (if m then r.drop 32 else r)).1, (runS ms (if m then r.drop 32 else r)).2)
def marksOf (bits : List UInt8) (n : Nat) : List Bool := (List.range n).map fun i => bitAt (bits.getD (i / 8) 0) (i % 8)
def rdQ (l : List UInt8) : Pf × Bool :=
  if l.length < 2 then (⟨[], .zero⟩, false) else
  if 256 < num 0 (l.take 2) then (⟨[], .zero⟩, false) else
  if (l.drop 2).length < (num 0 (l.take 2) + 7) / 8 then (⟨[], .zero⟩, false) else
  let x := runS (marksOf ((l.drop 2).take ((num 0 (l.take 2) + 7) / 8)) (num 0 (l.take 2))) ((l.drop 2).drop ((num 0 (l.take 2) + 7) / 8))
  if x.2.2 then (⟨x.1, .zero⟩, false) else (⟨x.1, dec x.2.1⟩, decide (decOk x.2.1))
end Go.Proofs.Ytigmpdhnhkdeiaa
