/- Proofs as bytes: read, and told again. -/
import Derived.Test.YtigmpdhnhkdeiaaPack2
import Derived.Test.YtigmpdhnhkdeiaaRise
import Derived.Test.YtigmpdhnhkdeiaaA5
import Derived.Test.YtigmpdhnhkdeiaaA2
set_option linter.unusedSimpArgs false
set_option linter.unusedVariables false
namespace Go.Proofs.Ytigmpdhnhkdeiaa
open Go Go.RowKit
theorem cmp_zero : ∀ x y : List UInt8, Lib.compareBytes x y = 0 ↔ x = y
  | [], [] => by simp [Lib.compareBytes]
  | [], _ :: _ => by simp [Lib.compareBytes]
  | _ :: _, [] => by simp [Lib.compareBytes]
  | x :: l, y :: m => by
    have ih := cmp_zero l m
    simp only [Lib.compareBytes]
    split
    · rename_i h; simp only [List.cons.injEq]; constructor
      · intro e; cases e
      · rintro ⟨rfl, _⟩; exact absurd h (by simp)
    · split
      · rename_i h; simp only [List.cons.injEq]; constructor
        · intro e; cases e
        · rintro ⟨rfl, _⟩; exact absurd h (by simp)
      · rename_i h1 h2
        have : x = y := by
          apply UInt8.toNat_inj.1
          have h1 := h1; have h2 := h2
          simp [UInt8.lt_iff_toNat_lt] at h1 h2
          omega
        subst this; simpa using ih
def Pf.zero : Pf := ⟨[], .zero⟩
def pOk (l : List UInt8) : Prop := (rdQ l).2 = true ∧ (rdQ l).1.chk = 0 ∧ (rdQ l).1.text = l
instance (l : List UInt8) : Decidable (pOk l) := inferInstanceAs (Decidable (_ ∧ _))
end Go.Proofs.Ytigmpdhnhkdeiaa
/- The digest at the top of a way: node.Up, and the document's. -/
namespace Go.Proofs.Ytigmpdhnhkdeiaa
open Go Go.RowKit
end Go.Proofs.Ytigmpdhnhkdeiaa
/- What a tree of digests says of a key (plain). -/
namespace Go.Proofs.Ytigmpdhnhkdeiaa
open Go Go.RowKit
/-- What is read has what the parts have. -/
theorem rd_parts {op : List UInt8 → Nat → Bool} : ∀ {f : Nat} {top : List UInt8} {d : Nat} {l : List Br} {t : Tr} {r : List Br}, rdTr op f top d l = some (t, r) → (∀ b ∈ l, b.wf) → (∀ b ∈ r, b.wf) ∧ t.dg.length = 32 ∧ (∀ x ∈ t.leaves, x.1.length = 32 ∧ x.2.length = 32) ∧ (∀ k d, ∀ g ∈ t.way k d, g.length = 32) ∧ r.length < l.length ∧ t.leaves.length + r.length ≤ l.length
  | 0, top, d, l, t, r, h, _ => by simp [rdTr] at h
  | f + 1, top, d, [], t, r, h, _ => by simp [rdTr] at h
  | f + 1, top, d, b :: rest, t, r, h, hw => by
    have hw2 : ∀ b ∈ rest, b.wf := fun b hb => hw b (List.mem_cons_of_mem _ hb)
    have hb := hw b List.mem_cons_self
    unfold rdTr at h
    split at h
    · cases h
    · split at h
      · simp only [Option.some.injEq, Prod.mk.injEq] at h; obtain ⟨rfl, rfl⟩ := h
        exact ⟨hw2, sum_length _, fun x hx => (by cases hx), fun k d g hg => by simp [Tr.way] at hg, by simp, by simp [Tr.leaves]⟩
      · split at h
        · split at h
          · cases h
          · simp only [Option.some.injEq, Prod.mk.injEq] at h; obtain ⟨rfl, rfl⟩ := h
            exact ⟨hw2, hb.g, fun x hx => (by cases hx), fun k d g hg => by simp [Tr.way] at hg, by simp, by simp [Tr.leaves]⟩
        · split at h
          · cases h
          · split at h
            · split at h
              · simp only [Option.some.injEq, Prod.mk.injEq] at h; obtain ⟨rfl, rfl⟩ := h
                refine ⟨hw2, leafH_len _ _, fun x hx => ?_, fun k d g hg => by simp [Tr.way] at hg, by simp, by simp [Tr.leaves]; omega⟩
                simp only [Tr.leaves, List.mem_singleton] at hx; subst hx; exact ⟨hb.key, hb.v⟩
              · cases h
            · split at h
              · cases h
              · split at h
                · cases h
                · rename_i x r1 e1
                  split at h
                  · cases h
                  · rename_i y r2 e2
                    simp only [Option.some.injEq, Prod.mk.injEq] at h; obtain ⟨rfl, rfl⟩ := h
                    obtain ⟨a1, a2, a3, a4, a5, a6⟩ := rd_parts e1 hw2
                    obtain ⟨b1, b2, b3, b4, b5, b6⟩ := rd_parts e2 a1
                    refine ⟨b1, innerH_len _ _, fun z hz => ?_, fun k d g hg => ?_, by simp; omega, by simp [Tr.leaves]; omega⟩
                    · simp only [Tr.leaves, List.mem_append] at hz
                      exact hz.elim (a3 z) (b3 z)
                    · simp only [Tr.way] at hg
                      split at hg
                      · rcases List.mem_cons.1 hg with rfl | hg
                        · exact a2
                        · exact b4 _ _ _ hg
                      · rcases List.mem_cons.1 hg with rfl | hg
                        · exact b2
                        · exact a4 _ _ _ hg
end Go.Proofs.Ytigmpdhnhkdeiaa
/- Places of a sketch (plain): what the document's reader tells. -/
namespace Go.Proofs.Ytigmpdhnhkdeiaa
open Go Go.RowKit
/-- A place: its part, its digest, its depth, a key that goes there, how many parts it and all below it have. -/
structure Pl where
  b : Br
  g : List UInt8
  d : Nat
  p : List UInt8
  n : Nat
def Tr.part : Tr → Br
  | .e => ⟨0, z32, z32, z32⟩
  | .c g => ⟨3, z32, z32, g⟩
  | .l k v => ⟨1, k, v, z32⟩
  | .n _ _ => ⟨2, z32, z32, z32⟩
def Tr.num : Tr → Nat
  | .n a b => 1 + a.num + b.num
  | _ => 1
def Tr.pl : Tr → List UInt8 → Nat → List Pl
  | .n a b, p, d => ⟨⟨2, z32, z32, z32⟩, innerH a.dg b.dg, d, p, 1 + a.num + b.num⟩ :: (a.pl p (d + 1) ++ b.pl (flipL p d) (d + 1))
  | .e, p, d => [⟨Tr.e.part, Tr.e.dg, d, p, 1⟩]
  | .c g, p, d => [⟨(Tr.c g).part, (Tr.c g).dg, d, p, 1⟩]
  | .l k v, p, d => [⟨(Tr.l k v).part, (Tr.l k v).dg, d, p, 1⟩]
theorem Tr.num_pos (t : Tr) : 0 < t.num := by cases t <;> simp [Tr.num]; omega
theorem Tr.pl_len (t : Tr) : ∀ p d, (t.pl p d).length = t.num := by
  induction t with
  | n a b ha hb => intro p d; simp only [Tr.pl, List.length_cons, List.length_append, ha, hb, Tr.num]; omega
  | _ => intro p d; rfl
theorem Tr.pl_head (t : Tr) (p : List UInt8) (d : Nat) : ∃ r, t.pl p d = ⟨t.part, t.dg, d, p, t.num⟩ :: r := by
  cases t <;> exact ⟨_, rfl⟩
theorem clean_e {b : Br} (h : b.clean = true) : (b.k = 0 → b = Tr.e.part) ∧ (b.k = 1 → b = (Tr.l b.key b.v).part) ∧ (b.k = 2 → b = ⟨2, z32, z32, z32⟩) ∧ (b.k = 3 → b = (Tr.c b.g).part) := by
  obtain ⟨k, key, v, g⟩ := b
  refine ⟨fun e => ?_, fun e => ?_, fun e => ?_, fun e => ?_⟩ <;> dsimp only at e <;> subst e <;> unfold Br.clean at h
  · rw [if_pos (Or.inl rfl), decide_eq_true_iff] at h; obtain ⟨h1, h2, h3⟩ := h; dsimp only at h1 h2 h3; rw [h1, h2, h3]; rfl
  · rw [if_neg (by dsimp only; decide), if_pos rfl, decide_eq_true_iff] at h; dsimp only at h; rw [h]; rfl
  · rw [if_pos (Or.inr rfl), decide_eq_true_iff] at h; obtain ⟨h1, h2, h3⟩ := h; dsimp only at h1 h2 h3; rw [h1, h2, h3]
  · rw [if_neg (by dsimp only; decide), if_neg (by dsimp only; decide), if_pos rfl, decide_eq_true_iff] at h; obtain ⟨h1, h2⟩ := h; dsimp only at h1 h2; rw [h1, h2]; rfl
/-- The document's reader. -/
def rdP (op : List UInt8 → Nat → Bool) : Nat → List Br → List UInt8 → Nat → List Pl × Bool
  | 0, _, _, _ => ([], false)
  | _ + 1, [], _, _ => ([], false)
  | f + 1, b :: r, p, d =>
    if b.clean = false then ([], false)
    else if b.k = 0 then ([⟨b, sum [0], d, p, 1⟩], true)
    else if op p d = false then ([⟨b, b.g, d, p, 1⟩], decide (b.k = 3))
    else if b.k = 1 then ([⟨b, leafH b.key b.v, d, p, 1⟩], und d b.key p)
    else if b.k ≠ 2 ∨ 255 < d then ([], false)
    else
      let x := rdP op f r p (d + 1)
      if x.2 = false then ([], false) else
      let y := rdP op f ((b :: r).drop (1 + ((x.1.head?.map Pl.n).getD 0))) (flipL p d) (d + 1)
      if y.2 = false then ([], false) else
      (⟨b, innerH ((x.1.head?.map Pl.g).getD z32) ((y.1.head?.map Pl.g).getD z32), d, p, 1 + ((x.1.head?.map Pl.n).getD 0) + ((y.1.head?.map Pl.n).getD 0)⟩ :: (x.1 ++ y.1), true)
theorem rdP_some {op : List UInt8 → Nat → Bool} : ∀ {f : Nat} {p : List UInt8} {d : Nat} {l : List Br} {t : Tr} {r : List Br}, f + d = 257 → rdTr op f p d l = some (t, r) → rdP op f l p d = (t.pl p d, true) ∧ l.drop t.num = r ∧ t.num ≤ l.length
  | 0, p, d, l, t, r, _, h => by simp [rdTr] at h
  | f + 1, p, d, [], t, r, _, h => by simp [rdTr] at h
  | f + 1, p, d, b :: rest, t, r, hf, h => by
    unfold rdTr at h
    unfold rdP
    split at h
    · cases h
    · rename_i h1
      rw [if_neg h1]
      have hc := clean_e (by simpa using h1)
      split at h
      · rename_i h2
        simp only [Option.some.injEq, Prod.mk.injEq] at h; obtain ⟨rfl, rfl⟩ := h
        rw [if_pos h2]
        refine ⟨?_, rfl, by simp [Tr.num]⟩
        rw [hc.1 h2]; rfl
      · rename_i h2
        rw [if_neg h2]
        split at h
        · rename_i h3
          split at h
          · cases h
          · rename_i h4
            simp only [Option.some.injEq, Prod.mk.injEq] at h; obtain ⟨rfl, rfl⟩ := h
            rw [if_pos (by simpa using h4)]
            refine ⟨?_, rfl, by simp [Tr.num]⟩
            simp only [Tr.pl, Tr.dg, Prod.mk.injEq, List.cons.injEq, Pl.mk.injEq, and_true]
            exact ⟨hc.2.2.2 h3, decide_eq_true h3⟩
        · rename_i h3
          split at h
          · cases h
          · rename_i h4
            rw [if_neg h4]
            split at h
            · rename_i h5
              rw [if_pos h5]
              split at h
              · rename_i h6
                simp only [Option.some.injEq, Prod.mk.injEq] at h; obtain ⟨rfl, rfl⟩ := h
                refine ⟨?_, rfl, by simp [Tr.num]⟩
                simp only [Tr.pl, Tr.dg, Prod.mk.injEq, List.cons.injEq, Pl.mk.injEq, and_true]
                exact ⟨hc.2.1 h5, h6⟩
              · cases h
            · rename_i h5
              rw [if_neg h5]
              split at h
              · cases h
              · rename_i h6
                have hk2 : b.k = 2 := by
                  rcases Br.clean_k (by simpa using h1) with q | q | q | q
                  · exact absurd q h2
                  · exact absurd q h5
                  · exact q
                  · exact absurd q h3
                rw [if_neg (by rintro (q | q); exact q hk2; omega)]
                split at h
                · cases h
                · rename_i x r1 e1
                  split at h
                  · cases h
                  · rename_i y r2 e2
                    simp only [Option.some.injEq, Prod.mk.injEq] at h; obtain ⟨rfl, rfl⟩ := h
                    obtain ⟨a1, a2, a3⟩ := rdP_some (by omega) e1
                    obtain ⟨b1, b2, b3⟩ := rdP_some (by omega) e2
                    obtain ⟨q1, hq1⟩ := x.pl_head p (d + 1)
                    obtain ⟨q2, hq2⟩ := y.pl_head (flipL p d) (d + 1)
                    have hdr : (b :: rest).drop (1 + x.num) = r1 := by rw [Nat.add_comm, List.drop_succ_cons]; exact a2
                    have hd1 : (((x.pl p (d + 1)).head?.map Pl.n).getD 0) = x.num := by rw [hq1]; rfl
                    have hd2 : (((y.pl (flipL p d) (d + 1)).head?.map Pl.n).getD 0) = y.num := by rw [hq2]; rfl
                    have hd3 : (((x.pl p (d + 1)).head?.map Pl.g).getD z32) = x.dg := by rw [hq1]; rfl
                    have hd4 : (((y.pl (flipL p d) (d + 1)).head?.map Pl.g).getD z32) = y.dg := by rw [hq2]; rfl
                    rw [a1]
                    dsimp only
                    rw [if_neg (by simp), hd1, hdr, b1]
                    dsimp only
                    rw [if_neg (by simp), hd2, hd3, hd4]
                    have hr1 : r1.length = rest.length - x.num := by rw [← a2, List.length_drop]
                    refine ⟨?_, ?_, ?_⟩
                    · simp only [Tr.pl, Prod.mk.injEq, List.cons.injEq, Pl.mk.injEq, and_true]
                      exact hc.2.2.1 hk2
                    · rw [Tr.num, show 1 + x.num + y.num = (x.num + y.num) + 1 by omega, List.drop_succ_cons, ← b2, ← a2, List.drop_drop]
                    · simp only [Tr.num, List.length_cons]; omega
theorem rdP_none {op : List UInt8 → Nat → Bool} : ∀ {f : Nat} {p : List UInt8} {d : Nat} {l : List Br}, f + d = 257 → rdTr op f p d l = none → (rdP op f l p d).2 = false
  | 0, p, d, l, _, h => by simp [rdP]
  | f + 1, p, d, [], _, h => by simp [rdP]
  | f + 1, p, d, b :: rest, hf, h => by
    unfold rdTr at h
    unfold rdP
    split at h
    · rename_i h1; rw [if_pos h1]
    · rename_i h1
      rw [if_neg h1]
      split at h
      · cases h
      · rename_i h2
        rw [if_neg h2]
        split at h
        · rename_i h3
          split at h
          · rename_i h4
            rw [if_neg (by rw [h4]; decide), if_neg (by rw [h3]; decide), if_pos (.inl (by rw [h3]; decide))]
          · cases h
        · rename_i h3
          split at h
          · rename_i h4; rw [if_pos h4]; exact decide_eq_false h3
          · rename_i h4
            rw [if_neg h4]
            split at h
            · rename_i h5
              rw [if_pos h5]
              split at h
              · cases h
              · rename_i h6; simpa using h6
            · rename_i h5
              rw [if_neg h5]
              split at h
              · rename_i h6
                rw [if_pos (.inr (by omega))]
              · rename_i h6
                split
                · rfl
                · split at h
                  · rename_i e1
                    dsimp only
                    rw [if_pos (rdP_none (by omega) e1)]
                  · rename_i x r1 e1
                    obtain ⟨a1, a2, a3⟩ := rdP_some (by omega) e1
                    obtain ⟨q1, hq1⟩ := x.pl_head p (d + 1)
                    have hd1 : (((x.pl p (d + 1)).head?.map Pl.n).getD 0) = x.num := by rw [hq1]; rfl
                    have hdr : (b :: rest).drop (1 + x.num) = r1 := by rw [Nat.add_comm, List.drop_succ_cons]; exact a2
                    split at h
                    · rename_i e2
                      rw [a1]
                      dsimp only
                      rw [if_neg (by simp), hd1, hdr, if_pos (rdP_none (by omega) e2)]
                    · cases h
end Go.Proofs.Ytigmpdhnhkdeiaa
/- A key's way through places (plain). -/
namespace Go.Proofs.Ytigmpdhnhkdeiaa
open Go Go.RowKit
/-- The place at which a key's way ends. -/
def Tr.last (key : List UInt8) : Nat → Tr → Tr
  | d, .n a b => if bitN key d then b.last key (d + 1) else a.last key (d + 1)
  | _, .e => .e
  | _, .c g => .c g
  | _, .l k v => .l k v
theorem rd_last {op : List UInt8 → Nat → Bool} {k : List UInt8} (hop : ∀ top d, d ≤ 256 → und d k top = true → op top d = true) : ∀ {f : Nat} {top : List UInt8} {d : Nat} {l : List Br} {t : Tr} {r : List Br}, f + d = 257 → Low d top → rdTr op f top d l = some (t, r) → und d k top = true → ∀ g, t.last k d ≠ .c g
  | 0, top, d, l, t, r, _, _, h, _ => by simp [rdTr] at h
  | f + 1, top, d, [], t, r, _, _, h, _ => by simp [rdTr] at h
  | f + 1, top, d, b :: rest, t, r, hf, hl, h, hu => by
    intro g
    unfold rdTr at h
    split at h
    · cases h
    · split at h
      · simp only [Option.some.injEq, Prod.mk.injEq] at h; obtain ⟨rfl, rfl⟩ := h; intro e; cases e
      · split at h
        · split at h
          · cases h
          · rename_i h4; exact absurd (hop top d (by omega) hu) h4
        · split at h
          · cases h
          · split at h
            · split at h
              · simp only [Option.some.injEq, Prod.mk.injEq] at h; obtain ⟨rfl, rfl⟩ := h; intro e; cases e
              · cases h
            · split at h
              · cases h
              · have hd : d < 256 := by omega
                split at h
                · cases h
                · rename_i x r1 e1
                  split at h
                  · cases h
                  · rename_i y r2 e2
                    simp only [Option.some.injEq, Prod.mk.injEq] at h; obtain ⟨rfl, rfl⟩ := h
                    unfold Tr.last
                    cases hb : bitN k d
                    · rw [if_neg (by decide)]
                      exact rd_last hop (by omega) hl.up e1 (by rw [und_left hd hl, hu, hb]; rfl) g
                    · rw [if_pos rfl]
                      exact rd_last hop (by omega) (hl.flip hd) e2 (by rw [und_right hd hl, hu, hb]; rfl) g
/-- A place of a list of places: a tree there, and what is after it. -/
def AtP (l : List Pl) (i : Nat) (u : Tr) (q : List UInt8) (e : Nat) : Prop := ∃ r, l.drop i = u.pl q e ++ r
theorem AtP.top (t : Tr) (p : List UInt8) (d : Nat) : AtP (t.pl p d) 0 t p d := ⟨[], by simp⟩
theorem AtP.get {l : List Pl} {i : Nat} {u : Tr} {q : List UInt8} {e : Nat} (h : AtP l i u q e) : i + u.num ≤ l.length ∧ l[i]? = some ⟨u.part, u.dg, e, q, u.num⟩ := by
  obtain ⟨r, h⟩ := h
  obtain ⟨r2, h2⟩ := u.pl_head q e
  have hl := congrArg List.length h
  rw [List.length_drop, List.length_append, Tr.pl_len] at hl
  have hp := u.num_pos
  refine ⟨by omega, ?_⟩
  have := congrArg (fun x => x[0]?) h
  simp only [List.getElem?_drop, Nat.add_zero] at this
  rw [this, h2]; rfl
theorem AtP.left {l : List Pl} {i : Nat} {a b : Tr} {q : List UInt8} {e : Nat} (h : AtP l i (.n a b) q e) : AtP l (i + 1) a q (e + 1) := by
  obtain ⟨r, h⟩ := h
  refine ⟨b.pl (flipL q e) (e + 1) ++ r, ?_⟩
  rw [← List.drop_drop, h]
  simp only [Tr.pl, List.cons_append, List.drop_succ_cons, List.drop_zero, List.append_assoc]
theorem AtP.right {l : List Pl} {i : Nat} {a b : Tr} {q : List UInt8} {e : Nat} (h : AtP l i (.n a b) q e) : AtP l (i + 1 + a.num) b (flipL q e) (e + 1) := by
  obtain ⟨r, h⟩ := h
  refine ⟨r, ?_⟩
  rw [← List.drop_drop, ← List.drop_drop, h]
  simp only [Tr.pl, List.cons_append, List.drop_succ_cons, List.drop_zero, List.append_assoc]
  rw [← Tr.pl_len a q (e + 1), List.drop_left]
theorem Tr.part_k (t : Tr) : t.part.k = 2 ↔ ∃ a b, t = .n a b := by
  cases t with
  | n a b => exact ⟨fun _ => ⟨a, b, rfl⟩, fun _ => rfl⟩
  | e => exact ⟨fun h => absurd h (by decide), fun ⟨_, _, h⟩ => by cases h⟩
  | c g => exact ⟨fun h => absurd h (by simp [Tr.part]), fun ⟨_, _, h⟩ => by cases h⟩
  | l k v => exact ⟨fun h => absurd h (by simp [Tr.part]), fun ⟨_, _, h⟩ => by cases h⟩
theorem Tr.last_n {key : List UInt8} {d : Nat} {t : Tr} (h : t.part.k ≠ 2) : t.last key d = t ∧ t.way key d = [] := by
  cases t with
  | n a b => exact absurd rfl h
  | _ => exact ⟨rfl, rfl⟩
theorem Tr.fin_last (key : List UInt8) (x : Nd) : ∀ (t : Tr) (d : Nat), t.fin key d x = match t.last key d with | .l k v => Nd.one k v | _ => x
  | .n a b, d => by
    unfold Tr.fin Tr.last
    split
    · exact Tr.fin_last key x b (d + 1)
    · exact Tr.fin_last key x a (d + 1)
  | .e, d => rfl
  | .c g, d => rfl
  | .l k v, d => rfl
def Pl.leaf (x : Pl) : Option (List UInt8 × List UInt8) := if x.b.k = 1 then some (x.b.key, x.b.v) else none
theorem Tr.pl_leaves (t : Tr) : ∀ p d, (t.pl p d).filterMap Pl.leaf = t.leaves := by
  induction t with
  | n a b ha hb =>
    intro p d
    simp only [Tr.pl, Tr.leaves]
    rw [List.filterMap_cons_none (by unfold Pl.leaf; exact if_neg (by dsimp only; decide)), List.filterMap_append, ha, hb]
  | e => intro p d; rfl
  | c g => intro p d; rfl
  | l k v => intro p d; rfl
end Go.Proofs.Ytigmpdhnhkdeiaa
/- The document's reader of a sketch: ref20.Read, by what has to be open. -/
namespace Go.Proofs.Ytigmpdhnhkdeiaa
open Go Go.RowKit
/-- What is asked. -/
abbrev askE (ks : List (List UInt8)) (sp : Bool) (fr to : List UInt8) : AV := .st [.sl (.ba 32) (bas ks) none, .v (.bool sp), .ba fr, .ba to]
def Pl.av (x : Pl) : AV := .st [x.b.av, .ba x.g, .v (.int .i64 (x.d : Int)), .ba x.p, .v (.int .i64 (x.n : Int))]
def pls (l : List Pl) : List AV := l.map Pl.av
theorem pls_len (l : List Pl) : (pls l).length = l.length := by simp [pls]
abbrev plT : Ty := ti56.ty
theorem rd_dgl : ∀ {op : List UInt8 → Nat → Bool} {f : Nat} {p : List UInt8} {d : Nat} {l : List Br} {t : Tr} {r : List Br}, (∀ b ∈ l, b.wf) → rdTr op f p d l = some (t, r) → t.dg.length = 32 ∧ ∀ b ∈ r, b.wf
  | op, 0, p, d, l, t, r, _, h => by simp [rdTr] at h
  | op, f + 1, p, d, [], t, r, _, h => by simp [rdTr] at h
  | op, f + 1, p, d, b :: rest, t, r, hw, h => by
    have hw2 : ∀ b ∈ rest, b.wf := fun b hb => hw b (List.mem_cons_of_mem _ hb)
    unfold rdTr at h
    split at h
    · cases h
    · split at h
      · simp only [Option.some.injEq, Prod.mk.injEq] at h; obtain ⟨rfl, rfl⟩ := h; exact ⟨sum_length _, hw2⟩
      · split at h
        · split at h
          · cases h
          · simp only [Option.some.injEq, Prod.mk.injEq] at h; obtain ⟨rfl, rfl⟩ := h; exact ⟨(hw b List.mem_cons_self).g, hw2⟩
        · split at h
          · cases h
          · split at h
            · split at h
              · simp only [Option.some.injEq, Prod.mk.injEq] at h; obtain ⟨rfl, rfl⟩ := h; exact ⟨leafH_len _ _, hw2⟩
              · cases h
            · split at h
              · cases h
              · split at h
                · cases h
                · rename_i x r1 e1
                  split at h
                  · cases h
                  · rename_i y r2 e2
                    simp only [Option.some.injEq, Prod.mk.injEq] at h; obtain ⟨rfl, rfl⟩ := h
                    exact ⟨innerH_len _ _, (rd_dgl (rd_dgl hw2 e1).2 e2).2⟩
theorem rdP_cons (op : List UInt8 → Nat → Bool) (f : Nat) (b : Br) (r : List Br) (p : List UInt8) (d : Nat) : rdP op (f + 1) (b :: r) p d =
    if b.clean = false then ([], false)
    else if b.k = 0 then ([⟨b, sum [0], d, p, 1⟩], true)
    else if op p d = false then ([⟨b, b.g, d, p, 1⟩], decide (b.k = 3))
    else if b.k = 1 then ([⟨b, leafH b.key b.v, d, p, 1⟩], und d b.key p)
    else if b.k ≠ 2 ∨ 255 < d then ([], false)
    else
      if (rdP op f r p (d + 1)).2 = false then ([], false) else
      if (rdP op f ((b :: r).drop (1 + (((rdP op f r p (d + 1)).1.head?.map Pl.n).getD 0))) (flipL p d) (d + 1)).2 = false then ([], false) else
      (⟨b, innerH (((rdP op f r p (d + 1)).1.head?.map Pl.g).getD z32) (((rdP op f ((b :: r).drop (1 + (((rdP op f r p (d + 1)).1.head?.map Pl.n).getD 0))) (flipL p d) (d + 1)).1.head?.map Pl.g).getD z32), d, p, 1 + (((rdP op f r p (d + 1)).1.head?.map Pl.n).getD 0) + (((rdP op f ((b :: r).drop (1 + (((rdP op f r p (d + 1)).1.head?.map Pl.n).getD 0))) (flipL p d) (d + 1)).1.head?.map Pl.n).getD 0)⟩ :: ((rdP op f r p (d + 1)).1 ++ (rdP op f ((b :: r).drop (1 + (((rdP op f r p (d + 1)).1.head?.map Pl.n).getD 0))) (flipL p d) (d + 1)).1), true) := rfl
theorem Tr.pl_top (t : Tr) (p : List UInt8) (d : Nat) : ((t.pl p d).head?.map Pl.n).getD 0 = t.num ∧ ((t.pl p d).head?.map Pl.g).getD z32 = t.dg ∧ (pls (t.pl p d)).getD 0 .any = (⟨t.part, t.dg, d, p, t.num⟩ : Pl).av := by
  obtain ⟨r, h⟩ := t.pl_head p d
  rw [h]; exact ⟨rfl, rfl, rfl⟩
attribute [local irreducible] wpT
abbrev read20 (ks : List (List UInt8)) (sp : Bool) (fr to : List UInt8) (l : List Br) (p : List UInt8) (d : Nat) (L : List Pl) (o : Bool) : Prop :=
  VC Try.prog 111 [askE ks sp fr to, .sl brT (brs l) none, .ba p, .v (.int .i64 (d : Int))] [] (.tup [.sl plT (pls L) none, .v (.bool o)])
set_option maxRecDepth 20000 in
theorem read20_nil (ks : List (List UInt8)) (sp : Bool) (fr to p : List UInt8) (d : Nat) (h1 : fr.length = 32) (h2 : to.length = 32) (ht : p.length = 32) : read20 ks sp fr to [] p d [] false := by
  have hbl : (brs []).length = 0 := rfl
  unfold read20
  simp only [pls, List.map_nil]
  refine mE Try.func111 ?_; intro N w0 a w hN hR H
  have hX := And.intro @hbl (And.intro @ht (And.intro @h1 (@h2)))
  refine mW ?_; clear H; intro a w H
  refine mSk (.v (.bool true)) H ?_; clear H; intro a w H
  refine mW ?_; clear H; intro a w H
  refine mC H (fun hb => ?_) (fun hb => ?_)
  · refine mW ?_; clear H; intro a w H
    refine wp_ret ?_; exact mEnd [] [] [.tmp 8, .tmp 9] [_, _] hN hR H
  · exact absurd hb (by decide)
set_option maxRecDepth 20000 in
set_option maxHeartbeats 4000000 in
/-- What is read of a part that is none of an inner place. -/
theorem read20_one (ks : List (List UInt8)) (sp : Bool) (fr to : List UInt8) (op : List UInt8 → Nat → Bool) (h1 : fr.length = 32) (h2 : to.length = 32) (p : List UInt8) (d : Nat) (ht : p.length = 32) (hd256 : d ≤ 256) (b : Br) (rest : List Br) (hbw : b.wf)
    (hop1 : VC Try.prog 174 [askE ks sp fr to, .ba p, .v (.int .i64 ((d : Nat) : Int))] [] (.v (.bool (op p d)))) (hl : rest.length < 65536)
    (hno : b.clean = false ∨ b.k = 0 ∨ op p d = false ∨ b.k = 1 ∨ b.k ≠ 2 ∨ 255 < d) (f : Nat) :
    read20 ks sp fr to (b :: rest) p d (rdP op (f + 1) (b :: rest) p d).1 (rdP op (f + 1) (b :: rest) p d).2 := by
  have hcl := cleanR_v b hbw
  have hem := emptyR_v
  unfold read20
  rw [rdP_cons]
  obtain ⟨bk, bkey, bv, bg⟩ := b
  obtain ⟨q1, q2, q3⟩ := id hbw
  dsimp only at q1 q2 q3 hno
  have hun := underR_v bkey p q1 ht (d : Int)
  have eu : decide (0 ≤ (d : Int) ∧ (d : Int) ≤ 256 ∧ (d : Int) ≤ (com bkey p : Int)) = und d bkey p := by
    unfold und; rw [decide_eq_decide]; omega
  rw [eu] at hun
  have hlf := leafHR_v bkey bv q1 q2
  have hll := leafH_len bkey bv
  generalize hbe : brs (⟨bk, bkey, bv, bg⟩ :: rest) = B
  have hbl : B.length = rest.length + 1 := by rw [← hbe]; simp [brs]
  have hb0 : B.getD 0 .any = .st [.v (B8 bk), .ba bkey, .ba bv, .ba bg] := by rw [← hbe]; rfl
  have e0 : decide (((rest.length + 1 : Nat) : Int) = 0) = false := decide_eq_false (by omega)
  have k0 : decide ((bk.toNat : Int) = 0) = decide (bk = 0) := kz bk 0 (by decide)
  have k1 : decide ((bk.toNat : Int) = 1) = decide (bk = 1) := kz bk 1 (by decide)
  have k2 : decide ((bk.toNat : Int) = 2) = decide (bk = 2) := kz bk 2 (by decide)
  have k3 : decide ((bk.toNat : Int) = 3) = decide (bk = 3) := kz bk 3 (by decide)
  have hs0 : (sum [0]).length = 32 := sum_length _
  have hfit : fit (Ty.sc.cn ((Ty.ba 32).cn ((Ty.ba 32).cn ((Ty.ba 32).cn Ty.nl)))) (B.getD 0 AV.any) := by rw [hb0]; exact ⟨trivial, q1, q2, q3, trivial⟩
  dsimp only
  simp only [Br.av] at hcl
  clear hbe
  refine mE Try.func111 ?_; intro N w0 a w hN hR H
  have hX := And.intro @hbl (And.intro @hb0 (And.intro @ht (And.intro @q1 (And.intro @q2 (And.intro @q3 (And.intro @hs0 (And.intro @h1 (@h2))))))))
  refine mW ?_; clear H; intro a w H
  refine mCallG [] [] (hcl) H ?_; clear H; intro a w H; try refine wpList_nil ?_
  simp only [e0] at H
  refine mW ?_; clear H; intro a w H
  refine mC H (fun hb => ?_) (fun hb => ?_)
  · have hc : Br.clean ⟨bk, bkey, bv, bg⟩ = false := by simpa using hb
    rw [if_pos hc]
    simp only [pls, List.map_nil]
    refine mW ?_; clear H; intro a w H
    refine wp_ret ?_; exact mEnd [] [] [.tmp 8, .tmp 9] [_, _] hN hR H
  · have hc : Br.clean ⟨bk, bkey, bv, bg⟩ = true := by simpa using hb
    rw [if_neg (by rw [hc]; decide)]
    rw [hc] at hno
    clear hb
    refine mS ?_
    replace H := mK [0, 1, 2, 3, 4, 6, 8, 9] 2 0 hN hR H
    refine mW ?_; clear H; intro a w H
    refine mCall [] [] (hem) H ?_; clear H; intro a w H; try refine wpList_nil ?_
    refine mW ?_; clear H; intro a w H
    refine mC H (fun hb => ?_) (fun hb => ?_)
    · rw [k0, decide_eq_true_eq] at hb
      rw [if_pos hb]
      simp only [pls, List.map_cons, List.map_nil, Pl.av, Br.av]
      refine mW ?_; clear H; intro a w H
      refine wp_ret ?_; exact mEnd [] [] [.tmp 8, .tmp 9] [_, _] hN hR H
    · rw [k0, decide_eq_false_iff_not] at hb
      rw [if_neg hb]
      have n0 := hb
      clear hb
      refine mS ?_
      replace H := mK [0, 1, 2, 3, 4, 6, 8, 9, 10, 11] 5 0 hN hR H
      refine mW ?_; clear H; intro a w H
      refine mCall [] [] (hop1) H ?_; clear H; intro a w H; try refine wpList_nil ?_
      refine mW ?_; clear H; intro a w H
      refine mC H (fun hb => ?_) (fun hb => ?_)
      · have ho : op p d = false := by simpa using hb
        rw [if_pos ho]
        simp only [pls, List.map_cons, List.map_nil, Pl.av, Br.av]
        refine mW ?_; clear H; intro a w H
        refine mS ?_; refine mD 5 [1] [2, 3, 4] H ?_; clear H; intro gS H
        refine mT ?_; clear H; intro a w H
        refine v_drawNil H ?_; clear H; intro H
        simp only [k3] at H
        refine mW ?_; clear H; intro a w H
        refine wp_ret ?_; exact mEnd [] [] [.tmp 8, .tmp 9] [_, _] hN hR H
      · have ho : op p d = true := by simpa using hb
        rw [if_neg (by rw [ho]; decide)]
        rw [ho] at hno
        clear hb
        refine mS ?_
        replace H := mK [0, 1, 2, 3, 4, 6, 8, 9, 10, 11] 5 0 hN hR H
        refine mW ?_; clear H; intro a w H
        refine mC H (fun hb => ?_) (fun hb => ?_)
        · rw [k1, decide_eq_true_eq] at hb
          rw [if_pos hb]
          simp only [pls, List.map_cons, List.map_nil, Pl.av, Br.av]
          clear hX; have hX := And.intro @hbl (And.intro @hb0 (And.intro @ht (And.intro @q1 (And.intro @q2 (And.intro @q3 (And.intro @hs0 (And.intro @h1 (And.intro @h2 (@hll)))))))))
          refine mW ?_; clear H; intro a w H
          refine mCall [] [] (hlf) H ?_; clear H; intro a w H; try refine wpList_nil ?_
          refine mW ?_; clear H; intro a w H
          repeat (first | refine wp_seq ?_ | refine wp_block ?_)
          refine v_drawZ 5 [0, 2, 3, 4, 5, 1, 6, 7, 8] [1, 6] [0, 2, 3, 4, 5] [(1, 6)] (by kernel_rfl) (by kernel_rfl) (by kernel_rfl) (by kernel_rfl) (by kernel_rfl) H (by rfl) ?_; clear H; intro gS H; try replace H := ntf H
          repeat' ((first | refine wpZ_q1 rfl rfl ?_ | refine wpZ_l1 rfl rfl rfl ?_ | refine wpZ_l2 rfl rfl rfl rfl rfl ?_ ?_ | refine wpZ_l3 rfl rfl rfl rfl rfl rfl rfl ?_ ?_ ?_ | refine wpZ_l4 rfl rfl rfl rfl rfl rfl rfl rfl rfl ?_ ?_ ?_ ?_) <;> ((first | (refine wpT_at 6 ?_; refine mCallT [] [] (hun) H ?_; clear H; intro a w H) | (refine v_someT 1 tab_ok hN H rfl ctX ?_; clear H; intro a w H; replace H := ntf H; simp only [List.drop_succ_cons, List.drop_zero, List.drop_nil])); refine wpT_nil ?_; try dsimp only))
          all_goals (refine wpZ_nil ?_; replace H := RelT.toRel H)
          all_goals
            refine mW ?_; clear H; intro a w H
            refine wp_ret ?_; exact mEnd [] [] [.tmp 8, .tmp 9] [_, _] hN hR H
        · rw [k1, decide_eq_false_iff_not] at hb
          rw [if_neg hb]
          have n1 := hb
          clear hb
          refine mW ?_; clear H; intro a w H
          simp only [k2] at H
          have e : bk ≠ 2 ∨ 255 < d := by
            rcases hno with h | h | h | h | h
            · cases h
            · exact absurd h n0
            · cases h
            · exact absurd h n1
            · exact h
          refine mC H (fun hb => ?_) (fun hb => ?_)
          · rw [if_pos e]
            simp only [pls, List.map_nil]
            refine mW ?_; clear H; intro a w H
            refine wp_ret ?_; exact mEnd [] [] [.tmp 8, .tmp 9] [_, _] hN hR H
          · exfalso
            by_cases hk : bk = 2
            · rw [hk] at hb
              have : decide (255 < (d : Int)) = false := hb
              rw [decide_eq_false_iff_not] at this
              rcases e with e | e
              · exact e hk
              · omega
            · rw [decide_eq_false hk] at hb; cases hb
end Go.Proofs.Ytigmpdhnhkdeiaa
/- The document's reader of a sketch at an inner place. -/
namespace Go.Proofs.Ytigmpdhnhkdeiaa
open Go Go.RowKit
attribute [local irreducible] wpT
set_option maxRecDepth 20000 in
set_option maxHeartbeats 4000000 in
theorem read20_in1 (ks : List (List UInt8)) (sp : Bool) (fr to : List UInt8) (h1 : fr.length = 32) (h2 : to.length = 32) (p : List UInt8) (d : Nat) (hlow : Low d p) (hd : d < 256) (rest : List Br)
    (hop1 : VC Try.prog 174 [askE ks sp fr to, .ba p, .v (.int .i64 ((d : Nat) : Int))] [] (.v (.bool true))) (hl : rest.length < 65536) (L1 : List Pl)
    (c1 : read20 ks sp fr to rest p (d + 1) L1 false) :
    read20 ks sp fr to (⟨2, z32, z32, z32⟩ :: rest) p d [] false := by
  have ht := hlow.1
  have hz2 : (List.replicate 32 (0 : UInt8)).length = 32 := List.length_replicate
  have hcl := cleanR_v ⟨2, List.replicate 32 0, List.replicate 32 0, List.replicate 32 0⟩ ⟨hz2, hz2, hz2⟩
  rw [show Br.clean ⟨2, List.replicate 32 0, List.replicate 32 0, List.replicate 32 0⟩ = true by decide +kernel] at hcl
  have hem := emptyR_v
  unfold read20 at *
  simp only [z32]
  have hs1 := setR_v p ht d hd false
  have hs2 := setR_v p ht d hd true
  obtain ⟨w1, w2⟩ := setL_low hlow hd
  rw [w1] at hs1
  rw [w2] at hs2
  simp only [Bool.false_eq_true, if_false, if_true] at hs1 hs2
  have hfl := flipL_len p d
  rw [ht] at hfl
  rw [show ((d + 1 : Nat) : Int) = (d : Int) + 1 by omega] at *
  generalize hbe : brs (⟨2, List.replicate 32 0, List.replicate 32 0, List.replicate 32 0⟩ :: rest) = B
  have hbl : B.length = rest.length + 1 := by rw [← hbe]; simp [brs]
  have hb0 : B.getD 0 .any = .st [.v (B8 2), .ba (List.replicate 32 0), .ba (List.replicate 32 0), .ba (List.replicate 32 0)] := by rw [← hbe]; rfl
  have hbs : List.drop 1 B = brs rest := by rw [← hbe]; rfl
  have e0 : decide (((rest.length + 1 : Nat) : Int) = 0) = false := decide_eq_false (by omega)
  have e2 : decide ((255 : Int) < (d : Int)) = false := decide_eq_false (by omega)
  have hs0 : (sum [0]).length = 32 := sum_length _
  have hfit : fit (Ty.sc.cn ((Ty.ba 32).cn ((Ty.ba 32).cn ((Ty.ba 32).cn Ty.nl)))) (B.getD 0 AV.any) := by rw [hb0]; exact ⟨trivial, hz2, hz2, hz2, trivial⟩
  simp only [Br.av] at hcl
  refine mE Try.func111 ?_; intro N w0 a w hN hR H
  have hX := And.intro @hbl (And.intro @hb0 (And.intro @ht (And.intro @hz2 (And.intro @hs0 (And.intro @h1 (@h2))))))
  refine mW ?_; clear H; intro a w H
  refine mCallG [] [] (hcl) H ?_; clear H; intro a w H; try refine wpList_nil ?_
  simp only [e0] at H
  refine mW ?_; clear H; intro a w H
  refine mC H (fun hb => ?_) (fun hb => ?_)
  · exact absurd hb (by decide)
  · clear hb
    refine mS ?_
    replace H := mK [0, 1, 2, 3, 4, 6, 8, 9] 2 0 hN hR H
    refine mW ?_; clear H; intro a w H
    refine mCall [] [] (hem) H ?_; clear H; intro a w H; try refine wpList_nil ?_
    refine mW ?_; clear H; intro a w H
    refine mC H (fun hb => ?_) (fun hb => ?_)
    · exact absurd hb (by decide)
    · clear hb
      refine mS ?_
      replace H := mK [0, 1, 2, 3, 4, 6, 8, 9, 10, 11] 5 0 hN hR H
      refine mW ?_; clear H; intro a w H
      refine mCall [] [] (hop1) H ?_; clear H; intro a w H; try refine wpList_nil ?_
      refine mW ?_; clear H; intro a w H
      refine mC H (fun hb => ?_) (fun hb => ?_)
      · exact absurd hb (by decide)
      · clear hb
        refine mS ?_
        replace H := mK [0, 1, 2, 3, 4, 6, 8, 9, 10, 11] 5 0 hN hR H
        refine mW ?_; clear H; intro a w H
        refine mC H (fun hb => ?_) (fun hb => ?_)
        · exact absurd hb (by decide)
        · clear hb
          refine mW ?_; clear H; intro a w H
          simp only [e2] at H
          refine mC H (fun hb => ?_) (fun hb => ?_)
          · exact absurd hb (by decide)
          · clear hb
            refine mS ?_
            replace H := mK [0, 1, 2, 3, 4, 6, 8, 9, 11] 5 0 hN hR H
            refine mS ?_; refine mD 5 [5, 8] [0, 1, 2, 6, 7] H ?_; clear H; intro gS H
            refine mT ?_; clear H; intro a w H
            refine mCallT [] [] (hs1) H ?_; clear H; intro a w H
            refine mT ?_; clear H; intro a w H
            simp only [hbs] at H
            refine mCallT [] [] (c1) H ?_; clear H; intro a w H
            refine mT ?_; clear H; intro a w H
            refine v_drawNil H ?_; clear H; intro H
            refine mW ?_; clear H; intro a w H
            refine mC H (fun hb => ?_) (fun hb => ?_)
            · simp only [pls, List.map_nil]
              refine mW ?_; clear H; intro a w H
              refine wp_ret ?_; exact mEnd [] [] [.tmp 8, .tmp 9] [_, _] hN hR H
            · exact absurd hb (by decide)
end Go.Proofs.Ytigmpdhnhkdeiaa
/- The document's reader of a sketch at an inner place. -/
namespace Go.Proofs.Ytigmpdhnhkdeiaa
open Go Go.RowKit
attribute [local irreducible] wpT
set_option maxRecDepth 20000 in
set_option maxHeartbeats 4000000 in
theorem read20_in2 (ks : List (List UInt8)) (sp : Bool) (fr to : List UInt8) (h1 : fr.length = 32) (h2 : to.length = 32) (p : List UInt8) (d : Nat) (hlow : Low d p) (hd : d < 256) (rest : List Br)
    (hop1 : VC Try.prog 174 [askE ks sp fr to, .ba p, .v (.int .i64 ((d : Nat) : Int))] [] (.v (.bool true))) (hl : rest.length < 65536)
    (x : Tr) (r1 : List Br) (x1 : x.dg.length = 32) (hxn : x.num ≤ rest.length) (hdr : rest.drop x.num = r1) (c1 : read20 ks sp fr to rest p (d + 1) (x.pl p (d + 1)) true) (L2 : List Pl) (c2 : read20 ks sp fr to r1 (flipL p d) (d + 1) L2 false) :
    read20 ks sp fr to (⟨2, z32, z32, z32⟩ :: rest) p d [] false := by
  have ht := hlow.1
  have hz2 : (List.replicate 32 (0 : UInt8)).length = 32 := List.length_replicate
  have hcl := cleanR_v ⟨2, List.replicate 32 0, List.replicate 32 0, List.replicate 32 0⟩ ⟨hz2, hz2, hz2⟩
  rw [show Br.clean ⟨2, List.replicate 32 0, List.replicate 32 0, List.replicate 32 0⟩ = true by decide +kernel] at hcl
  have hem := emptyR_v
  unfold read20 at *
  simp only [z32]
  have hs1 := setR_v p ht d hd false
  have hs2 := setR_v p ht d hd true
  obtain ⟨w1, w2⟩ := setL_low hlow hd
  rw [w1] at hs1
  rw [w2] at hs2
  simp only [Bool.false_eq_true, if_false, if_true] at hs1 hs2
  have hfl := flipL_len p d
  rw [ht] at hfl
  rw [show ((d + 1 : Nat) : Int) = (d : Int) + 1 by omega] at *
  generalize hbe : brs (⟨2, List.replicate 32 0, List.replicate 32 0, List.replicate 32 0⟩ :: rest) = B
  have hbl : B.length = rest.length + 1 := by rw [← hbe]; simp [brs]
  have hb0 : B.getD 0 .any = .st [.v (B8 2), .ba (List.replicate 32 0), .ba (List.replicate 32 0), .ba (List.replicate 32 0)] := by rw [← hbe]; rfl
  have hbs : List.drop 1 B = brs rest := by rw [← hbe]; rfl
  have e0 : decide (((rest.length + 1 : Nat) : Int) = 0) = false := decide_eq_false (by omega)
  have e2 : decide ((255 : Int) < (d : Int)) = false := decide_eq_false (by omega)
  have hs0 : (sum [0]).length = 32 := sum_length _
  have hfit : fit (Ty.sc.cn ((Ty.ba 32).cn ((Ty.ba 32).cn ((Ty.ba 32).cn Ty.nl)))) (B.getD 0 AV.any) := by rw [hb0]; exact ⟨trivial, hz2, hz2, hz2, trivial⟩
  simp only [Br.av] at hcl
  refine mE Try.func111 ?_; intro N w0 a w hN hR H
  have hX := And.intro @hbl (And.intro @hb0 (And.intro @ht (And.intro @hz2 (And.intro @hs0 (And.intro @h1 (@h2))))))
  refine mW ?_; clear H; intro a w H
  refine mCallG [] [] (hcl) H ?_; clear H; intro a w H; try refine wpList_nil ?_
  simp only [e0] at H
  refine mW ?_; clear H; intro a w H
  refine mC H (fun hb => ?_) (fun hb => ?_)
  · exact absurd hb (by decide)
  · clear hb
    refine mS ?_
    replace H := mK [0, 1, 2, 3, 4, 6, 8, 9] 2 0 hN hR H
    refine mW ?_; clear H; intro a w H
    refine mCall [] [] (hem) H ?_; clear H; intro a w H; try refine wpList_nil ?_
    refine mW ?_; clear H; intro a w H
    refine mC H (fun hb => ?_) (fun hb => ?_)
    · exact absurd hb (by decide)
    · clear hb
      refine mS ?_
      replace H := mK [0, 1, 2, 3, 4, 6, 8, 9, 10, 11] 5 0 hN hR H
      refine mW ?_; clear H; intro a w H
      refine mCall [] [] (hop1) H ?_; clear H; intro a w H; try refine wpList_nil ?_
      refine mW ?_; clear H; intro a w H
      refine mC H (fun hb => ?_) (fun hb => ?_)
      · exact absurd hb (by decide)
      · clear hb
        refine mS ?_
        replace H := mK [0, 1, 2, 3, 4, 6, 8, 9, 10, 11] 5 0 hN hR H
        refine mW ?_; clear H; intro a w H
        refine mC H (fun hb => ?_) (fun hb => ?_)
        · exact absurd hb (by decide)
        · clear hb
          refine mW ?_; clear H; intro a w H
          simp only [e2] at H
          refine mC H (fun hb => ?_) (fun hb => ?_)
          · exact absurd hb (by decide)
          · clear hb
            refine mS ?_
            replace H := mK [0, 1, 2, 3, 4, 6, 8, 9, 11] 5 0 hN hR H
            refine mS ?_; refine mD 5 [5, 8] [0, 1, 2, 6, 7] H ?_; clear H; intro gS H
            refine mT ?_; clear H; intro a w H
            refine mCallT [] [] (hs1) H ?_; clear H; intro a w H
            refine mT ?_; clear H; intro a w H
            simp only [hbs] at H
            refine mCallT [] [] (c1) H ?_; clear H; intro a w H
            refine mT ?_; clear H; intro a w H
            refine v_drawNil H ?_; clear H; intro H
            refine mW ?_; clear H; intro a w H
            refine mC H (fun hb => ?_) (fun hb => ?_)
            · exact absurd hb (by decide)
            · clear hb
              obtain ⟨t1, t2, t3⟩ := x.pl_top p (d + 1)
              have hxl := x.pl_len p (d + 1)
              have hxl2 := pls_len (x.pl p (d + 1))
              rw [hxl] at hxl2
              have hxp := x.num_pos
              have hbd : List.drop (1 + x.num) B = brs r1 := by rw [← hbe, ← hdr, Nat.add_comm]; simp only [brs, List.map_drop, List.map_cons, List.drop_succ_cons]
              simp only [Pl.av] at t3
              generalize x.pl p (d + 1) = xp at *
              refine mS ?_
              replace H := mK [0, 1, 2, 3, 4, 6, 8, 9, 11, 13] 5 0 hN hR H
              clear hX; have hX := And.intro @hbl (And.intro @hb0 (And.intro @ht (And.intro @hz2 (And.intro @hs0 (And.intro @h1 (And.intro @h2 (And.intro @hxl2 (@t3))))))))
              refine mS ?_; refine mD 5 [10, 13] [0, 1, 2, 3, 4, 5, 6, 7, 11, 12] H ?_; clear H; intro gS H
              refine mTN 3 hN H ?_; clear H; intro a w H; simp only [List.drop_succ_cons, List.drop_zero, List.drop_nil]
              refine mTN 1 hN H ?_; clear H; intro a w H; simp only [List.drop_succ_cons, List.drop_zero, List.drop_nil]
              refine mTN 3 hN H ?_; clear H; intro a w H; simp only [List.drop_succ_cons, List.drop_zero, List.drop_nil]
              have e5 : (1 : Int) + (x.num : Int) = ((1 + x.num : Nat) : Int) := by omega
              simp only [e5] at H
              refine mTN 1 hN H ?_; clear H; intro a w H; simp only [List.drop_succ_cons, List.drop_zero, List.drop_nil]
              simp only [hbd] at H
              refine mTN 2 hN H ?_; clear H; intro a w H; simp only [List.drop_succ_cons, List.drop_zero, List.drop_nil]
              refine mCallT [] [] (hs2) H ?_; clear H; intro a w H
              refine mT ?_; clear H; intro a w H
              refine mCallT [] [] (c2) H ?_; clear H; intro a w H
              refine mT ?_; clear H; intro a w H
              refine v_drawNil H ?_; clear H; intro H
              refine mW ?_; clear H; intro a w H
              refine mC H (fun hb => ?_) (fun hb => ?_)
              · simp only [pls, List.map_nil]
                refine mW ?_; clear H; intro a w H
                refine wp_ret ?_; exact mEnd [] [] [.tmp 8, .tmp 9] [_, _] hN hR H
              · exact absurd hb (by decide)
end Go.Proofs.Ytigmpdhnhkdeiaa
/- The document's reader of a sketch at an inner place. -/
namespace Go.Proofs.Ytigmpdhnhkdeiaa
open Go Go.RowKit
attribute [local irreducible] wpT
set_option maxRecDepth 20000 in
set_option maxHeartbeats 4000000 in
theorem read20_in3 (ks : List (List UInt8)) (sp : Bool) (fr to : List UInt8) (h1 : fr.length = 32) (h2 : to.length = 32) (p : List UInt8) (d : Nat) (hlow : Low d p) (hd : d < 256) (rest : List Br)
    (hop1 : VC Try.prog 174 [askE ks sp fr to, .ba p, .v (.int .i64 ((d : Nat) : Int))] [] (.v (.bool true))) (hl : rest.length < 65536)
    (x : Tr) (r1 : List Br) (x1 : x.dg.length = 32) (hxn : x.num ≤ rest.length) (hdr : rest.drop x.num = r1) (c1 : read20 ks sp fr to rest p (d + 1) (x.pl p (d + 1)) true) (y : Tr) (y1 : y.dg.length = 32) (hyn : x.num + y.num ≤ rest.length) (c2 : read20 ks sp fr to r1 (flipL p d) (d + 1) (y.pl (flipL p d) (d + 1)) true) :
    read20 ks sp fr to (⟨2, z32, z32, z32⟩ :: rest) p d (⟨⟨2, z32, z32, z32⟩, innerH x.dg y.dg, d, p, 1 + x.num + y.num⟩ :: (x.pl p (d + 1) ++ y.pl (flipL p d) (d + 1))) true := by
  have ht := hlow.1
  have hz2 : (List.replicate 32 (0 : UInt8)).length = 32 := List.length_replicate
  have hcl := cleanR_v ⟨2, List.replicate 32 0, List.replicate 32 0, List.replicate 32 0⟩ ⟨hz2, hz2, hz2⟩
  rw [show Br.clean ⟨2, List.replicate 32 0, List.replicate 32 0, List.replicate 32 0⟩ = true by decide +kernel] at hcl
  have hem := emptyR_v
  unfold read20 at *
  simp only [z32]
  have hs1 := setR_v p ht d hd false
  have hs2 := setR_v p ht d hd true
  obtain ⟨w1, w2⟩ := setL_low hlow hd
  rw [w1] at hs1
  rw [w2] at hs2
  simp only [Bool.false_eq_true, if_false, if_true] at hs1 hs2
  have hfl := flipL_len p d
  rw [ht] at hfl
  rw [show ((d + 1 : Nat) : Int) = (d : Int) + 1 by omega] at *
  generalize hbe : brs (⟨2, List.replicate 32 0, List.replicate 32 0, List.replicate 32 0⟩ :: rest) = B
  have hbl : B.length = rest.length + 1 := by rw [← hbe]; simp [brs]
  have hb0 : B.getD 0 .any = .st [.v (B8 2), .ba (List.replicate 32 0), .ba (List.replicate 32 0), .ba (List.replicate 32 0)] := by rw [← hbe]; rfl
  have hbs : List.drop 1 B = brs rest := by rw [← hbe]; rfl
  have e0 : decide (((rest.length + 1 : Nat) : Int) = 0) = false := decide_eq_false (by omega)
  have e2 : decide ((255 : Int) < (d : Int)) = false := decide_eq_false (by omega)
  have hs0 : (sum [0]).length = 32 := sum_length _
  have hfit : fit (Ty.sc.cn ((Ty.ba 32).cn ((Ty.ba 32).cn ((Ty.ba 32).cn Ty.nl)))) (B.getD 0 AV.any) := by rw [hb0]; exact ⟨trivial, hz2, hz2, hz2, trivial⟩
  simp only [Br.av] at hcl
  refine mE Try.func111 ?_; intro N w0 a w hN hR H
  have hX := And.intro @hbl (And.intro @hb0 (And.intro @ht (And.intro @hz2 (And.intro @hs0 (And.intro @h1 (@h2))))))
  refine mW ?_; clear H; intro a w H
  refine mCallG [] [] (hcl) H ?_; clear H; intro a w H; try refine wpList_nil ?_
  simp only [e0] at H
  refine mW ?_; clear H; intro a w H
  refine mC H (fun hb => ?_) (fun hb => ?_)
  · exact absurd hb (by decide)
  · clear hb
    refine mS ?_
    replace H := mK [0, 1, 2, 3, 4, 6, 8, 9] 2 0 hN hR H
    refine mW ?_; clear H; intro a w H
    refine mCall [] [] (hem) H ?_; clear H; intro a w H; try refine wpList_nil ?_
    refine mW ?_; clear H; intro a w H
    refine mC H (fun hb => ?_) (fun hb => ?_)
    · exact absurd hb (by decide)
    · clear hb
      refine mS ?_
      replace H := mK [0, 1, 2, 3, 4, 6, 8, 9, 10, 11] 5 0 hN hR H
      refine mW ?_; clear H; intro a w H
      refine mCall [] [] (hop1) H ?_; clear H; intro a w H; try refine wpList_nil ?_
      refine mW ?_; clear H; intro a w H
      refine mC H (fun hb => ?_) (fun hb => ?_)
      · exact absurd hb (by decide)
      · clear hb
        refine mS ?_
        replace H := mK [0, 1, 2, 3, 4, 6, 8, 9, 10, 11] 5 0 hN hR H
        refine mW ?_; clear H; intro a w H
        refine mC H (fun hb => ?_) (fun hb => ?_)
        · exact absurd hb (by decide)
        · clear hb
          refine mW ?_; clear H; intro a w H
          simp only [e2] at H
          refine mC H (fun hb => ?_) (fun hb => ?_)
          · exact absurd hb (by decide)
          · clear hb
            refine mS ?_
            replace H := mK [0, 1, 2, 3, 4, 6, 8, 9, 11] 5 0 hN hR H
            refine mS ?_; refine mD 5 [5, 8] [0, 1, 2, 6, 7] H ?_; clear H; intro gS H
            refine mT ?_; clear H; intro a w H
            refine mCallT [] [] (hs1) H ?_; clear H; intro a w H
            refine mT ?_; clear H; intro a w H
            simp only [hbs] at H
            refine mCallT [] [] (c1) H ?_; clear H; intro a w H
            refine mT ?_; clear H; intro a w H
            refine v_drawNil H ?_; clear H; intro H
            refine mW ?_; clear H; intro a w H
            refine mC H (fun hb => ?_) (fun hb => ?_)
            · exact absurd hb (by decide)
            · clear hb
              obtain ⟨t1, t2, t3⟩ := x.pl_top p (d + 1)
              obtain ⟨u1, u2, u3⟩ := y.pl_top (flipL p d) (d + 1)
              have hyl := y.pl_len (flipL p d) (d + 1)
              have hyl2 := pls_len (y.pl (flipL p d) (d + 1))
              rw [hyl] at hyl2
              simp only [Pl.av] at u3
              have hyp := y.num_pos
              generalize y.pl (flipL p d) (d + 1) = yp at *
              have hxl := x.pl_len p (d + 1)
              have hxl2 := pls_len (x.pl p (d + 1))
              rw [hxl] at hxl2
              have hxp := x.num_pos
              have hbd : List.drop (1 + x.num) B = brs r1 := by rw [← hbe, ← hdr, Nat.add_comm]; simp only [brs, List.map_drop, List.map_cons, List.drop_succ_cons]
              simp only [Pl.av] at t3
              generalize x.pl p (d + 1) = xp at *
              refine mS ?_
              replace H := mK [0, 1, 2, 3, 4, 6, 8, 9, 11, 13] 5 0 hN hR H
              clear hX; have hX := And.intro @hbl (And.intro @hb0 (And.intro @ht (And.intro @hz2 (And.intro @hs0 (And.intro @h1 (And.intro @h2 (And.intro @hxl2 (@t3))))))))
              refine mS ?_; refine mD 5 [10, 13] [0, 1, 2, 3, 4, 5, 6, 7, 11, 12] H ?_; clear H; intro gS H
              refine mTN 3 hN H ?_; clear H; intro a w H; simp only [List.drop_succ_cons, List.drop_zero, List.drop_nil]
              refine mTN 1 hN H ?_; clear H; intro a w H; simp only [List.drop_succ_cons, List.drop_zero, List.drop_nil]
              refine mTN 3 hN H ?_; clear H; intro a w H; simp only [List.drop_succ_cons, List.drop_zero, List.drop_nil]
              have e5 : (1 : Int) + (x.num : Int) = ((1 + x.num : Nat) : Int) := by omega
              simp only [e5] at H
              refine mTN 1 hN H ?_; clear H; intro a w H; simp only [List.drop_succ_cons, List.drop_zero, List.drop_nil]
              simp only [hbd] at H
              refine mTN 2 hN H ?_; clear H; intro a w H; simp only [List.drop_succ_cons, List.drop_zero, List.drop_nil]
              refine mCallT [] [] (hs2) H ?_; clear H; intro a w H
              refine mT ?_; clear H; intro a w H
              refine mCallT [] [] (c2) H ?_; clear H; intro a w H
              refine mT ?_; clear H; intro a w H
              refine v_drawNil H ?_; clear H; intro H
              refine mW ?_; clear H; intro a w H
              refine mC H (fun hb => ?_) (fun hb => ?_)
              · exact absurd hb (by decide)
              · clear hb
                have eg : ∀ q : Pl, pls (q :: (xp ++ yp)) = q.av :: (pls xp ++ pls yp) := fun q => by simp [pls]
                rw [eg]
                simp only [Pl.av, Br.av]
                refine mS ?_
                replace H := mK [0, 1, 2, 3, 4, 6, 8, 9, 11, 13, 15] 5 0 hN hR H
                have hinl := innerH_len x.dg y.dg
                have hin := innerHR_v x.dg y.dg x1 y1
                clear hX; have hX := And.intro @hbl (And.intro @hb0 (And.intro @ht (And.intro @hz2 (And.intro @hs0 (And.intro @h1 (And.intro @h2 (And.intro @hxl2 (And.intro @t3 (And.intro @hyl2 (And.intro @u3 (And.intro @x1 (And.intro @y1 (@hinl)))))))))))))
                refine mS ?_; refine mD 0 [8, 10] [] H ?_; clear H; intro gS H
                refine mTN 1 hN H ?_; clear H; intro a w H; simp only [List.drop_succ_cons, List.drop_zero, List.drop_nil]
                refine mTN 1 hN H ?_; clear H; intro a w H; simp only [List.drop_succ_cons, List.drop_zero, List.drop_nil]
                refine mTN 3 hN H ?_; clear H; intro a w H; simp only [List.drop_succ_cons, List.drop_zero, List.drop_nil]
                refine mTN 1 hN H ?_; clear H; intro a w H; simp only [List.drop_succ_cons, List.drop_zero, List.drop_nil]
                refine mTN 2 hN H ?_; clear H; intro a w H; simp only [List.drop_succ_cons, List.drop_zero, List.drop_nil]
                refine mCallT [] [] (hin) H ?_; clear H; intro a w H
                refine mT ?_; clear H; intro a w H
                refine v_drawNil H ?_; clear H; intro H
                refine mS ?_
                refine mS ?_; refine mD 0 [11] [] H ?_; clear H; intro gS H
                refine mTN 1 hN H ?_; clear H; intro a w H; simp only [List.drop_succ_cons, List.drop_zero, List.drop_nil]
                refine mTN 1 hN H ?_; clear H; intro a w H; simp only [List.drop_succ_cons, List.drop_zero, List.drop_nil]
                refine mTN 4 hN H ?_; clear H; intro a w H; simp only [List.drop_succ_cons, List.drop_zero, List.drop_nil]
                refine mTN 1 hN H ?_; clear H; intro a w H; simp only [List.drop_succ_cons, List.drop_zero, List.drop_nil]
                refine mTN 3 hN H ?_; clear H; intro a w H; simp only [List.drop_succ_cons, List.drop_zero, List.drop_nil]
                have e6 : (1 : Int) + (x.num : Int) + (y.num : Int) = ((1 + x.num + y.num : Nat) : Int) := by omega
                simp only [e5, e6] at H
                refine mT ?_; clear H; intro a w H
                refine v_drawNil H ?_; clear H; intro H
                refine mW ?_; clear H; intro a w H
                refine wp_ret ?_; exact mEnd [] [] [.tmp 8, .tmp 9] [_, _] hN hR H
set_option maxRecDepth 20000 in
/-- The document's reader tells the places of a sketch. -/
theorem read20_v (ks : List (List UInt8)) (sp : Bool) (fr to : List UInt8) (op : List UInt8 → Nat → Bool)
    (hop : ∀ p d, p.length = 32 → d ≤ 256 → VC Try.prog 174 [askE ks sp fr to, .ba p, .v (.int .i64 ((d : Nat) : Int))] [] (.v (.bool (op p d))))
    (h1 : fr.length = 32) (h2 : to.length = 32) : ∀ (f : Nat) (p : List UInt8) (d : Nat) (l : List Br), f + d = 257 → d ≤ 256 → Low d p → (∀ b ∈ l, b.wf) → l.length ≤ 65536 →
    read20 ks sp fr to l p d (rdP op f l p d).1 (rdP op f l p d).2 := by
  intro f
  induction f with
  | zero => intro p d l hf hd; omega
  | succ f ih =>
    intro p d l hf hd256 hlow hw hl
    cases l with
    | nil => exact read20_nil ks sp fr to p d h1 h2 hlow.1
    | cons b rest =>
      have hbw := hw b List.mem_cons_self
      have hwr : ∀ b ∈ rest, b.wf := fun b hb => hw b (List.mem_cons_of_mem _ hb)
      simp only [List.length_cons] at hl
      by_cases hno : b.clean = false ∨ b.k = 0 ∨ op p d = false ∨ b.k = 1 ∨ b.k ≠ 2 ∨ 255 < d
      · exact read20_one ks sp fr to op h1 h2 p d hlow.1 hd256 b rest hbw (hop p d hlow.1 hd256) (by omega) hno f
      · simp only [not_or, Bool.not_eq_false, Classical.not_not] at hno
        obtain ⟨n1, n2, n3, n4, n5, n6⟩ := hno
        have hb2 := (clean_e n1).2.2.1 n5
        have hd : d < 256 := by omega
        have ho := hop p d hlow.1 hd256
        rw [n3] at ho
        rw [rdP_cons, if_neg (by rw [n1]; decide), if_neg n2, if_neg (by rw [n3]; decide), if_neg n4, if_neg (by rintro (h | h); exact h n5; exact n6 h)]
        subst hb2
        have ih1 := ih p (d + 1) rest (by omega) (by omega) hlow.up hwr (by omega)
        cases ex : rdTr op f p (d + 1) rest with
        | none =>
          have e2 := rdP_none (by omega) ex
          rw [if_pos e2]
          rw [e2] at ih1
          exact read20_in1 ks sp fr to h1 h2 p d hlow hd rest ho (by omega) _ ih1
        | some Q =>
          obtain ⟨x, r1⟩ := Q
          obtain ⟨a1, a2, a3⟩ := rdP_some (by omega) ex
          obtain ⟨x1, x2⟩ := rd_dgl hwr ex
          obtain ⟨t1, t2, t3⟩ := x.pl_top p (d + 1)
          have hdr : (⟨2, z32, z32, z32⟩ :: rest : List Br).drop (1 + x.num) = r1 := by rw [Nat.add_comm, List.drop_succ_cons]; exact a2
          have hr1 : r1.length = rest.length - x.num := by rw [← a2, List.length_drop]
          rw [a1] at ih1 ⊢
          dsimp only at ih1 ⊢
          rw [if_neg (by decide), t1, t2, hdr]
          have ih2 := ih (flipL p d) (d + 1) r1 (by omega) (by omega) (hlow.flip hd) x2 (by omega)
          cases ey : rdTr op f (flipL p d) (d + 1) r1 with
          | none =>
            have e2 := rdP_none (by omega) ey
            rw [if_pos e2]
            rw [e2] at ih2
            exact read20_in2 ks sp fr to h1 h2 p d hlow hd rest ho (by omega) x r1 x1 a3 a2 ih1 _ ih2
          | some Q =>
            obtain ⟨y, r2⟩ := Q
            obtain ⟨b1, b2, b3⟩ := rdP_some (by omega) ey
            obtain ⟨y1, y2⟩ := rd_dgl x2 ey
            obtain ⟨u1, u2, u3⟩ := y.pl_top (flipL p d) (d + 1)
            rw [b1] at ih2 ⊢
            dsimp only at ih2 ⊢
            rw [if_neg (by decide), u1, u2]
            exact read20_in3 ks sp fr to h1 h2 p d hlow hd rest ho (by omega) x r1 x1 a3 a2 ih1 y y1 (by omega) ih2
end Go.Proofs.Ytigmpdhnhkdeiaa
/- A growing array that a field points to is turned to stay as it is. -/
namespace Go.Proofs.Ytigmpdhnhkdeiaa
open Go Go.RowKit
section
variable {P : Program} {w0 w : World} {N : Gh} {g : Gh} {st : St} {nt : Nat} {a : Act}
theorem v_frzB0 (HI : Inv P w0 N g st.bx st.fz st.rw w) (hF : FR g nt st a) (i j : Nat) (path : List Nat) {e γ n o : Nat} {T Tj : Ty} {x : AV} {es : List AV} (hN : N.bx.length ≤ i) (hb : st.bx[i]? = some (.vc e T, .vc γ es)) (hj : st.bx[j]? = some (Tj, x)) (hT : Tj.loc path = some (o, .sc)) (hx : x.loc path = some (.vw i γ n)) (hn : n ≤ es.length) :
    ∃ g1, g.lex g1 ∧ Inv P w0 N g1 (st.bx.set j (Tj, x.put path (.sl T (es.take n) none))) (i :: st.fz) st.rw w ∧ FR g1 nt ⟨st.t, st.bx.set j (Tj, x.put path (.sl T (es.take n) none)), i :: st.fz, st.rw⟩ a := by
  obtain ⟨y, hy, hyT, hbc⟩ := HI.br.at_ i _ _ hb
  obtain ⟨T2, F, sp, ⟨e2, he2, htid⟩, hmp, hgen, h0, hcm, hcs, hcl, hsp, hFk⟩ := hbc.vc_inv
  injection he2 with he20 he2; subst he20 he2
  have htl : (es.take n).length = n := by rw [List.length_take]; omega
  have key : ∀ g1, g.lex g1 → Inv P w0 N g1 st.bx (i :: st.fz) st.rw w → (∀ u, RC g1 .sc (.vw i γ n) [u] → RC g1 .sc (.sl T (es.take n) none) [u]) → ∃ g1, g.lex g1 ∧ Inv P w0 N g1 (st.bx.set j (Tj, x.put path (.sl T (es.take n) none))) (i :: st.fz) st.rw w ∧ FR g1 nt ⟨st.t, st.bx.set j (Tj, x.put path (.sl T (es.take n) none)), i :: st.fz, st.rw⟩ a := by
    intro g1 l1 I1 hu
    obtain ⟨xj, hxj, hxT, hbj⟩ := I1.br.at_ j _ _ hj
    obtain ⟨hjo, hjm, hrc⟩ := hbj.rc (Ty.loc_grows hT)
    obtain ⟨a', ha', pre, mid, post, hc, hpl, hmid, hput⟩ := hrc.lens hT
    rw [hx] at ha'; injection ha' with ha'; subst ha'
    obtain ⟨u, rfl⟩ : ∃ u, mid = [u] := by
      cases hmid with
      | vw => exact ⟨_, rfl⟩
    have h2 := hput _ _ (hu u hmid)
    rw [← hc] at h2
    subst hxT
    refine ⟨g1, l1, I1.re hxj (BC.pl h2 hjo hjm), (hF.mono l1.1).sz, hF.df, fun p hp hg => (hF.mono l1.1).t p hp hg, fun p hp hg => hF.u p hp hg⟩
  cases ho : y.off with
  | true =>
    refine key g (Gh.lex.refl g) ⟨HI.mem, HI.fr, HI.br, fun j x hj hf => List.mem_cons_of_mem _ (HI.fz j x hj hf), HI.wr, HI.wz⟩ fun u hu => ?_
    obtain ⟨_, y', e3, T3, A, c, hval, hy', hty', hle, hnc, hm, hxx⟩ := hu.vw_inv
    rw [hy] at hy'; injection hy' with hy'; subst hy'
    injection hval with hval; subst hval
    obtain ⟨hcc, hA⟩ := hxx hgen
    have hc0 : c = 0 := by rw [hcc]; exact hcm.2 ho
    rcases hA with ⟨_, hA⟩ | ⟨h, _⟩
    · rw [hA, hc0, show n = 0 by omega]
      exact RC.nil2 (by simp)
    · rw [ho] at h; cases h
  | false =>
    obtain ⟨g1, l1, I1, ⟨y1, hy1, q1, q2, q3, q4, q5, q6⟩, hro⟩ := HI.freeze hy ho hmp hN
    refine key g1 l1 I1 fun u hu => ?_
    obtain ⟨_, y', e3, T3, A, c, hval, hy', hty', hle, hnc, hm, hxx⟩ := hu.vw_inv
    rw [hy1] at hy'; injection hy' with hy'; subst hy'
    injection hval with hval; subst hval
    obtain ⟨hcc, hA⟩ := hxx (q4.trans hgen)
    rcases hA with ⟨h, _⟩ | ⟨_, hA⟩
    · rw [q6] at h; cases h
    · rw [hA]
      have := RC.sl (g := g1) (T := T) (es := es.take n) (tok := none) (A := some ⟨y1.blk, 0, none⟩) (c := c) (by omega) hm F (.inr ⟨y1.blk, 0, rfl, fun k hk j u hu => by
        rw [Nat.zero_add, q1]
        refine hro _ _ ?_
        rw [hcs]
        exact flat_at hFk (by omega) hu⟩) (fun k hk => by
        rw [List.getElem_take]
        exact (hFk k (by omega)).mono l1.1.base) (fun i hi => by cases hi)
      rw [htl] at this
      exact this
theorem v_frzB (H : Rel P w0 N nt st a w) (i j : Nat) (path : List Nat) {e γ n o : Nat} {T Tj : Ty} {x : AV} {es : List AV} (hN : N.bx.length ≤ i) (hb : st.bx[i]? = some (.vc e T, .vc γ es)) (hj : st.bx[j]? = some (Tj, x)) (hT : Tj.loc path = some (o, .sc)) (hx : x.loc path = some (.vw i γ n)) (hn : n ≤ es.length) :
    Rel P w0 N nt ⟨st.t, st.bx.set j (Tj, x.put path (.sl T (es.take n) none)), i :: st.fz, st.rw⟩ a w := by
  obtain ⟨g, HI, hF⟩ := H
  obtain ⟨g1, _, h1, h2⟩ := v_frzB0 HI hF i j path hN hb hj hT hx hn
  exact ⟨g1, h1, h2⟩
end
end Go.Proofs.Ytigmpdhnhkdeiaa
/- A reader of a stretch: (*span.reader).place. -/
namespace Go.Proofs.Ytigmpdhnhkdeiaa
open Go Go.RowKit
theorem RS.wf.tail {b : Br} {rest : List Br} {ks ds sd : List (List UInt8)} {en : Nd} (h : RS.wf ⟨b :: rest, ks, ds, sd, en⟩) : RS.wf ⟨rest, ks, ds, sd, en⟩ := by
  obtain ⟨h1, h2, h3, h4, h5, h6, h7, h8⟩ := h
  dsimp only at *
  simp only [List.length_cons] at *
  exact ⟨fun b hb => h1 b (List.mem_cons_of_mem _ hb), h2, h3, h4, h5, by dsimp only; omega, by dsimp only; omega, by dsimp only; omega⟩
theorem lfS_wf (fr to key : List UInt8) {b : Br} {rest : List Br} {ks ds sd : List (List UInt8)} {en : Nd} (h : RS.wf ⟨b :: rest, ks, ds, sd, en⟩) (top : List UInt8) (d : Nat) : (lfS fr to key ⟨rest, ks, ds, sd, en⟩ b top d).wf := by
  obtain ⟨h1, h2, h3, h4, h5, h6, h7, h8⟩ := h
  have hb := h1 b List.mem_cons_self
  dsimp only [lfS] at *
  simp only [List.length_cons] at *
  refine ⟨fun b hb => h1 b (List.mem_cons_of_mem _ hb), ?_, ?_, h4, ?_, ?_, ?_, ?_⟩
  · dsimp only; intro k hk; split at hk
    · rcases List.mem_append.1 hk with hk | hk
      · exact h2 k hk
      · simp only [List.mem_singleton] at hk; subst hk; exact hb.key
    · exact h2 k hk
  · dsimp only; intro k hk; split at hk
    · rcases List.mem_append.1 hk with hk | hk
      · exact h3 k hk
      · simp only [List.mem_singleton] at hk; subst hk; exact hb.v
    · exact h3 k hk
  · dsimp only; split
    · exact ⟨hb.key, hb.v, z32_len, z32_len⟩
    · exact h5
  · dsimp only; split
    · rw [List.length_append]; simp only [List.length_cons, List.length_nil]; omega
    · omega
  · dsimp only; split
    · rw [List.length_append]; simp only [List.length_cons, List.length_nil]; omega
    · omega
  · dsimp only; omega
theorem plS_wf (fr to key : List UInt8) : ∀ (f : Nat) (top : List UInt8) (d : Nat) (s : RS), s.wf → (plS fr to key f top d s).1.wf ∧ (plS fr to key f top d s).2.1.length = 32 ∧
    ((plS fr to key f top d s).1.rest.length ≤ s.rest.length ∧ ((plS fr to key f top d s).2.2 = true → (plS fr to key f top d s).1.rest.length < s.rest.length) ∧ (plS fr to key f top d s).1.ks.length + (plS fr to key f top d s).1.rest.length ≤ s.ks.length + s.rest.length ∧ (plS fr to key f top d s).1.ds.length + (plS fr to key f top d s).1.rest.length ≤ s.ds.length + s.rest.length ∧ (plS fr to key f top d s).1.sd.length + (plS fr to key f top d s).1.rest.length ≤ s.sd.length + s.rest.length)
  | 0, top, d, s, h => ⟨h, z32_len, by simp [plS]⟩
  | f + 1, top, d, ⟨[], ks, ds, sd, en⟩, h => ⟨h, z32_len, by simp [plS]⟩
  | f + 1, top, d, ⟨b :: rest, ks, ds, sd, en⟩, h => by
    have hw := h.tail
    have hb := h.rest b List.mem_cons_self
    unfold plS
    dsimp only
    split
    · exact ⟨h, z32_len, by simp⟩
    · split
      · exact ⟨hw, sum_length _, by simp⟩
      · split
        · exact ⟨hw, hb.g, by simp⟩
        · split
          · exact ⟨hw, z32_len, by simp⟩
          · split
            · refine ⟨lfS_wf fr to key h top d, leafH_len _ _, ?_⟩
              simp only [lfS, List.length_cons]
              refine ⟨by omega, by omega, ?_, ?_, by omega⟩
              · split
                · simp; omega
                · omega
              · split
                · simp; omega
                · omega
            · split
              · exact ⟨hw, z32_len, by simp⟩
              · obtain ⟨a1, a2, a3, a4, a5, a6, a7⟩ := plS_wf fr to key f top (d + 1) ⟨rest, ks, ds, sd, en⟩ hw
                generalize plS fr to key f top (d + 1) ⟨rest, ks, ds, sd, en⟩ = x at *
                obtain ⟨xs, xh, xo⟩ := x
                dsimp only at *
                split
                · exact ⟨a1, z32_len, by simp only [List.length_cons]; refine ⟨by omega, by simp, by omega, by omega, by omega⟩⟩
                · obtain ⟨b1, b2, b3, b4, b5, b6, b7⟩ := plS_wf fr to key f (flipL top d) (d + 1) xs a1
                  generalize plS fr to key f (flipL top d) (d + 1) xs = y at *
                  obtain ⟨ys, yh, yo⟩ := y
                  dsimp only at *
                  refine ⟨?_, innerH_len _ _, ?_⟩
                  · unfold sdS
                    split
                    · obtain ⟨c1, c2, c3, c4, c5, c6, c7, c8⟩ := b1
                      obtain ⟨_, _, _, _, _, _, _, d8⟩ := h
                      dsimp only [List.length_cons] at d8
                      refine ⟨c1, c2, c3, ?_, c5, c6, c7, ?_⟩
                      · intro k hk
                        rcases List.mem_append.1 hk with hk | hk
                        · exact c4 k hk
                        · simp only [List.mem_singleton] at hk; subst hk; split
                          · exact a2
                          · exact b2
                      · dsimp only; rw [List.length_append]; simp only [List.length_cons, List.length_nil]; simp only [List.length_cons] at *; omega
                    · exact b1
                  · simp only [List.length_cons]
                    unfold sdS
                    split
                    · simp only [List.length_append, List.length_cons, List.length_nil]; exact ⟨by omega, fun _ => by omega, by omega, by omega, by omega⟩
                    · exact ⟨by omega, fun _ => by omega, by omega, by omega, by omega⟩

theorem sdS_eq (key : List UInt8) (s : RS) (top : List UInt8) (d : Nat) (one two : List UInt8) : sdS key s top d one two = ⟨s.rest, s.ks, s.ds, if und d key top then s.sd ++ [if bitN key d then one else two] else s.sd, s.en⟩ := by
  unfold sdS; split <;> rfl
theorem plS_nil (fr to key : List UInt8) (f : Nat) (top : List UInt8) (d : Nat) (ks ds sd : List (List UInt8)) (en : Nd) : plS fr to key (f + 1) top d ⟨[], ks, ds, sd, en⟩ = (⟨[], ks, ds, sd, en⟩, z32, false) := rfl
theorem plS_cons (fr to key : List UInt8) (f : Nat) (top : List UInt8) (d : Nat) (b : Br) (rest : List Br) (ks ds sd : List (List UInt8)) (en : Nd) : plS fr to key (f + 1) top d ⟨b :: rest, ks, ds, sd, en⟩ =
    if b.clean = false then (⟨b :: rest, ks, ds, sd, en⟩, z32, false) else
      if b.k = 0 then (⟨rest, ks, ds, sd, en⟩, sum [0], true)
      else if b.k = 3 then (⟨rest, ks, ds, sd, en⟩, b.g, !tchB fr to top d)
      else if tchB fr to top d = false then (⟨rest, ks, ds, sd, en⟩, z32, false)
      else if b.k = 1 then (lfS fr to key ⟨rest, ks, ds, sd, en⟩ b top d, leafH b.key b.v, und d b.key top)
      else if 256 ≤ d then (⟨rest, ks, ds, sd, en⟩, z32, false)
      else if (plS fr to key f top (d + 1) ⟨rest, ks, ds, sd, en⟩).2.2 = false then ((plS fr to key f top (d + 1) ⟨rest, ks, ds, sd, en⟩).1, z32, false) else
        (sdS key (plS fr to key f (flipL top d) (d + 1) (plS fr to key f top (d + 1) ⟨rest, ks, ds, sd, en⟩).1).1 top d (plS fr to key f top (d + 1) ⟨rest, ks, ds, sd, en⟩).2.1 (plS fr to key f (flipL top d) (d + 1) (plS fr to key f top (d + 1) ⟨rest, ks, ds, sd, en⟩).1).2.1,
          innerH (plS fr to key f top (d + 1) ⟨rest, ks, ds, sd, en⟩).2.1 (plS fr to key f (flipL top d) (d + 1) (plS fr to key f top (d + 1) ⟨rest, ks, ds, sd, en⟩).1).2.1, (plS fr to key f (flipL top d) (d + 1) (plS fr to key f top (d + 1) ⟨rest, ks, ds, sd, en⟩).1).2.2) := rfl
set_option maxRecDepth 20000 in
set_option maxHeartbeats 4000000 in
theorem splace_v (fr to key : List UInt8) (h1 : fr.length = 32) (h2 : to.length = 32) (h3 : key.length = 32) : ∀ (f : Nat) (top : List UInt8) (d : Nat) (s : RS), f + d = 257 → d ≤ 256 → top.length = 32 → s.wf →
    VX Try.prog 182 (rdB fr to key s) [] [] [.ptr 0 [], .ba top, .v (.int .i64 (d : Int))] (rdB fr to key (plS fr to key f top d s).1) [] [] (.tup [.ba (plS fr to key f top d s).2.1, .v (.bool (plS fr to key f top d s).2.2)]) := by
  intro f
  induction f with
  | zero => intro top d s hf hd; omega
  | succ f ih =>
    intro top d s hf hd256 ht hs
    obtain ⟨rest, ks, ds, sd, en⟩ := s
    have hkl := bas_len ks
    have hdl := bas_len ds
    have hsl := bas_len sd
    cases rest with
    | nil =>
      have hbl : (brs []).length = 0 := rfl
      rw [plS_nil]
      simp only [z32]
      refine mE Try.func182 ?_; intro N w0 a w hN hR H
      have hX := And.intro @hbl (@ht)
      refine mW ?_; clear H; intro a w H
      refine mSk (.v (.bool true)) H ?_; clear H; intro a w H
      refine mW ?_; clear H; intro a w H
      refine mC H (fun hb => ?_) (fun hb => ?_)
      · refine mW ?_; clear H; intro a w H
        clear hX; have hX := @Nd.av.eq_1
        refine wp_ret ?_; exact mEnd [0, 1, 2, 3] [] [.cell 6 50, .tmp 7] [_, _] hN hR H
      · exact absurd hb (by decide)
    | cons b rest =>
      have hbw := hs.rest b List.mem_cons_self
      have hcl := sclean_v b hbw
      have htl := hs.tail
      have hlk := hs.lk
      have hld := hs.ld
      have hls := hs.ls
      rw [plS_cons]
      obtain ⟨bk, bkey, bv, bg⟩ := b
      obtain ⟨q1, q2, q3⟩ := id hbw
      dsimp only at q1 q2 q3 hlk hld hls
      simp only [List.length_cons] at hlk hld hls
      have hlf := sleaf_v fr to key h1 h2 h3 ⟨rest, ks, ds, sd, en⟩ htl ⟨bk, bkey, bv, bg⟩ hbw (by dsimp only; omega) (by dsimp only; omega) top ht d (by omega)
      generalize hbe : brs (⟨bk, bkey, bv, bg⟩ :: rest) = B
      have hbl : B.length = (brs rest).length + 1 := by rw [← hbe]; simp [brs]
      have hb0 : B.getD 0 .any = .st [.v (B8 bk), .ba bkey, .ba bv, .ba bg] := by rw [← hbe]; rfl
      have hbs : List.drop 1 B = brs rest := by rw [← hbe]; rfl
      have hto := touches_v fr to top d (by omega) h1 h2 ht
      have e0 : decide ((((brs rest).length + 1 : Nat) : Int) = 0) = false := decide_eq_false (by omega)
      have k0 : decide ((bk.toNat : Int) = 0) = decide (bk = 0) := kz bk 0 (by decide)
      have k1 : decide ((bk.toNat : Int) = 1) = decide (bk = 1) := kz bk 1 (by decide)
      have k2 : decide ((bk.toNat : Int) = 2) = decide (bk = 2) := kz bk 2 (by decide)
      have k3 : decide ((bk.toNat : Int) = 3) = decide (bk = 3) := kz bk 3 (by decide)
      have hs0 : (sum [0]).length = 32 := sum_length _
      dsimp only
      simp only [Br.av] at hcl hlf
      simp only [rdB, rdA, hbe]
      refine mE Try.func182 ?_; intro N w0 a w hN hR H
      have hX := And.intro @hbl (And.intro @hb0 (And.intro @ht (And.intro @q1 (And.intro @q2 (And.intro @q3 (@hs0))))))
      refine mW ?_; clear H; intro a w H
      refine mCallG [] [] (hcl) H ?_; clear H; intro a w H; try refine wpList_nil ?_
      simp only [e0] at H
      refine mW ?_; clear H; intro a w H
      refine mC H (fun hb => ?_) (fun hb => ?_)
      · have hc : Br.clean ⟨bk, bkey, bv, bg⟩ = false := by simpa using hb
        rw [if_pos hc]
        simp only [z32]
        refine mW ?_; clear H; intro a w H
        clear hX; have hX := And.intro @Nd.av.eq_1 (@hbe)
        refine wp_ret ?_; exact mEnd [0, 1, 2, 3] [] [.cell 6 50, .tmp 7] [_, _] hN hR H
      · have hc : Br.clean ⟨bk, bkey, bv, bg⟩ = true := by simpa using hb
        rw [if_neg (by rw [hc]; decide)]
        clear hb
        refine mW ?_; clear H; intro a w H
        simp only [hbs] at H
        refine mS ?_; refine mD 7 [6] [] H ?_; clear H; intro gS H
        refine mT ?_; clear H; intro a w H
        refine mCallT [] [] (hto) H ?_; clear H; intro a w H
        refine mT ?_; clear H; intro a w H
        refine v_drawNil H ?_; clear H; intro H
        refine mW ?_; clear H; intro a w H
        refine mC H (fun hb => ?_) (fun hb => ?_)
        · rw [k0, decide_eq_true_eq] at hb
          rw [if_pos hb]
          dsimp only
          refine mW ?_; clear H; intro a w H
          clear hX; have hX := @Nd.av.eq_1
          refine wp_ret ?_; exact mEnd [0, 1, 2, 3] [] [.cell 6 50, .tmp 7] [_, _] hN hR H
        · rw [k0, decide_eq_false_iff_not] at hb
          rw [if_neg hb]
          have n0 := hb
          clear hb
          refine mW ?_; clear H; intro a w H
          refine mC H (fun hb => ?_) (fun hb => ?_)
          · rw [k3, decide_eq_true_eq] at hb
            rw [if_pos hb]
            dsimp only
            refine mW ?_; clear H; intro a w H
            clear hX; have hX := @Nd.av.eq_1
            refine wp_ret ?_; exact mEnd [0, 1, 2, 3] [] [.cell 6 50, .tmp 7] [_, _] hN hR H
          · rw [k3, decide_eq_false_iff_not] at hb
            rw [if_neg hb]
            have n3 := hb
            clear hb
            refine mW ?_; clear H; intro a w H
            simp only [k2] at H
            refine mC H (fun hb => ?_) (fun hb => ?_)
            · refine mW ?_; clear H; intro a w H
              have e : ∀ {α : Type} (u v w : α), (if tchB fr to top d = false then u else if bk = 1 then v else if 256 ≤ d then u else w) = u := fun u v w => by
                cases htc : tchB fr to top d
                · rw [if_pos rfl]
                · rw [htc] at hb
                  have h2 : bk = 2 ∧ 256 ≤ d := by
                    cases hk : decide (bk = 2)
                    · rw [hk] at hb; cases hb
                    · rw [hk] at hb; rw [decide_eq_true_eq] at hk
                      exact ⟨hk, by have : decide (256 ≤ (d : Int)) = true := hb; rw [decide_eq_true_eq] at this; omega⟩
                  rw [if_neg (by decide), if_neg (by rw [h2.1]; decide), if_pos h2.2]
              rw [e]
              simp only [z32]
              clear hX; have hX := @Nd.av.eq_1
              refine wp_ret ?_; exact mEnd [0, 1, 2, 3] [] [.cell 6 50, .tmp 7] [_, _] hN hR H
            · have htc : tchB fr to top d = true := by
                cases htc : tchB fr to top d
                · rw [htc] at hb; cases hb
                · rfl
              rw [if_neg (by rw [htc]; decide)]
              have hd2 : bk = 2 → d < 256 := fun hk => by
                rw [htc, hk] at hb
                have : decide (256 ≤ (d : Int)) = false := hb
                rw [decide_eq_false_iff_not] at this; omega
              clear hb
              refine mW ?_; clear H; intro a w H
              refine mC H (fun hb => ?_) (fun hb => ?_)
              · rw [k1, decide_eq_true_eq] at hb
                rw [if_pos hb]
                subst hb
                have hll := leafH_len bkey bv
                dsimp only [rdB, rdA, lfS] at hlf ⊢
                clear hX; have hX := And.intro @hbl (And.intro @hb0 (And.intro @ht (And.intro @q1 (And.intro @q2 (And.intro @q3 (And.intro @hs0 (And.intro @hll (@Nd.av.eq_1))))))))
                refine mW ?_; clear H; intro a w H
                refine mCall [0, 1, 2, 3] [] (hlf) H ?_; clear H; intro a w H; try refine wpList_nil ?_
                refine mW ?_; clear H; intro a w H
                refine wp_ret ?_; exact mEnd [0, 1, 2, 3] [] [.cell 6 50, .tmp 7] [_, _] hN hR H
              · rw [k1, decide_eq_false_iff_not] at hb
                rw [if_neg hb]
                have hk2 : bk = 2 := by
                  rcases Br.clean_k hc with h | h | h | h
                  · exact absurd h n0
                  · exact absurd h hb
                  · exact h
                  · exact absurd h n3
                have hd := hd2 hk2
                rw [if_neg (by omega)]
                clear hb hlf
                subst hk2
                obtain ⟨a1, a2, a3, a4, a5, a6, a7⟩ := plS_wf fr to key f top (d + 1) ⟨rest, ks, ds, sd, en⟩ htl
                have ih1 := ih top (d + 1) ⟨rest, ks, ds, sd, en⟩ (by omega) (by omega) ht htl
                rw [show ((d + 1 : Nat) : Int) = (d : Int) + 1 by omega] at ih1
                generalize plS fr to key f top (d + 1) ⟨rest, ks, ds, sd, en⟩ = x at *
                obtain ⟨⟨xr, xk, xd, xs, xe⟩, xh, xo⟩ := x
                dsimp only [rdB, rdA] at a1 a2 a3 a4 a5 a6 a7 ih1 ⊢
                have hkl1 := bas_len xk
                have hdl1 := bas_len xd
                have hsl1 := bas_len xs
                clear hX; have hX := And.intro @hbl (And.intro @hb0 (And.intro @ht (And.intro @q1 (And.intro @q2 (And.intro @q3 (And.intro @hs0 (And.intro @a2 (@Nd.av.eq_1))))))))
                refine mW ?_; clear H; intro a w H
                refine mCall [0, 1, 2, 3] [] (ih1) H ?_; clear H; intro a w H; try refine wpList_nil ?_
                refine mW ?_; clear H; intro a w H
                refine mC H (fun hb => ?_) (fun hb => ?_)
                · have hxo : xo = false := by simpa using hb
                  rw [if_pos hxo]
                  simp only [z32]
                  refine mW ?_; clear H; intro a w H
                  refine wp_ret ?_; exact mEnd [0, 1, 2, 3] [] [.cell 6 50, .tmp 7] [_, _] hN hR H
                · have hxo : xo = true := by simpa using hb
                  rw [if_neg (by rw [hxo]; decide)]
                  clear hb
                  have hri := right_v top ht d hd
                  have hfl := flipL_len top d
                  rw [ht] at hfl
                  obtain ⟨b1, b2, b3, b4, b5, b6, b7⟩ := plS_wf fr to key f (flipL top d) (d + 1) ⟨xr, xk, xd, xs, xe⟩ a1
                  have ih2 := ih (flipL top d) (d + 1) ⟨xr, xk, xd, xs, xe⟩ (by omega) (by omega) hfl a1
                  rw [show ((d + 1 : Nat) : Int) = (d : Int) + 1 by omega] at ih2
                  generalize flipL top d = tf at *
                  generalize plS fr to key f tf (d + 1) ⟨xr, xk, xd, xs, xe⟩ = y at *
                  obtain ⟨⟨yr, yk, yd, ys, ye⟩, yh, yo⟩ := y
                  dsimp only [rdB, rdA] at b1 b2 b3 b4 b5 b6 b7 ih2 ⊢
                  have hsl2 := bas_len ys
                  have hun := under_v key top h3 ht (d : Int)
                  have eu : decide (0 ≤ (d : Int) ∧ (d : Int) ≤ 256 ∧ (d : Int) ≤ (com key top : Int)) = und d key top := by
                    unfold und; rw [decide_eq_decide]; omega
                  rw [eu] at hun
                  have hbit := bit_v key h3 (d : Int)
                  have hpb : decide (pbit key (d : Int) = 1) = bitN key d := by
                    rw [pbit, if_pos (by omega), Int.toNat_natCast]; cases bitN key d <;> rfl
                  have hin := inner_v xh yh a2 b2
                  have hinl := innerH_len xh yh
                  rw [sdS_eq]
                  dsimp only
                  obtain ⟨zs, hzs⟩ : ∃ z, z = (if und d key top then ys ++ [if bitN key d then xh else yh] else ys) := ⟨_, rfl⟩
                  rw [← hzs]
                  have hsl3 := bas_len zs
                  obtain ⟨v, hv⟩ : ∃ v, v = (if bitN key d then xh else yh) := ⟨_, rfl⟩
                  have hvl : v.length = 32 := by rw [hv]; split <;> assumption
                  clear hX; have hX := And.intro @hbl (And.intro @hb0 (And.intro @ht (And.intro @q1 (And.intro @q2 (And.intro @q3 (And.intro @hs0 (And.intro @a2 (And.intro @b2 (And.intro @hfl (And.intro @hinl (And.intro @hsl2 (And.intro @hvl (@Nd.av.eq_1)))))))))))))
                  refine mW ?_; clear H; intro a w H
                  refine mCall [] [] (hri) H ?_; clear H; intro a w H; try refine wpList_nil ?_
                  refine mW ?_; clear H; intro a w H
                  refine mCall [0, 1, 2, 3] [] (ih2) H ?_; clear H; intro a w H; try refine wpList_nil ?_
                  refine mW ?_; clear H; intro a w H
                  refine mS ?_; refine mD 9 [6] [] H ?_; clear H; intro gS H
                  refine mT ?_; clear H; intro a w H
                  refine mCallT [] [] (hun) H ?_; clear H; intro a w H
                  refine mT ?_; clear H; intro a w H
                  refine v_drawNil H ?_; clear H; intro H
                  refine mW ?_; clear H; intro a w H
                  revert a w
                  apply cutG9 (R := fun a w => Rel Try.prog w0 N Try.f182.ntmps ⟨[(12, none, .ptr 8 []), (11, none, .v (.bool yo)), (10, none, .ptr 7 []), (6, none, .ptr 5 []), (0, none, .ptr 0 [])],
                    [(srdT, .st [.st [.ba fr, .ba to], .sl brT (brs yr) none, .ba (sum [0]), .vw 1 yk.length yk.length, .vw 2 yd.length yd.length, .ba key, .st [.vw 3 zs.length zs.length, ye.av]]), (.vc 52 (.ba 32), .vc yk.length (bas yk)), (.vc 50 (.ba 32), .vc yd.length (bas yd)), (.vc 50 (.ba 32), .vc zs.length (bas zs)), (.ba 32, .ba top), (.ba 32, .ba (List.replicate 32 0)), (brT, .st [.v (B8 2), .ba bkey, .ba bv, .ba bg]), (.ba 32, .ba xh), (.ba 32, .ba yh)], [], []⟩ a w)
                  · intro key1 a w H
                    refine mC H (fun hb => ?_) (fun hb => ?_)
                    · have q : ∀ v : List UInt8, v = (if bitN key d then xh else yh) → zs = ys ++ [v] := fun v hv => by rw [hzs, hb, if_pos rfl, hv]
                      refine mW ?_; clear H; intro a w H
                      refine mCall [] [] (hbit) H ?_; clear H; intro a w H; try refine wpList_nil ?_
                      refine mW ?_; clear H; intro a w H
                      simp only [hpb] at H
                      revert a w
                      apply cutG9 (R := fun a w => Rel Try.prog w0 N Try.f182.ntmps ⟨[(13, none, .ptr 9 []), (12, none, .ptr 8 []), (11, none, .v (.bool yo)), (10, none, .ptr 7 []), (6, none, .ptr 5 []), (0, none, .ptr 0 [])],
                        [(srdT, .st [.st [.ba fr, .ba to], .sl brT (brs yr) none, .ba (sum [0]), .vw 1 yk.length yk.length, .vw 2 yd.length yd.length, .ba key, .st [.vw 3 ys.length ys.length, ye.av]]), (.vc 52 (.ba 32), .vc yk.length (bas yk)), (.vc 50 (.ba 32), .vc yd.length (bas yd)), (.vc 50 (.ba 32), .vc ys.length (bas ys)), (.ba 32, .ba top), (.ba 32, .ba (List.replicate 32 0)), (brT, .st [.v (B8 2), .ba bkey, .ba bv, .ba bg]), (.ba 32, .ba xh), (.ba 32, .ba yh), (.ba 32, .ba v)], [], []⟩ a w)
                      · intro key2 a w H
                        refine mC H (fun hb => ?_) (fun hb => ?_)
                        · rw [hb, if_pos rfl] at hv
                          refine mW ?_; clear H; intro a w H
                          exact key2 _ _ (H.to 10 0 ⟨Nat.le_trans hN (Nat.le_of_ble_eq_true rfl), hR⟩ ⟨rfl, rfl, rfl, rfl, rfl, rfl, trivial⟩ (by rw [hv]; rfl) rfl rfl rfl rfl)
                        · rw [hb, if_neg (by decide)] at hv
                          refine mS ?_
                          exact key2 _ _ (H.to 10 0 ⟨Nat.le_trans hN (Nat.le_of_ble_eq_true rfl), hR⟩ ⟨rfl, rfl, rfl, rfl, rfl, rfl, trivial⟩ (by rw [hv]; rfl) rfl rfl rfl rfl)
                      intro a w H
                      have ez := q v hv
                      have l1 : ys.length + 1 = zs.length := by rw [ez, List.length_append]; rfl
                      have b1' : bas ys ++ [.ba v] = bas zs := by rw [ez]; simp [bas]
                      have t1 : (bas ys).take ys.length = bas ys := List.take_of_length_le (by omega)
                      repeat (first | refine wp_seq ?_ | refine wp_block ?_)
                      refine v_drawZ 0 [0, 1, 2, 3, 4, 5, 6, 7, 8, 9, 10, 11, 12] [5, 6, 7, 8, 12] [0, 1, 2, 3, 4] [(5, 6), (5, 7), (1007, 6)] (by kernel_rfl) (by kernel_rfl) (by kernel_rfl) (by kernel_rfl) (by kernel_rfl) H (by rfl) ?_; clear H; intro gS H; try replace H := ntf H
                      repeat' ((first | refine wpZ_q1 rfl rfl ?_ | refine wpZ_l1 rfl rfl rfl ?_ | refine wpZ_l2 rfl rfl rfl rfl rfl ?_ ?_ | refine wpZ_l3 rfl rfl rfl rfl rfl rfl rfl ?_ ?_ ?_ | refine wpZ_l4 rfl rfl rfl rfl rfl rfl rfl rfl rfl ?_ ?_ ?_ ?_) <;> ((first | (refine v_someT 1 tab_ok hN H rfl ctX ?_; clear H; intro a w H; replace H := ntf H; simp only [List.drop_succ_cons, List.drop_zero, List.drop_nil])); refine wpT_nil ?_; try dsimp only))
                      all_goals (refine wpZ_nil ?_; replace H := RelT.toRel H)
                      all_goals
                        refine mS ?_
                        simp only [t1, l1, b1'] at H
                        exact key1 _ _ (H.to 9 0 ⟨Nat.le_trans hN (Nat.le_of_ble_eq_true rfl), hR⟩ ⟨rfl, rfl, rfl, rfl, rfl, trivial⟩ rfl rfl rfl rfl rfl)
                    · have e1 : zs = ys := by rw [hzs, hb, if_neg (by decide)]
                      refine mS ?_
                      rw [← e1] at H
                      exact key1 _ _ (H.to 9 0 ⟨Nat.le_trans hN (Nat.le_of_ble_eq_true rfl), hR⟩ ⟨rfl, rfl, rfl, rfl, rfl, trivial⟩ rfl rfl rfl rfl rfl)
                  intro a w H
                  refine mW ?_; clear H; intro a w H
                  refine mCall [] [] (hin) H ?_; clear H; intro a w H; try refine wpList_nil ?_
                  refine mW ?_; clear H; intro a w H
                  refine wp_ret ?_; exact mEnd [0, 1, 2, 3] [] [.cell 6 50, .tmp 7] [_, _] hN hR H
end Go.Proofs.Ytigmpdhnhkdeiaa
/- slices.Reverse of digests, in memory that may be written. -/
namespace Go.Proofs.Ytigmpdhnhkdeiaa
open Go Go.RowKit
def revG (n k : Nat) (g : Nat → List UInt8) (t : Nat) : List UInt8 := if t < k ∨ n ≤ t + k then g (n - 1 - t) else g t
def revF (n k : Nat) (g : Nat → List UInt8) : List AV := (List.range n).map fun t => .ba (revG n k g t)
theorem revF_len (n k : Nat) (g : Nat → List UInt8) : (revF n k g).length = n := by simp [revF]
theorem revF_get (n k : Nat) (g : Nat → List UInt8) (t : Nat) (h : t < n) : (revF n k g).getD t .any = .ba (revG n k g t) := by simp [revF, List.getD_eq_getElem?_getD, h]
theorem revF_zero (ls : List (List UInt8)) : revF ls.length 0 (fun t => ls.getD t []) = bas ls := by
  apply List.ext_getElem (by simp [revF, bas])
  intro i h1 h2
  simp [revF] at h1
  simp [revF, bas, revG, h1]
  omega
theorem revF_end (ls : List (List UInt8)) (k : Nat) (hk : ls.length ≤ 2 * k + 1) : revF ls.length k (fun t => ls.getD t []) = bas ls.reverse := by
  apply List.ext_getElem (by simp [revF, bas])
  intro i h1 h2
  simp [revF] at h1
  simp only [revF, bas, revG, List.getElem_map, List.getElem_range, List.getElem_reverse, AV.ba.injEq]
  split
  · rw [List.getD_eq_getElem?_getD, List.getElem?_eq_getElem (by omega)]; rfl
  · rw [List.getD_eq_getElem?_getD, List.getElem?_eq_getElem (by omega)]
    have : i = ls.length - 1 - i := by omega
    simp only [Option.getD_some]; congr 1
theorem revF_step (n k : Nat) (g : Nat → List UInt8) (h : 2 * k + 1 < n) : ((revF n k g).set k (.ba (g (n - 1 - k)))).set (n - 1 - k) (.ba (g k)) = revF n (k + 1) g := by
  apply List.ext_getElem (by simp [revF])
  intro i h1 h2
  simp [revF] at h2
  rw [List.getElem_set]
  split
  · rename_i e; subst e
    simp only [revF, revG, List.getElem_map, List.getElem_range, AV.ba.injEq]
    rw [if_pos (by omega), show n - 1 - (n - 1 - k) = k by omega]
  · rw [List.getElem_set]
    split
    · rename_i e; subst e
      simp only [revF, revG, List.getElem_map, List.getElem_range, AV.ba.injEq]
      rw [if_pos (by omega)]
    · simp only [revF, revG, List.getElem_map, List.getElem_range, AV.ba.injEq]
      by_cases hh : i < k ∨ n ≤ i + k
      · rw [if_pos hh, if_pos (by omega)]
      · rw [if_neg hh, if_neg (by omega)]
set_option maxRecDepth 20000 in
theorem revV_v (ls : List (List UInt8)) (γ : Nat) (hl : ls.length ≤ 1000000) (h32 : ∀ x ∈ ls, x.length = 32) :
    VX Try.prog 180 [(.vc 50 (.ba 32), .vc γ (bas ls))] [] [] [.vw 0 γ ls.length] [(.vc 50 (.ba 32), .vc γ (bas ls.reverse))] [] [] (.tup []) := by
  rw [← revF_zero ls]
  have hend := revF_end ls
  obtain ⟨g, hg⟩ : ∃ g : Nat → List UInt8, g = fun t => ls.getD t [] := ⟨_, rfl⟩
  have hg32 : ∀ t, t < ls.length → (g t).length = 32 := fun t ht => by
    rw [hg]; dsimp only; rw [List.getD_eq_getElem?_getD, List.getElem?_eq_getElem ht]; exact h32 _ (List.getElem_mem ht)
  rw [← hg] at hend ⊢
  generalize ls.reverse = lr at *
  generalize ls.length = n at *
  clear hg h32
  have hl0 := revF_len n 0 g
  have e00 : (n : Int) - 1 - ((0 : Nat) : Int) = (n : Int) - 1 := by omega
  refine mE Try.func180 ?_; intro N w0 a w hN hR H
  refine mW ?_; clear H; intro a w H
  refine v_loop (fun k : Nat => ⟨[(3, none, .v (.int .i64 ((n : Int) - 1 - (k : Int)))), (2, none, .v (.int .i64 (k : Int))), (0, none, .vw 0 γ n)], [(.vc 50 (.ba 32), .vc γ (revF n k g))], [], []⟩) (fun k => 2 * k ≤ n) (fun k => n - k) 0 (by omega)
    (H.to 1 0 ⟨Nat.le_trans hN (Nat.le_of_ble_eq_true rfl), hR⟩ ⟨by rw [e00]; rfl, rfl, rfl, trivial⟩ rfl rfl rfl rfl rfl) ?_
  clear H
  intro k a w hk H
  have hlk := revF_len n k g
  have hX := @hlk
  refine mW ?_; clear H; intro a w H
  refine mC H (fun hb => ?_) (fun hb => ?_)
  · have hlt : 2 * k + 1 < n := by rw [decide_eq_true_eq] at hb; omega
    clear hb
    have e1 : ((n : Int) - 1 - (k : Int)).toNat = n - 1 - k := by omega
    have g1 := revF_get n k g k (by omega)
    have g2 := revF_get n k g (n - 1 - k) (by omega)
    have r1 : revG n k g k = g k := by unfold revG; rw [if_neg (by omega)]
    have r2 : revG n k g (n - 1 - k) = g (n - 1 - k) := by unfold revG; rw [if_neg (by omega)]
    rw [r1] at g1
    rw [r2] at g2
    have q1 := hg32 k (by omega)
    have q2 := hg32 (n - 1 - k) (by omega)
    have hst := revF_step n k g hlt
    clear hX; have hX := And.intro @hlk (And.intro @e1 (And.intro @g1 (And.intro @g2 (And.intro @q1 (@q2)))))
    refine mS ?_; refine mD 0 [13, 15] [2, 3] H ?_; clear H; intro gS H
    refine mT ?_; clear H; intro a w H
    refine v_drawNil H ?_; clear H; intro H
    refine mW ?_; clear H; intro a w H
    rw [hst, show (n : Int) - 1 - (k : Int) - 1 = (n : Int) - 1 - ((k + 1 : Nat) : Int) by omega, show (k : Int) + 1 = ((k + 1 : Nat) : Int) by omega] at H
    exact ⟨k + 1, by omega, by omega, H.to 1 0 ⟨Nat.le_trans hN (Nat.le_of_ble_eq_true rfl), hR⟩ ⟨rfl, rfl, rfl, trivial⟩ rfl rfl rfl rfl rfl⟩
  · have hge : n ≤ 2 * k + 1 := by rw [decide_eq_false_iff_not] at hb; omega
    rw [hend k hge] at H
    refine mW ?_; clear H; intro a w H
    exact mEnd [0] [] [] [] hN hR H
end Go.Proofs.Ytigmpdhnhkdeiaa
/- Proofs as bytes: the document's. -/
namespace Go.Proofs.Ytigmpdhnhkdeiaa
open Go Go.RowKit
end Go.Proofs.Ytigmpdhnhkdeiaa
/- A region at a function's end in which the named results are loaded and stored again: nothing changes. -/
namespace Go.Proofs.Ytigmpdhnhkdeiaa
open Go Go.RowKit
section
variable {P : Program} {τ : Tab} {w0 w : World} {N : Gh} {st : St} {nt : Nat} {a : Act}
end
end Go.Proofs.Ytigmpdhnhkdeiaa
/- What bytes say to whoever knows the root: verify, and the document's. -/
namespace Go.Proofs.Ytigmpdhnhkdeiaa
open Go Go.RowKit
def valH (v : List UInt8) : List UInt8 := sum (3 :: v)
theorem valH_len (v : List UInt8) : (valH v).length = 32 := sum_length _
theorem value_v (v : List UInt8) (hv : v.length ≤ 34359730000) : VC Try.prog 57 [.bs v none] [] (.ba (valH v)) := by
  have h := of_v 3 [v] (by simp; omega) (by simp)
  have e : [v].flatten = v := by simp
  rw [e] at h
  have hsl := sum_length (3 :: v)
  unfold valH
  refine mE Try.func57 ?_; intro N w0 a w hN hR H
  refine mW ?_; clear H; intro a w H
  refine mCall [] [] (h) H ?_; clear H; intro a w H; try refine wpList_nil ?_
  refine mW ?_; clear H; intro a w H
  refine wp_ret ?_; exact mEnd [] [] [.cell 2 50] [_] hN hR H
theorem valueR_v (v : List UInt8) (hv : v.length ≤ 34359730000) : VC Try.prog 117 [.bs v none] [] (.ba (valH v)) := by
  have h := ofHR_v 3 [v] (by simp; omega) (by simp)
  have e : [v].flatten = v := by simp
  rw [e] at h
  have hsl := sum_length (3 :: v)
  unfold valH
  refine mE Try.func117 ?_; intro N w0 a w hN hR H
  refine mW ?_; clear H; intro a w H
  refine mCall [] [] (h) H ?_; clear H; intro a w H; try refine wpList_nil ?_
  refine mW ?_; clear H; intro a w H
  refine wp_ret ?_; exact mEnd [] [] [.cell 2 49] [_] hN hR H
end Go.Proofs.Ytigmpdhnhkdeiaa
/- span.read: what is read of a span. -/
namespace Go.Proofs.Ytigmpdhnhkdeiaa
open Go Go.RowKit
/-- A span. -/
structure Sp where
  p : List Br
  v : List (List UInt8)
structure Sp.wf (s : Sp) : Prop where
  p : ∀ b ∈ s.p, b.wf
  lp : s.p.length ≤ 90000
  lv : s.v.length ≤ 90000
  v : ∀ x ∈ s.v, x.length ≤ 34359730000
def Sp.av (s : Sp) : AV := .st [.sl brT (brs s.p) none, .sl .sc (bss s.v) none]
def spRS (fr to key : List UInt8) (s : Sp) : RS × List UInt8 × Bool := plS fr to key 257 (List.replicate 32 0) 0 ⟨s.p, [], [], [], Nd.zero⟩
/-- Do the values fit the digests? -/
def spV (s : Sp) (x : RS) : Bool := decide (x.ks.length = s.v.length) && decide (∀ i, i < s.v.length → (s.v.getD i []).length ≤ 1024 ∧ valH (s.v.getD i []) = x.ds.getD i [])
def spE (fr to key : List UInt8) (s : Sp) : Int :=
  if 65536 < s.p.length ∨ 256 < s.v.length then 4
  else if Lib.compareBytes to fr < 0 then 2
  else if (spRS fr to key s).2.2 = true ∧ (spRS fr to key s).1.rest = [] ∧ spV s (spRS fr to key s).1 = true then 0 else 11
theorem ren_nd (fb fr : Nat → Option Nat) (n : Nd) : ren fb fr 2 n.av = n.av := rfl
theorem plS_kd (fr to key : List UInt8) : ∀ (f : Nat) (top : List UInt8) (d : Nat) (s : RS), s.ks.length = s.ds.length → (plS fr to key f top d s).1.ks.length = (plS fr to key f top d s).1.ds.length
  | 0, top, d, s, h => h
  | f + 1, top, d, ⟨[], ks, ds, sd, en⟩, h => h
  | f + 1, top, d, ⟨b :: rest, ks, ds, sd, en⟩, h => by
    dsimp only at h
    rw [plS_cons]
    split
    · exact h
    · split
      · exact h
      · split
        · exact h
        · split
          · exact h
          · split
            · dsimp only [lfS]; split
              · rw [List.length_append, List.length_append, h]; rfl
              · exact h
            · split
              · exact h
              · have ih1 := plS_kd fr to key f top (d + 1) ⟨rest, ks, ds, sd, en⟩ h
                split
                · exact ih1
                · have ih2 := plS_kd fr to key f (flipL top d) (d + 1) _ ih1
                  dsimp only
                  rw [sdS_eq]; exact ih2
theorem spV_iff (s : Sp) (x : RS) : spV s x = true ↔ x.ks.length = s.v.length ∧ ∀ i, i < s.v.length → (s.v.getD i []).length ≤ 1024 ∧ valH (s.v.getD i []) = x.ds.getD i [] := by
  unfold spV; rw [Bool.and_eq_true, decide_eq_true_iff, decide_eq_true_iff]
/-- A reader as it is handed out. -/
abbrev sprA (fr to key : List UInt8) (s : RS) : AV := .st [.st [.ba fr, .ba to], .sl brT (brs s.rest) none, .ba (sum [0]), .sl (.ba 32) (bas s.ks) none, .sl (.ba 32) (bas s.ds) none, .ba key, .st [.sl (.ba 32) (bas s.sd.reverse) none, s.en.av]]
attribute [local irreducible] wpT
set_option maxRecDepth 20000 in
set_option maxHeartbeats 8000000 in
theorem sread_v (fr to key : List UInt8) (h1 : fr.length = 32) (h2 : to.length = 32) (h3 : key.length = 32) (s : Sp) (hs : s.wf) :
    VC Try.prog 118 [.ba fr, .ba to, s.av, .ba key] []
      (.tup [.ba (if spE fr to key s = 0 then (spRS fr to key s).2.1 else z32), if spE fr to key s = 0 then .ref srdT (sprA fr to key (spRS fr to key s).1) else .v (.pointer none), errv (spE fr to key s)]) := by
  have hpl := brs_len s.p
  have hvl := bss_len s.v
  have hcm := pcmp_v to fr h2 h1
  have hem := empty_v
  have hs0 : (sum [0]).length = 32 := sum_length _
  have hz2 : (List.replicate 32 (0 : UInt8)).length = 32 := List.length_replicate
  obtain ⟨p, v⟩ := s
  obtain ⟨w1, w2, w3, w4⟩ := id hs
  dsimp only at w1 w2 w3 w4 hpl hvl
  unfold spE spRS
  dsimp only
  refine mE Try.func118 ?_; intro N w0 a w hN hR H
  simp only [Sp.av] at H
  have hX := And.intro @hpl (And.intro @hvl (And.intro @h1 (And.intro @h2 (And.intro @h3 (@hs0)))))
  refine mW ?_; clear H; intro a w H
  refine mC H (fun hb => ?_) (fun hb => ?_)
  · have e : 65536 < p.length ∨ 256 < v.length := by
      cases hd : decide ((65536 : Int) < (p.length : Int))
      · rw [hd] at hb
        have : decide ((256 : Int) < (v.length : Int)) = true := hb
        rw [decide_eq_true_eq] at this; omega
      · rw [decide_eq_true_eq] at hd; omega
    rw [if_pos e, if_neg (by decide), if_neg (by decide)]
    simp only [z32]
    refine mW ?_; clear H; intro a w H
    refine wp_ret ?_; exact mEnd [] [] [.cell 8 50, .tmp 9, .tmp 10] [_, _, _] hN hR H
  · have e : ¬ (65536 < p.length ∨ 256 < v.length) := by
      cases hd : decide ((65536 : Int) < (p.length : Int))
      · rw [hd] at hb
        have : decide ((256 : Int) < (v.length : Int)) = false := hb
        rw [decide_eq_false_iff_not] at this hd; omega
      · rw [hd] at hb; cases hb
    rw [if_neg e]
    clear hb
    refine mW ?_; clear H; intro a w H
    refine mCall [] [] (hcm) H ?_; clear H; intro a w H; try refine wpList_nil ?_
    refine mW ?_; clear H; intro a w H
    refine mC H (fun hb => ?_) (fun hb => ?_)
    · rw [decide_eq_true_eq] at hb
      rw [if_pos hb, if_neg (by decide), if_neg (by decide)]
      simp only [z32]
      refine mW ?_; clear H; intro a w H
      refine wp_ret ?_; exact mEnd [] [] [.cell 8 50, .tmp 9, .tmp 10] [_, _, _] hN hR H
    · rw [decide_eq_false_iff_not] at hb
      rw [if_neg hb]
      clear hb
      refine mS ?_
      refine mS ?_; refine mD 5 [5, 8] [0, 1, 2, 3, 4, 6] H ?_; clear H; intro gS H
      refine mT ?_; clear H; intro a w H
      refine mCallT [] [] (hem) H ?_; clear H; intro a w H
      refine mT ?_; clear H; intro a w H
      refine v_drawNil H ?_; clear H; intro H
      refine mS ?_
      replace H := v_nilVB tab_ok H 5 [3] 52 (j := ti52) rfl (by decide) rfl rfl rfl
      simp only [List.set_cons_succ, List.set_cons_zero, List.length_cons, List.length_nil, Nat.reduceAdd, List.cons_append, List.nil_append, AV.put, List.getElem?_cons_succ, List.getElem?_cons_zero] at H
      replace H := v_nilVB tab_ok H 5 [4] 50 (j := ti50) rfl (by decide) rfl rfl rfl
      simp only [List.set_cons_succ, List.set_cons_zero, List.length_cons, List.length_nil, Nat.reduceAdd, List.cons_append, List.nil_append, AV.put, List.getElem?_cons_succ, List.getElem?_cons_zero] at H
      replace H := v_nilVB tab_ok H 5 [6, 0] 50 (j := ti50) rfl (by decide) rfl rfl rfl
      simp only [List.set_cons_succ, List.set_cons_zero, List.length_cons, List.length_nil, Nat.reduceAdd, List.cons_append, List.nil_append, AV.put, List.getElem?_cons_succ, List.getElem?_cons_zero] at H
      have hw0 : RS.wf ⟨p, [], [], [], Nd.zero⟩ := ⟨w1, fun _ h => (by cases h), fun _ h => (by cases h), fun _ h => (by cases h), zero_wf, by dsimp only [List.length_nil]; omega, by dsimp only [List.length_nil]; omega, by dsimp only [List.length_nil]; omega⟩
      have hpc := splace_v fr to key h1 h2 h3 257 (List.replicate 32 0) 0 ⟨p, [], [], [], Nd.zero⟩ (by omega) (by omega) hz2 hw0
      obtain ⟨a1, a2, a3, a4, a5, a6, a7⟩ := plS_wf fr to key 257 (List.replicate 32 0) 0 ⟨p, [], [], [], Nd.zero⟩ hw0
      have hkd := plS_kd fr to key 257 (List.replicate 32 0) 0 ⟨p, [], [], [], Nd.zero⟩ rfl
      generalize plS fr to key 257 (List.replicate 32 0) 0 ⟨p, [], [], [], Nd.zero⟩ = x at *
      obtain ⟨⟨xr, xk, xd, xs, xe⟩, xh, xo⟩ := x
      have hkl := bas_len xk
      have hdl := bas_len xd
      have hsl := bas_len xs
      have hrl := brs_len xr
      have b0 : bas [] = [] := rfl
      have z0 : Nd.zero.av = .st [.v (.int .u8 0), .ba (List.replicate 32 0), .ba (List.replicate 32 0), .ba (List.replicate 32 0), .ba (List.replicate 32 0)] := rfl
      simp only [rdB, rdA, z0, b0, List.length_nil] at hpc
      dsimp only at hkd a1 a2 a3 a4 a5 a6 a7 ⊢
      have hsv := spV_iff ⟨p, v⟩ ⟨xr, xk, xd, xs, xe⟩
      dsimp only at hsv
      generalize spV ⟨p, v⟩ ⟨xr, xk, xd, xs, xe⟩ = B at *
      clear hX; have hX := And.intro @hpl (And.intro @hvl (And.intro @h1 (And.intro @h2 (And.intro @h3 (And.intro @hs0 (And.intro @hkl (And.intro @hdl (And.intro @hsl (And.intro @hrl (@a2))))))))))
      refine mW ?_; clear H; intro a w H
      refine mCall [5, 6, 7, 8] [] (hpc) H ?_; clear H; intro a w H; try refine wpList_nil ?_
      rw [ren_nd] at H
      refine mS ?_
      refine mW ?_; clear H; intro a w H
      refine mS ?_; refine mD 10 [] [] H ?_; clear H; intro gS H
      refine mT ?_; clear H; intro a w H
      refine v_drawNil H ?_; clear H; intro H
      refine mC H (fun hb => ?_) (fun hb => ?_)
      · have e : ¬ (xo = true ∧ xr = [] ∧ B = true) := by
          rintro ⟨e1, e2, e3⟩
          rw [e1, e2, (hsv.1 e3).1] at hb
          simp at hb
        rw [if_neg e, if_neg (by decide), if_neg (by decide)]
        simp only [z32]
        refine mW ?_; clear H; intro a w H
        refine wp_ret ?_; exact mEnd [] [] [.cell 8 50, .tmp 9, .tmp 10] [_, _, _] hN hR H
      · have e : xo = true ∧ xr = [] ∧ xk.length = v.length := by
          cases xo
          · cases hb
          · cases hd : decide (0 < (xr.length : Int))
            · rw [hd] at hb
              rw [decide_eq_false_iff_not] at hd
              refine ⟨rfl, List.length_eq_zero_iff.1 (by omega), ?_⟩
              have : (!decide ((xk.length : Int) = (v.length : Int))) = false := hb
              rw [Bool.not_eq_false', decide_eq_true_eq] at this; omega
            · rw [hd] at hb; cases hb
        obtain ⟨rfl, rfl, e3⟩ := e
        clear hb
        have hxd : ∀ i, i < xd.length → (bas xd).getD i .any = .ba (xd.getD i []) := fun i hi => by rw [bas_get xd i hi, List.getD_eq_getElem?_getD, List.getElem?_eq_getElem hi]; rfl
        refine mW ?_; clear H; intro a w H
        have lkd : xd.length = v.length := by rw [← e3]; exact hkd.symm
        refine v_loop (fun i : Nat => ⟨[(74, none, .v (.int .i64 (i : Int))), (73, none, .v (.int .i64 (v.length : Int))), (72, none, .sl .sc (bss v) none), (12, none, .ptr 9 []), (11, none, .ptr 5 []), (10, none, .v (.int .i64 0)), (9, none, .v (.pointer none)), (8, none, .ptr 4 [])],
          [(.ba 32, .ba fr), (.ba 32, .ba to), (ti25.ty, .st [.sl brT (brs p) none, .sl .sc (bss v) none]), (.ba 32, .ba key), (.ba 32, .ba (List.replicate 32 0)), (srdT, .st [.st [.ba fr, .ba to], .sl brT (brs []) none, .ba (sum [0]), .vw 6 xk.length xk.length, .vw 7 xd.length xd.length, .ba key, .st [.vw 8 xs.length xs.length, xe.av]]),
            (.vc 52 (.ba 32), .vc xk.length (bas xk)), (.vc 50 (.ba 32), .vc xd.length (bas xd)), (.vc 50 (.ba 32), .vc xs.length (bas xs)), (.ba 32, .ba xh)], [], []⟩)
          (fun i => i ≤ v.length ∧ ∀ j, j < i → (v.getD j []).length ≤ 1024 ∧ valH (v.getD j []) = xd.getD j []) (fun i => v.length - i) 0 ⟨Nat.zero_le _, fun j hj => absurd hj (Nat.not_lt_zero _)⟩
          (H.to 10 0 ⟨Nat.le_trans hN (Nat.le_of_ble_eq_true rfl), hR⟩ ⟨rfl, rfl, rfl, rfl, rfl, rfl, rfl, rfl, trivial⟩ rfl rfl rfl rfl rfl) ?_
        clear H
        rintro i a w ⟨hi, hfit⟩ H
        refine mW ?_; clear H; intro a w H
        refine mC H (fun hb => ?_) (fun hb => ?_)
        · have hlt : i < v.length := by rw [decide_eq_true_eq] at hb; omega
          clear hb
          have hg := bss_get v i hlt
          have hg2 := hxd i (by omega)
          have hvi : (v.getD i []) = v[i] := by rw [List.getD_eq_getElem?_getD, List.getElem?_eq_getElem hlt]; rfl
          have hval := value_v v[i] (w4 _ (List.getElem_mem hlt))
          have hvll := valH_len v[i]
          have hxl : (xd.getD i []).length = 32 := by
            rw [List.getD_eq_getElem?_getD, List.getElem?_eq_getElem (by omega)]; exact a1.ds _ (List.getElem_mem _)
          refine mS ?_
          clear hX; have hX := And.intro @hpl (And.intro @hvl (And.intro @h1 (And.intro @h2 (And.intro @h3 (And.intro @hs0 (And.intro @hkl (And.intro @hdl (And.intro @hsl (And.intro @hrl (And.intro @a2 (And.intro @hg (And.intro @hg2 (And.intro @hvll (@hxl))))))))))))))
          (try refine wp_region_lit ?_); refine mN 3 hN H ?_; clear H; intro a w H
          refine mW ?_; clear H; intro a w H
          refine mS ?_; refine mD 10 [5] [6, 7, 8, 9, 10, 11, 12] H ?_; clear H; intro gS H
          refine mT ?_; clear H; intro a w H
          refine mCallTG [] [] (hval) H ?_; clear H; intro a w H
          refine mTN 7 hN H ?_; clear H; intro a w H; simp only [List.drop_succ_cons, List.drop_zero, List.drop_nil]
          refine mT ?_; clear H; intro a w H
          refine v_drawNil H ?_; clear H; intro H
          refine mC H (fun hb => ?_) (fun hb => ?_)
          · have e : ¬ B = true := fun e => by
              obtain ⟨e5, e6⟩ := (hsv.1 e).2 i hlt
              rw [hvi] at e5 e6
              rw [e6] at hb
              have : decide ((1024 : Int) < (v[i].length : Int)) = false := decide_eq_false (by omega)
              rw [this] at hb
              simp at hb
            obtain rfl : B = false := by cases B <;> first | rfl | exact absurd rfl e
            have e11 : ¬ (11 : Int) = 0 := by decide
            simp only [Bool.false_eq_true, and_false, if_false, e11]
            simp only [z32]
            refine mW ?_; clear H; intro a w H
            refine wp_ret ?_; exact mEnd [] [] [.cell 8 50, .tmp 9, .tmp 10] [_, _, _] hN hR H
          · have e : v[i].length ≤ 1024 ∧ valH v[i] = xd.getD i [] := by
              cases hd : decide ((1024 : Int) < (v[i].length : Int))
              · rw [hd] at hb
                rw [decide_eq_false_iff_not] at hd
                refine ⟨by omega, ?_⟩
                simpa using hb
              · rw [hd] at hb; cases hb
            clear hb
            refine mW ?_; clear H; intro a w H
            refine ⟨i + 1, ⟨hlt, fun j hj => ?_⟩, by omega, H.to 10 0 ⟨Nat.le_trans hN (Nat.le_of_ble_eq_true rfl), hR⟩ ⟨rfl, rfl, rfl, rfl, rfl, rfl, rfl, rfl, trivial⟩ rfl rfl rfl rfl rfl⟩
            rcases Nat.lt_succ_iff_lt_or_eq.1 hj with h | rfl
            · exact hfit j h
            · rw [hvi]; exact e
        · have hge : i = v.length := by rw [decide_eq_false_iff_not] at hb; omega
          subst hge
          have hB : B = true := hsv.2 ⟨e3, hfit⟩
          subst hB
          simp only [and_self, if_true]
          have hrv := revV_v xs xs.length (by have := a1.ls; dsimp only at this; omega) a1.sd
          refine mW ?_; clear H; intro a w H
          refine mCall [8] [] (hrv) H ?_; clear H; intro a w H; try refine wpList_nil ?_
          refine mW ?_; clear H; intro a w H
          have hrl2 : (bas xs.reverse).length = xs.length := by simp [bas]
          have tk : (bas xk).take xk.length = bas xk := List.take_of_length_le (by omega)
          have td : (bas xd).take xd.length = bas xd := List.take_of_length_le (by omega)
          have ts : (bas xs.reverse).take xs.length = bas xs.reverse := List.take_of_length_le (by omega)
          replace H := v_frzB H 6 5 [3] (Nat.le_trans hN (Nat.zero_le _)) rfl rfl rfl rfl (by omega)
          simp only [AV.put, List.set_cons_succ, List.set_cons_zero, List.getElem?_cons_succ, List.getElem?_cons_zero, tk] at H
          replace H := v_frzB H 7 5 [4] (Nat.le_trans hN (Nat.zero_le _)) rfl rfl rfl rfl (by omega)
          simp only [AV.put, List.set_cons_succ, List.set_cons_zero, List.getElem?_cons_succ, List.getElem?_cons_zero, td] at H
          replace H := v_frzB H 8 5 [6, 0] (Nat.le_trans hN (Nat.zero_le _)) rfl rfl rfl rfl (by omega)
          simp only [AV.put, List.set_cons_succ, List.set_cons_zero, List.getElem?_cons_succ, List.getElem?_cons_zero, ts] at H
          replace H := v_ref H 9 5 (Nat.le_trans hN (Nat.zero_le _)) rfl rfl rfl
          simp only [nilT, strip, List.map_cons, List.map_nil, reduceIte, Nat.reduceEqDiff] at H
          clear hX; have hX := @Nd.av.eq_1
          refine wp_ret ?_; exact mEnd [] [] [.cell 8 50, .tmp 9, .tmp 10] [_, _, _] hN hR H
end Go.Proofs.Ytigmpdhnhkdeiaa
/- Entries. -/
namespace Go.Proofs.Ytigmpdhnhkdeiaa
open Go Go.RowKit
abbrev Pr := List UInt8 × List UInt8
abbrev prT : Ty := .cn (.ba 32) (.cn .sc .nl)
def prA (p : Pr) : AV := .st [.ba p.1, .bs p.2 none]
end Go.Proofs.Ytigmpdhnhkdeiaa
/- span.Check, Root, Single. -/
namespace Go.Proofs.Ytigmpdhnhkdeiaa
open Go Go.RowKit
attribute [local irreducible] wpT
def spH (fr to key : List UInt8) (s : Sp) : List UInt8 := if spE fr to key s = 0 then (spRS fr to key s).2.1 else z32
theorem spRS_wf (fr to key : List UInt8) (s : Sp) (hs : s.wf) : (spRS fr to key s).1.wf :=
  (plS_wf fr to key 257 _ 0 _ ⟨hs.p, fun _ h => (by cases h), fun _ h => (by cases h), fun _ h => (by cases h), zero_wf, by have := hs.lp; dsimp only [List.length_nil]; omega, by have := hs.lp; dsimp only [List.length_nil]; omega, by have := hs.lp; dsimp only [List.length_nil]; omega⟩).1
theorem spH_len (fr to key : List UInt8) (s : Sp) (hs : s.wf) : (spH fr to key s).length = 32 := by
  unfold spH
  split
  · exact (plS_wf fr to key 257 _ 0 _ ⟨hs.p, fun _ h => (by cases h), fun _ h => (by cases h), fun _ h => (by cases h), zero_wf, by have := hs.lp; dsimp only [List.length_nil]; omega, by have := hs.lp; dsimp only [List.length_nil]; omega, by have := hs.lp; dsimp only [List.length_nil]; omega⟩).2.1
  · exact z32_len
theorem spE_rng (fr to key : List UInt8) (s : Sp) : 0 ≤ spE fr to key s ∧ spE fr to key s ≤ 11 := by unfold spE; (repeat' split) <;> decide
theorem scheck_v (fr to : List UInt8) (h1 : fr.length = 32) (h2 : to.length = 32) (s : Sp) (hs : s.wf) : VC Try.prog 39 [.ba fr, .ba to, s.av] [] (errv (spE fr to fr s)) := by
  have hr := sread_v fr to fr h1 h2 h1 s hs
  have hl := spH_len fr to fr s hs
  have hw1 := brs_len s.p
  have hw2 := bss_len s.v
  unfold spH at hl
  have hl0 : (sum [0]).length = 32 := sum_length _
  generalize spE fr to fr s = e at *
  generalize (if e = 0 then (spRS fr to fr s).2.1 else z32) = h at *
  simp only [Sp.av] at hr ⊢
  by_cases he : e = 0
  · rw [if_pos he] at hr
    generalize sprA fr to fr (spRS fr to fr s).1 = R at *
    refine mE Try.func39 ?_; intro N w0 a w hN hR H
    have hX := And.intro @hl (And.intro @h1 (@h2))
    refine mW ?_; clear H; intro a w H
    refine mCall [] [] (hr) H ?_; clear H; intro a w H; try refine wpList_nil ?_
    refine mW ?_; clear H; intro a w H
    refine wp_ret ?_; exact mEnd [] [] [.tmp 6] [_] hN hR H
  · rw [if_neg he] at hr
    refine mE Try.func39 ?_; intro N w0 a w hN hR H
    have hX := And.intro @hl (And.intro @h1 (@h2))
    refine mW ?_; clear H; intro a w H
    refine mCall [] [] (hr) H ?_; clear H; intro a w H; try refine wpList_nil ?_
    refine mW ?_; clear H; intro a w H
    refine wp_ret ?_; exact mEnd [] [] [.tmp 6] [_] hN hR H
theorem sroot_v (fr to : List UInt8) (h1 : fr.length = 32) (h2 : to.length = 32) (s : Sp) (hs : s.wf) : VC Try.prog 36 [.ba fr, .ba to, s.av] [] (.tup [.ba (spH fr to fr s), errv (spE fr to fr s)]) := by
  have hr := sread_v fr to fr h1 h2 h1 s hs
  have hl := spH_len fr to fr s hs
  have hw1 := brs_len s.p
  have hw2 := bss_len s.v
  unfold spH at hl ⊢
  have hl0 : (sum [0]).length = 32 := sum_length _
  generalize spE fr to fr s = e at *
  generalize (if e = 0 then (spRS fr to fr s).2.1 else z32) = h at *
  simp only [Sp.av] at hr ⊢
  by_cases he : e = 0
  · rw [if_pos he] at hr
    generalize sprA fr to fr (spRS fr to fr s).1 = R at *
    refine mE Try.func36 ?_; intro N w0 a w hN hR H
    have hX := And.intro @hl (And.intro @h1 (@h2))
    refine mW ?_; clear H; intro a w H
    refine mCall [] [] (hr) H ?_; clear H; intro a w H; try refine wpList_nil ?_
    refine mW ?_; clear H; intro a w H
    refine wp_ret ?_; exact mEnd [] [] [.cell 6 50, .tmp 7] [_, _] hN hR H
  · rw [if_neg he] at hr
    refine mE Try.func36 ?_; intro N w0 a w hN hR H
    have hX := And.intro @hl (And.intro @h1 (@h2))
    refine mW ?_; clear H; intro a w H
    refine mCall [] [] (hr) H ?_; clear H; intro a w H; try refine wpList_nil ?_
    refine mW ?_; clear H; intro a w H
    refine wp_ret ?_; exact mEnd [] [] [.cell 6 50, .tmp 7] [_, _] hN hR H
/-- A key's way in a span. -/
def spW (fr to key : List UInt8) (s : Sp) : Pf := if spE fr to key s = 0 ∧ hasB fr to key = true then ⟨(spRS fr to key s).1.sd.reverse, (spRS fr to key s).1.en⟩ else Pf.zero
def spWE (fr to key : List UInt8) (s : Sp) : Int := if spE fr to key s = 0 then (if hasB fr to key then 0 else 2) else spE fr to key s
theorem ssingle_v (fr to key : List UInt8) (h1 : fr.length = 32) (h2 : to.length = 32) (h3 : key.length = 32) (s : Sp) (hs : s.wf) : VC Try.prog 37 [.ba fr, .ba to, s.av, .ba key] [] (.tup [(spW fr to key s).av, errv (spWE fr to key s)]) := by
  have hr := sread_v fr to key h1 h2 h3 s hs
  have hl := spH_len fr to key s hs
  have hhas := has_v fr to key h1 h2 h3
  have hw1 := brs_len s.p
  have hw2 := bss_len s.v
  have hrg := spE_rng fr to key s
  unfold spH at hl
  unfold spW spWE
  generalize spE fr to key s = e at *
  generalize (if e = 0 then (spRS fr to key s).2.1 else z32) = h at *
  have hwf := (spRS_wf fr to key s hs).en
  obtain ⟨⟨⟨xr, xk, xd, xs, xe⟩, xh, xo⟩, hx⟩ : ∃ x, x = spRS fr to key s := ⟨_, rfl⟩
  rw [← hx] at hr hwf ⊢
  obtain ⟨v1, v2, v3, v4⟩ := hwf
  dsimp only at v1 v2 v3 v4
  dsimp only [sprA] at hr ⊢
  simp only [Sp.av] at hr ⊢
  by_cases he : e = 0
  · rw [if_pos he] at hr ⊢
    refine mE Try.func37 ?_; intro N w0 a w hN hR H
    have hX := And.intro @hl (And.intro @h1 (And.intro @h2 (@h3)))
    refine mW ?_; clear H; intro a w H
    refine mCall [] [] (hr) H ?_; clear H; intro a w H; try refine wpList_nil ?_
    refine mW ?_; clear H; intro a w H
    refine mC H (fun hb => ?_) (fun hb => ?_)
    · rw [he] at hb; exact absurd hb (by decide)
    · clear hb
      refine mS ?_
      refine mS ?_; refine mD 5 [5] [] H ?_; clear H; intro gS H
      refine mT ?_; clear H; intro a w H
      refine mCallT [] [] (hhas) H ?_; clear H; intro a w H
      refine mT ?_; clear H; intro a w H
      refine v_drawNil H ?_; clear H; intro H
      refine mC H (fun hb => ?_) (fun hb => ?_)
      · have hh : hasB fr to key = false := by simpa using hb
        rw [hh, if_neg (fun h => absurd h.2 (by decide)), if_neg (by decide)]
        simp only [Pf.av, Pf.zero, Nd.zero, Nd.av, z32, bas, List.map_nil]
        refine mW ?_; clear H; intro a w H
        refine wp_ret ?_; exact mEnd [] [] [.cell 8 68, .tmp 9] [_, _] hN hR H
      · have hh : hasB fr to key = true := by simpa using hb
        rw [hh, if_pos ⟨he, rfl⟩, if_pos rfl]
        clear hX; have hX := And.intro @hl (And.intro @h1 (And.intro @h2 (And.intro @h3 (And.intro @v1 (And.intro @v2 (And.intro @v3 (And.intro @v4 (@Nd.av.eq_1))))))))
        refine mW ?_; clear H; intro a w H
        simp only [Pf.av, Nd.av]
        refine wp_ret ?_; exact mEnd [] [] [.cell 8 68, .tmp 9] [_, _] hN hR H
  · rw [if_neg he] at hr ⊢
    rw [if_neg (fun h => he h.1)]
    have hd : (!decide (e = 0)) = true := by rw [decide_eq_false he]; rfl
    simp only [Pf.av, Pf.zero, Nd.zero, Nd.av, z32, bas, List.map_nil]
    refine mE Try.func37 ?_; intro N w0 a w hN hR H
    have hX := And.intro @hl (And.intro @h1 (And.intro @h2 (@h3)))
    refine mW ?_; clear H; intro a w H
    refine mCall [] [] (hr) H ?_; clear H; intro a w H; try refine wpList_nil ?_
    refine mW ?_; clear H; intro a w H
    refine mC H (fun hb => ?_) (fun hb => ?_)
    · refine mW ?_; clear H; intro a w H
      refine wp_ret ?_; exact mEnd [] [] [.cell 8 68, .tmp 9] [_, _] hN hR H
    · rw [hd] at hb; cases hb
/-- The entries of a span. -/
def spL (fr to : List UInt8) (s : Sp) : List Pr := (spRS fr to fr s).1.ks.zip s.v
def spRE (root fr to : List UInt8) (s : Sp) : Int := if spE fr to fr s = 0 then (if spH fr to fr s = root then 0 else 11) else spE fr to fr s
end Go.Proofs.Ytigmpdhnhkdeiaa
/- A key's way through places: ref20.Way. -/
namespace Go.Proofs.Ytigmpdhnhkdeiaa
open Go Go.RowKit
/-- Digests and keys are as long as they should be; no inner place too deep. -/
def Tr.okd : Nat → Tr → Prop
  | d, .n a b => d < 256 ∧ a.dg.length = 32 ∧ b.dg.length = 32 ∧ a.okd (d + 1) ∧ b.okd (d + 1)
  | _, .l k v => k.length = 32 ∧ v.length = 32
  | _, _ => True
theorem rd_okd {op : List UInt8 → Nat → Bool} : ∀ {f : Nat} {p : List UInt8} {d : Nat} {l : List Br} {t : Tr} {r : List Br}, (∀ b ∈ l, b.wf) → rdTr op f p d l = some (t, r) → t.okd d
  | 0, p, d, l, t, r, _, h => by simp [rdTr] at h
  | f + 1, p, d, [], t, r, _, h => by simp [rdTr] at h
  | f + 1, p, d, b :: rest, t, r, hw, h => by
    have hw2 : ∀ b ∈ rest, b.wf := fun b hb => hw b (List.mem_cons_of_mem _ hb)
    unfold rdTr at h
    split at h
    · cases h
    · split at h
      · simp only [Option.some.injEq, Prod.mk.injEq] at h; obtain ⟨rfl, rfl⟩ := h; trivial
      · split at h
        · split at h
          · cases h
          · simp only [Option.some.injEq, Prod.mk.injEq] at h; obtain ⟨rfl, rfl⟩ := h; trivial
        · split at h
          · cases h
          · split at h
            · split at h
              · simp only [Option.some.injEq, Prod.mk.injEq] at h; obtain ⟨rfl, rfl⟩ := h
                exact ⟨(hw b List.mem_cons_self).key, (hw b List.mem_cons_self).v⟩
              · cases h
            · split at h
              · cases h
              · rename_i h6
                split at h
                · cases h
                · rename_i x r1 e1
                  split at h
                  · cases h
                  · rename_i y r2 e2
                    simp only [Option.some.injEq, Prod.mk.injEq] at h; obtain ⟨rfl, rfl⟩ := h
                    obtain ⟨x1, x2⟩ := rd_dgl hw2 e1
                    exact ⟨by omega, x1, (rd_dgl x2 e2).1, rd_okd hw2 e1, rd_okd x2 e2⟩
def Tr.end_ (t : Tr) : Nd := ⟨t.part.k, t.part.key, t.part.v, z32, z32⟩
theorem Tr.last_not (key : List UInt8) : ∀ (t : Tr) (d : Nat) (a b : Tr), t.last key d ≠ .n a b
  | .n x y, d, a, b => by
    unfold Tr.last; split
    · exact Tr.last_not key y (d + 1) a b
    · exact Tr.last_not key x (d + 1) a b
  | .e, _, _, _ => fun h => by cases h
  | .c _, _, _, _ => fun h => by cases h
  | .l _ _, _, _, _ => fun h => by cases h
theorem end_fin {t : Tr} {key : List UInt8} {d : Nat} (hc : ∀ g, t.last key d ≠ .c g) : (t.last key d).end_ = t.fin key d Nd.zero := by
  rw [Tr.fin_last]
  cases h : t.last key d with
  | e => rfl
  | c g => exact absurd h (hc g)
  | l k v => rfl
  | n a b => exact absurd h (Tr.last_not key t d a b)
theorem Tr.part_okd {t : Tr} {d : Nat} (h : t.okd d) : t.part.key.length = 32 ∧ t.part.v.length = 32 := by
  cases t with
  | l k v => exact h
  | _ => exact ⟨z32_len, z32_len⟩
/-- Where a key's way has come to. -/
structure WI where
  i : Nat
  u : Tr
  q : List UInt8
  e : Nat
  sd : List (List UInt8)
structure WI.ok (L : List Pl) (key : List UInt8) (W : List (List UInt8)) (T : Tr) (x : WI) : Prop where
  at_ : AtP L x.i x.u x.q x.e
  way : W = x.sd ++ x.u.way key x.e
  last : T = x.u.last key x.e
  sd : ∀ g ∈ x.sd, g.length = 32
  okd : x.u.okd x.e
  len : x.sd.length = x.e
theorem pls_get {L : List Pl} {i : Nat} {x : Pl} (h : L[i]? = some x) : (pls L).getD i .any = x.av := by
  rw [List.getD_eq_getElem?_getD, pls, List.getElem?_map, h]; rfl
attribute [local irreducible] wpT
set_option maxRecDepth 20000 in
set_option maxHeartbeats 8000000 in
theorem way20_v (t : Tr) (key p : List UInt8) (hk : key.length = 32) (hc : ∀ g, t.last key 0 ≠ .c g) (ht : t.okd 0) (hn : t.num ≤ 70000) :
    VC Try.prog 114 [.sl plT (pls (t.pl p 0)) none, .ba key] [] (⟨t.way key 0, t.fin key 0 Nd.zero⟩ : Pf).av := by
  have h0 : WI.ok (t.pl p 0) key (t.way key 0) (t.last key 0) ⟨0, t, p, 0, []⟩ := ⟨AtP.top t p 0, rfl, rfl, fun g hg => (by cases hg), ht, rfl⟩
  have hLl : (t.pl p 0).length ≤ 70000 := by rw [Tr.pl_len]; exact hn
  rw [← end_fin hc]
  clear hc
  generalize t.pl p 0 = L at *
  generalize t.way key 0 = W at *
  generalize t.last key 0 = T at *
  have hPl := pls_len L
  have hz2 := z32_len
  have hzl : (List.replicate 32 (0 : UInt8)).length = 32 := List.length_replicate
  refine mE Try.func114 ?_; intro N w0 a w hN hR H
  have hX := And.intro @hPl (And.intro @hk (@hzl))
  refine mW ?_; clear H; intro a w H
  replace H := v_nilVB tab_ok H 2 [0] 50 (j := ti50) rfl (by decide) rfl rfl rfl
  simp only [List.set_cons_succ, List.set_cons_zero, List.length_cons, List.length_nil, Nat.reduceAdd, List.cons_append, List.nil_append, AV.put, List.getElem?_cons_succ, List.getElem?_cons_zero] at H
  refine v_loop (fun x : WI => ⟨[(6, none, .v (.int .i64 (x.i : Int))), (5, none, .ptr 2 []), (4, none, .ptr 1 []), (3, none, .ptr 0 []), (0, none, .sl plT (pls L) none)],
    [(.ba 32, .ba key), (ti68.ty, .st [.v (.slice none 0 0), .st [.v (.int .u8 0), .ba (List.replicate 32 0), .ba (List.replicate 32 0), .ba (List.replicate 32 0), .ba (List.replicate 32 0)]]), (ti68.ty, .st [.vw 3 x.sd.length x.sd.length, .st [.v (.int .u8 0), .ba (List.replicate 32 0), .ba (List.replicate 32 0), .ba (List.replicate 32 0), .ba (List.replicate 32 0)]]), (.vc 50 (.ba 32), .vc x.sd.length (bas x.sd))], [], []⟩)
    (fun x => WI.ok L key W T x) (fun x => x.u.num) ⟨0, t, p, 0, []⟩ h0
    (H.to 4 0 ⟨Nat.le_trans hN (Nat.le_of_ble_eq_true rfl), hR⟩ ⟨rfl, rfl, rfl, rfl, rfl, trivial⟩ rfl rfl rfl rfl rfl) ?_
  clear H h0
  rintro ⟨i, u, q, e, sd⟩ a w ho H
  obtain ⟨o1, o2, o3, o4, o5, o6⟩ := ho
  dsimp only at o1 o2 o3 o4 o5 o6 H
  obtain ⟨g1, g2⟩ := o1.get
  have g3 := pls_get g2
  simp only [Pl.av, Br.av] at g3
  have hsl := bas_len sd
  have hpos := u.num_pos
  have k2 : decide ((u.part.k.toNat : Int) = 2) = decide (u.part.k = 2) := kz u.part.k 2 (by decide)
  obtain ⟨pk1, pk2⟩ := Tr.part_okd o5
  refine mS ?_
  clear hX; have hX := And.intro @hPl (And.intro @hk (And.intro @hzl (And.intro @hsl (@g3))))
  (try refine wp_region_lit ?_); refine mN 3 hN H ?_; clear H; intro a w H
  refine mW ?_; clear H; intro a w H
  simp only [k2] at H
  refine mC H (fun hb => ?_) (fun hb => ?_)
  · rw [decide_eq_true_eq] at hb
    obtain ⟨ua, ub, rfl⟩ := (Tr.part_k u).1 hb
    clear hb g1 g2 g3 pk1 pk2 hpos k2
    obtain ⟨oe, oa, ob, oka, okb⟩ := o5
    have al := o1.left
    have ar := o1.right
    obtain ⟨l1, l2⟩ := al.get
    obtain ⟨r1, r2⟩ := ar.get
    have l3 := pls_get l2
    have r3 := pls_get r2
    obtain ⟨_, c2⟩ := o1.get
    have c3 := pls_get c2
    simp only [Pl.av, Br.av] at l3 r3 c3
    have hbit := bitR_v key hk (e : Int)
    have hpb : pbit key (e : Int) = if bitN key e then 1 else 0 := by rw [pbit, if_pos (by omega), Int.toNat_natCast]
    rw [hpb] at hbit
    have e1 : (i : Int) + 1 = ((i + 1 : Nat) : Int) := by omega
    have e2 : ((i + 1 : Nat) : Int) + (ua.num : Int) = ((i + 1 + ua.num : Nat) : Int) := by omega
    have pa := ua.num_pos
    have pb := ub.num_pos
    refine mS ?_
    clear hX; have hX := And.intro @hPl (And.intro @hk (And.intro @hzl (And.intro @hsl (@l3))))
    replace H := mK [0, 3, 4, 5, 6] 4 0 hN hR H
    (try refine wp_region_lit ?_); refine mN 3 hN H ?_; clear H; intro a w H
    refine wpList_nil ?_
    simp only [e1] at H
    refine mS ?_
    (try refine wp_region_lit ?_); refine mN 4 hN H ?_; clear H; intro a w H
    refine mW ?_; clear H; intro a w H
    simp only [e2] at H
    refine mS ?_
    replace H := mK [0, 3, 4, 5, 6, 7, 8] 4 0 hN hR H
    clear hX; have hX := And.intro @hPl (And.intro @hk (And.intro @hzl (And.intro @hsl (@c3))))
    refine mS ?_; refine mD 1 [6] [] H ?_; clear H; intro gS H
    refine mTN 4 hN H ?_; clear H; intro a w H; simp only [List.drop_succ_cons, List.drop_zero, List.drop_nil]
    refine mTN 2 hN H ?_; clear H; intro a w H; simp only [List.drop_succ_cons, List.drop_zero, List.drop_nil]
    refine mCallT [] [] (hbit) H ?_; clear H; intro a w H
    refine mT ?_; clear H; intro a w H
    refine v_drawNil H ?_; clear H; intro H
    refine mW ?_; clear H; intro a w H
    refine mC H (fun hb => ?_) (fun hb => ?_)
    · have hbe : bitN key e = false := by
        cases h : bitN key e
        · rfl
        · rw [h] at hb; exact absurd hb (by decide)
      clear hb
      refine mS ?_
      replace H := mK [0, 3, 4, 5, 6, 7, 8] 4 0 hN hR H
      have ho2 : WI.ok L key W T ⟨i + 1, ua, q, e + 1, sd ++ [ub.dg]⟩ := by
        refine ⟨al, ?_, ?_, ?_, oka, by dsimp only; rw [List.length_append, o6]; rfl⟩
        · rw [o2]; simp [Tr.way, hbe]
        · rw [o3]; simp [Tr.last, hbe]
        · intro g hg
          rcases List.mem_append.1 hg with hg | hg
          · exact o4 g hg
          · rw [List.mem_singleton.1 hg]; assumption
      obtain ⟨zs, hzs⟩ : ∃ z, z = sd ++ [ub.dg] := ⟨_, rfl⟩
      rw [← hzs] at ho2
      have z1 : sd.length + 1 = zs.length := by rw [hzs, List.length_append]; rfl
      have z2 : bas sd ++ [.ba ub.dg] = bas zs := by rw [hzs]; simp [bas]
      have z3 : (bas sd).take sd.length = bas sd := List.take_of_length_le (by omega)
      have z4 : sd.length ≤ 256 := by omega
      clear hX; have hX := And.intro @hPl (And.intro @hk (And.intro @hzl (And.intro @hsl (And.intro @r3 (And.intro @oa (@ob))))))
      repeat (first | refine wp_seq ?_ | refine wp_block ?_)
      refine v_drawZ 0 [0, 2, 3, 4, 5, 6, 1, 7, 8, 9, 10] [1, 7, 8, 10] [0, 2, 3, 4, 5, 6] [(1, 7)] (by kernel_rfl) (by kernel_rfl) (by kernel_rfl) (by kernel_rfl) (by kernel_rfl) H (by rfl) ?_; clear H; intro gS H; try replace H := ntf H
      repeat' ((first | refine wpZ_q1 rfl rfl ?_ | refine wpZ_l1 rfl rfl rfl ?_ | refine wpZ_l2 rfl rfl rfl rfl rfl ?_ ?_ | refine wpZ_l3 rfl rfl rfl rfl rfl rfl rfl ?_ ?_ ?_ | refine wpZ_l4 rfl rfl rfl rfl rfl rfl rfl rfl rfl ?_ ?_ ?_ ?_) <;> ((first | (refine v_someT 1 tab_ok hN H rfl ctX ?_; clear H; intro a w H; replace H := ntf H; simp only [List.drop_succ_cons, List.drop_zero, List.drop_nil])); refine wpT_nil ?_; try dsimp only))
      all_goals (refine wpZ_nil ?_; replace H := RelT.toRel H)
      all_goals
        simp only [z1, z2, z3] at H
        refine mW ?_; clear H; intro a w H
        exact ⟨⟨i + 1, ua, q, e + 1, zs⟩, ho2, by dsimp only [Tr.num]; omega, H.to 4 0 ⟨Nat.le_trans hN (Nat.le_of_ble_eq_true rfl), hR⟩ ⟨rfl, rfl, rfl, rfl, rfl, trivial⟩ rfl rfl rfl rfl rfl⟩
    · have hbe : bitN key e = true := by
        cases h : bitN key e
        · rw [h] at hb; exact absurd hb (by decide)
        · rfl
      clear hb
      refine mS ?_
      clear hX; have hX := And.intro @hPl (And.intro @hk (And.intro @hzl (And.intro @hsl (And.intro @r3 (And.intro @oa (@ob))))))
      replace H := mK [0, 3, 4, 5, 6, 7, 8] 4 0 hN hR H
      have ho2 : WI.ok L key W T ⟨i + 1 + ua.num, ub, flipL q e, e + 1, sd ++ [ua.dg]⟩ := by
        refine ⟨ar, ?_, ?_, ?_, okb, by dsimp only; rw [List.length_append, o6]; rfl⟩
        · rw [o2]; simp [Tr.way, hbe]
        · rw [o3]; simp [Tr.last, hbe]
        · intro g hg
          rcases List.mem_append.1 hg with hg | hg
          · exact o4 g hg
          · rw [List.mem_singleton.1 hg]; assumption
      obtain ⟨zs, hzs⟩ : ∃ z, z = sd ++ [ua.dg] := ⟨_, rfl⟩
      rw [← hzs] at ho2
      have z1 : sd.length + 1 = zs.length := by rw [hzs, List.length_append]; rfl
      have z2 : bas sd ++ [.ba ua.dg] = bas zs := by rw [hzs]; simp [bas]
      have z3 : (bas sd).take sd.length = bas sd := List.take_of_length_le (by omega)
      have z4 : sd.length ≤ 256 := by omega
      clear hX; have hX := And.intro @hPl (And.intro @hk (And.intro @hzl (And.intro @hsl (And.intro @l3 (And.intro @oa (@ob))))))
      repeat (first | refine wp_seq ?_ | refine wp_block ?_)
      refine v_drawZ 0 [0, 2, 3, 4, 5, 6, 1, 7, 8, 9, 10] [1, 7, 8, 10] [0, 2, 3, 4, 5, 6] [(1, 7)] (by kernel_rfl) (by kernel_rfl) (by kernel_rfl) (by kernel_rfl) (by kernel_rfl) H (by rfl) ?_; clear H; intro gS H; try replace H := ntf H
      repeat' ((first | refine wpZ_q1 rfl rfl ?_ | refine wpZ_l1 rfl rfl rfl ?_ | refine wpZ_l2 rfl rfl rfl rfl rfl ?_ ?_ | refine wpZ_l3 rfl rfl rfl rfl rfl rfl rfl ?_ ?_ ?_ | refine wpZ_l4 rfl rfl rfl rfl rfl rfl rfl rfl rfl ?_ ?_ ?_ ?_) <;> ((first | (refine v_someT 1 tab_ok hN H rfl ctX ?_; clear H; intro a w H; replace H := ntf H; simp only [List.drop_succ_cons, List.drop_zero, List.drop_nil])); refine wpT_nil ?_; try dsimp only))
      all_goals (refine wpZ_nil ?_; replace H := RelT.toRel H)
      all_goals
        simp only [z1, z2, z3] at H
        refine mW ?_; clear H; intro a w H
        exact ⟨⟨i + 1 + ua.num, ub, flipL q e, e + 1, zs⟩, ho2, by dsimp only [Tr.num]; omega, H.to 4 0 ⟨Nat.le_trans hN (Nat.le_of_ble_eq_true rfl), hR⟩ ⟨rfl, rfl, rfl, rfl, rfl, trivial⟩ rfl rfl rfl rfl rfl⟩
  · rw [decide_eq_false_iff_not] at hb
    obtain ⟨f1, f2⟩ := Tr.last_n (key := key) (d := e) hb
    rw [f2, List.append_nil] at o2
    rw [f1] at o3
    subst o2 o3
    refine mS ?_
    clear hX; have hX := And.intro @hPl (And.intro @hk (And.intro @hzl (And.intro @hsl (And.intro @g3 (And.intro @pk1 (@pk2))))))
    replace H := mK [0, 3, 4, 5, 6] 4 0 hN hR H
    refine mS ?_; refine mD 0 [20] [] H ?_; clear H; intro gS H
    refine mTN 3 hN H ?_; clear H; intro a w H; simp only [List.drop_succ_cons, List.drop_zero, List.drop_nil]
    refine mTN 6 hN H ?_; clear H; intro a w H; simp only [List.drop_succ_cons, List.drop_zero, List.drop_nil]
    refine mTN 6 hN H ?_; clear H; intro a w H; simp only [List.drop_succ_cons, List.drop_zero, List.drop_nil]
    refine mT ?_; clear H; intro a w H
    refine v_drawNil H ?_; clear H; intro H
    have tw : (bas W).take W.length = bas W := List.take_of_length_le (by omega)
    replace H := v_frzB H 3 2 [0] (Nat.le_trans hN (Nat.zero_le _)) rfl rfl rfl rfl (by omega)
    simp only [AV.put, List.set_cons_succ, List.set_cons_zero, List.getElem?_cons_succ, List.getElem?_cons_zero, tw] at H
    simp only [Pf.av, Nd.av, Tr.end_, z32]
    refine mW ?_; clear H; intro a w H
    refine wp_ret ?_; exact mEnd [] [] [.cell 4 68] [_] hN hR H
end Go.Proofs.Ytigmpdhnhkdeiaa
/- proof.Says, proof.Holds. -/
namespace Go.Proofs.Ytigmpdhnhkdeiaa
open Go Go.RowKit
end Go.Proofs.Ytigmpdhnhkdeiaa
/- What a span says of a key (plain). -/
namespace Go.Proofs.Ytigmpdhnhkdeiaa
open Go Go.RowKit
theorem ltB_any {p q : List UInt8} (hp : p.length = 32) (hq : q.length = 32) : p = q ∨ ltB p q ∨ ltB q p := by
  by_cases h : com p q < 256
  · have h1 := com_agree p q; have h2 := com_ne p q h
    cases hb : bitN p (com p q) with
    | false => exact .inr (.inl ⟨_, h, h1, hb, by rw [hb] at h2; simpa using h2.symm⟩)
    | true => exact .inr (.inr ⟨_, h, h1.symm, by rw [hb] at h2; simpa using h2.symm, hb⟩)
  · exact .inl (agree_eq hp hq fun t ht => com_agree p q t (by omega))
theorem tch_of {fr to k top : List UInt8} {d : Nat} (h1 : fr.length = 32) (h2 : to.length = 32) (h3 : k.length = 32) (hd : d ≤ 256) (hh : hasB fr to k = true) (hu : und d k top = true) : tchB fr to top d = true := by
  have ha := (und_iff hd).1 hu
  unfold hasB at hh
  unfold tchB
  rw [Bool.and_eq_true, decide_eq_true_eq, decide_eq_true_eq] at hh ⊢
  have l1 := fillL_len top d true
  have l2 := fillL_len top d false
  have f1 := fill_first ha
  have f2 := fill_last ha
  have c1 : ¬ ltB k fr := fun h => by have := (cmp_ltB h3 h1).2 h; omega
  have c2 : k = to ∨ ltB k to := by
    by_cases h : Lib.compareBytes k to = 0
    · exact .inl ((cmp_zero k to).1 h)
    · exact .inr ((cmp_ltB h3 h2).1 (by omega))
  constructor
  · have : ¬ ltB (fillL top d true) fr := fun h => by
      rcases ltB_any h3 l1 with e | e | e
      · rw [← e] at h; exact c1 h
      · exact c1 (e.trans h)
      · exact f2 e
    by_cases h : Lib.compareBytes (fillL top d true) fr < 0
    · exact absurd ((cmp_ltB l1 h1).1 h) this
    · omega
  · have : fillL top d false = to ∨ ltB (fillL top d false) to := by
      rcases ltB_any l2 h3 with e | e | e
      · rw [e]; exact c2
      · rcases c2 with c2 | c2
        · exact .inr (c2 ▸ e)
        · exact .inr (e.trans c2)
      · exact absurd e f1
    rcases this with h | h
    · have := (cmp_zero _ _).2 h; omega
    · have := (cmp_ltB l2 h2).2 h; omega
theorem und_zero (k top : List UInt8) : und 0 k top = true := by unfold und; simp
def spT (fr to : List UInt8) (s : Sp) : Option (Tr × List Br) := rdTr (tchB fr to) 257 (List.replicate 32 0) 0 s.p
/-- The reader, by its tree. -/
def spX (fr to key : List UInt8) (t : Tr) (r : List Br) : RS := ⟨r, (t.leaves.filter fun x => hasB fr to x.1).map (·.1), (t.leaves.filter fun x => hasB fr to x.1).map (·.2), (t.way key 0).reverse, t.fin key 0 Nd.zero⟩
theorem spRS_some {fr to : List UInt8} (key : List UInt8) {s : Sp} {t : Tr} {r : List Br} (h : spT fr to s = some (t, r)) : spRS fr to key s = (spX fr to key t r, t.dg, true) := by
  unfold spRS
  rw [plS_some fr to key 257 _ 0 ⟨s.p, [], [], [], Nd.zero⟩ t r (by omega) Low.zero h, und_zero]
  simp [spX]
theorem spRS_none {fr to : List UInt8} (key : List UInt8) {s : Sp} (h : spT fr to s = none) : (spRS fr to key s).2.2 = false := by
  unfold spRS
  exact plS_none fr to key 257 _ 0 ⟨s.p, [], [], [], Nd.zero⟩ (by omega) Low.zero h
theorem spE_key (fr to key key2 : List UInt8) (s : Sp) : spE fr to key s = spE fr to key2 s := by
  unfold spE
  cases h : spT fr to s with
  | none => rw [spRS_none key h, spRS_none key2 h]; simp
  | some p => rw [spRS_some key h, spRS_some key2 h]; rfl
theorem spE_zero {fr to key : List UInt8} {s : Sp} (h : spE fr to key s = 0) : ∃ t, spT fr to s = some (t, []) ∧ ((t.leaves.filter fun x => hasB fr to x.1).length = s.v.length ∧ ∀ i, i < s.v.length → (s.v.getD i []).length ≤ 1024 ∧ valH (s.v.getD i []) = ((t.leaves.filter fun x => hasB fr to x.1).map (·.2)).getD i []) := by
  unfold spE at h
  split at h
  · cases h
  · split at h
    · cases h
    · split at h
      · rename_i hh
        cases ht : spT fr to s with
        | none => rw [spRS_none key ht] at hh; exact absurd hh.1 (by decide)
        | some p =>
          obtain ⟨t, r⟩ := p
          rw [spRS_some key ht] at hh
          obtain ⟨_, hr, hv⟩ := hh
          have hr : r = [] := hr
          subst hr
          obtain ⟨q1, q2⟩ := (spV_iff _ _).1 hv
          exact ⟨t, rfl, by simpa [spX] using q1, q2⟩
      · cases h
end Go.Proofs.Ytigmpdhnhkdeiaa
/- What the document tells of a span (plain). -/
namespace Go.Proofs.Ytigmpdhnhkdeiaa
open Go Go.RowKit
theorem rd_num {op : List UInt8 → Nat → Bool} {f : Nat} {p : List UInt8} {d : Nat} {l : List Br} {t : Tr} {r : List Br} (hf : f + d = 257) (h : rdTr op f p d l = some (t, r)) : t.num ≤ l.length ∧ l.drop t.num = r := by
  obtain ⟨_, h2, h3⟩ := rdP_some hf h; exact ⟨h3, h2⟩
theorem rd_rest {op : List UInt8 → Nat → Bool} {f : Nat} {p : List UInt8} {d : Nat} {l : List Br} {t : Tr} {r : List Br} (hf : f + d = 257) (h : rdTr op f p d l = some (t, r)) : r = [] ↔ t.num = l.length := by
  obtain ⟨h1, h2⟩ := rd_num hf h
  rw [← h2, List.drop_eq_nil_iff]; omega
def plK (fr to : List UInt8) (l : List Pl) : List En := (l.filterMap Pl.leaf).filter fun x => hasB fr to x.1
theorem plK_append (fr to : List UInt8) (l m : List Pl) : plK fr to (l ++ m) = plK fr to l ++ plK fr to m := by unfold plK; rw [List.filterMap_append, List.filter_append]
theorem plK_one (fr to : List UInt8) (x : Pl) : plK fr to [x] = if x.b.k = 1 ∧ hasB fr to x.b.key = true then [(x.b.key, x.b.v)] else [] := by
  unfold plK
  by_cases h : x.b.k = 1
  · rw [List.filterMap_cons_some (b := (x.b.key, x.b.v)) (by unfold Pl.leaf; exact if_pos h)]
    by_cases h2 : hasB fr to x.b.key = true
    · rw [if_pos ⟨h, h2⟩]; simp [h2]
    · rw [if_neg (fun q => h2 q.2)]; simp [h2]
  · rw [List.filterMap_cons_none (by unfold Pl.leaf; exact if_neg h), if_neg (fun q => h q.1)]; rfl
theorem plK_take (fr to : List UInt8) (l : List Pl) (i : Nat) (h : i < l.length) : plK fr to (l.take (i + 1)) = plK fr to (l.take i) ++ if l[i].b.k = 1 ∧ hasB fr to l[i].b.key = true then [(l[i].b.key, l[i].b.v)] else [] := by
  rw [List.take_succ_eq_append_getElem h, plK_append, plK_one]
theorem plK_split (fr to : List UInt8) (l : List Pl) (i : Nat) (h : i < l.length) : plK fr to l = plK fr to (l.take i) ++ ((if l[i].b.k = 1 ∧ hasB fr to l[i].b.key = true then [(l[i].b.key, l[i].b.v)] else []) ++ plK fr to (l.drop (i + 1))) := by
  rw [← List.append_assoc, ← plK_take fr to l i h, ← plK_append, List.take_append_drop]
theorem plK_tree (fr to : List UInt8) (t : Tr) (p : List UInt8) (d : Nat) : plK fr to (t.pl p d) = t.leaves.filter fun x => hasB fr to x.1 := by unfold plK; rw [Tr.pl_leaves]
theorem within_has (fr to k : List UInt8) : (bif decide (Lib.compareBytes fr k ≤ 0) then decide (Lib.compareBytes k to ≤ 0) else false) = hasB fr to k := by
  unfold hasB
  rw [show decide (0 ≤ Lib.compareBytes k fr) = decide (Lib.compareBytes fr k ≤ 0) by rw [cmp_anti k fr]; exact decide_eq_decide.2 (by omega)]
  cases decide (Lib.compareBytes fr k ≤ 0) <;> rfl
/-- The values fit so far. -/
def fitQ (v : List (List UInt8)) (q : List En) : Prop := q.length ≤ v.length ∧ ∀ i, i < q.length → (v.getD i []).length ≤ 1024 ∧ valH (v.getD i []) = (q.map (·.2)).getD i []
theorem fitQ_nil (v : List (List UInt8)) : fitQ v [] := ⟨Nat.zero_le _, fun i h => absurd h (Nat.not_lt_zero _)⟩
theorem fitQ_snoc {v : List (List UInt8)} {q : List En} {k g : List UInt8} (h : fitQ v q) (h1 : q.length < v.length) (h2 : (v.getD q.length []).length ≤ 1024) (h3 : valH (v.getD q.length []) = g) : fitQ v (q ++ [(k, g)]) := by
  refine ⟨by rw [List.length_append]; exact h1, fun i hi => ?_⟩
  rw [List.length_append, List.length_singleton] at hi
  rw [List.map_append, List.getD_eq_getElem?_getD (l := List.map _ _ ++ _)]
  by_cases h4 : i < q.length
  · rw [List.getElem?_append_left (by rw [List.length_map]; exact h4), ← List.getD_eq_getElem?_getD]; exact h.2 i h4
  · have : i = q.length := by omega
    subst this
    rw [List.getElem?_append_right (by rw [List.length_map]; omega)]
    simpa using ⟨h2, h3⟩
theorem spV_q (s : Sp) (x : RS) (q : List En) (h1 : x.ks = q.map (·.1)) (h2 : x.ds = q.map (·.2)) : spV s x = true ↔ q.length = s.v.length ∧ fitQ s.v q := by
  rw [spV_iff, h1, h2, List.length_map]
  constructor
  · rintro ⟨h, k⟩; exact ⟨h, Nat.le_of_eq h, fun i hi => k i (by omega)⟩
  · rintro ⟨h, _, k⟩; exact ⟨h, fun i hi => k i (by omega)⟩
theorem fitQ_not {v : List (List UInt8)} {q r : List En} {k g : List UInt8} (h : fitQ v (q ++ ((k, g) :: r))) : q.length < v.length ∧ (v.getD q.length []).length ≤ 1024 ∧ valH (v.getD q.length []) = g := by
  obtain ⟨h1, h2⟩ := h
  rw [List.length_append, List.length_cons] at h1
  have := h2 q.length (by rw [List.length_append, List.length_cons]; omega)
  rw [List.map_append, List.getD_eq_getElem?_getD (l := List.map _ _ ++ _), List.getElem?_append_right (by rw [List.length_map]; omega)] at this
  refine ⟨by omega, ?_⟩
  simpa using this
/-- The places of a span that may be. -/
def spPl (fr to : List UInt8) (s : Sp) : List Pl := if spE fr to fr s = 0 then (match spT fr to s with | some (t, _) => t.pl (List.replicate 32 0) 0 | none => []) else []
def spKs (fr to : List UInt8) (s : Sp) : List (List UInt8) := if spE fr to fr s = 0 then (spRS fr to fr s).1.ks else []
end Go.Proofs.Ytigmpdhnhkdeiaa
