/- Nodes: what is read. -/
import Derived.Test.YthphhnkoilcofaaTagOf
import Derived.Test.YthphhnkoilcofaaDigest
import Derived.Shelf.SlicesE.Reverse
set_option linter.unusedSimpArgs false
set_option linter.unusedVariables false
namespace Go.Proofs.Ythphhnkoilcofaa
open Go Go.RowKit
def Nd.one (a b : List UInt8) : Nd := ⟨1, a, b, z32, z32⟩
def Nd.two (a b : List UInt8) : Nd := ⟨2, z32, z32, a, b⟩
theorem decode_zero : VC Try.prog 225 [.bs [0] none] [] (.tup [Nd.zero.av, errv 0]) := by
  refine mE Try.func225 ?_; intro N w0 a w hN hR H
  refine mW ?_; clear H; intro a w H
  refine mC H (fun hb => ?_) (fun hb => ?_)
  · refine mW ?_; clear H; intro a w H
    refine wp_ret ?_; exact mEnd [] [] [.cell 2 39, .tmp 3] [_, _] hN hR H
  · simp at hb
theorem decode_one (m : List UInt8) (hm : m.length = 64) : VC Try.prog 225 [.bs (1 :: m) none] [] (.tup [(Nd.one (m.take 32) (m.drop 32)).av, errv 0]) := by
  have e1 : (m.drop 32).take 32 = m.drop 32 := List.take_of_length_le (by simp; omega)
  refine mE Try.func225 ?_; intro N w0 a w hN hR H
  refine mW ?_; clear H; intro a w H
  refine mC H (fun hb => ?_) (fun hb => ?_)
  · simp [hm] at hb
  · refine mW ?_; clear H; intro a w H
    refine mC H (fun hb => ?_) (fun hb => ?_)
    · have hX := And.intro @List.take_take.{0} (And.intro @Nat.min_self (@e1))
      replace H := mK [0, 2, 3] 1 0 hN hR H
      refine mS ?_; refine mD 0 [9] [] H ?_; clear H; intro gS H; refine mT ?_; clear H; intro a w H
      refine v_drawNil H ?_; clear H; intro H
      refine mW ?_; clear H; intro a w H
      refine wp_ret ?_; exact mEnd [] [] [.cell 2 39, .tmp 3] [_, _] hN hR H
    · simp [hm] at hb
theorem decode_two (m : List UInt8) (hm : m.length = 64) : VC Try.prog 225 [.bs (2 :: m) none] [] (.tup [(Nd.two (m.take 32) (m.drop 32)).av, errv 0]) := by
  have e1 : (m.drop 32).take 32 = m.drop 32 := List.take_of_length_le (by simp; omega)
  refine mE Try.func225 ?_; intro N w0 a w hN hR H
  refine mW ?_; clear H; intro a w H
  refine mC H (fun hb => ?_) (fun hb => ?_)
  · simp [hm] at hb
  · refine mW ?_; clear H; intro a w H
    refine mC H (fun hb => ?_) (fun hb => ?_)
    · simp at hb
    · refine mW ?_; clear H; intro a w H
      refine mC H (fun hb => ?_) (fun hb => ?_)
      · have hX := And.intro @List.take_take.{0} (And.intro @Nat.min_self (@e1))
        replace H := mK [0, 2, 3] 1 0 hN hR H
        refine mS ?_; refine mD 0 [9] [] H ?_; clear H; intro gS H; refine mT ?_; clear H; intro a w H
        refine v_drawNil H ?_; clear H; intro H
        refine mW ?_; clear H; intro a w H
        refine wp_ret ?_; exact mEnd [] [] [.cell 2 39, .tmp 3] [_, _] hN hR H
      · simp [hm] at hb
theorem decode_bad (l : List UInt8) (h0 : l ≠ [0]) (h1 : ¬ (l.length = 65 ∧ (l.getD 0 0 = 1 ∨ l.getD 0 0 = 2))) : VC Try.prog 225 [.bs l none] [] (.tup [Nd.zero.av, errv 10]) := by
  have hx : ∀ k : Nat, k < 256 → ((((l.getD 0 0).toNat : Nat) : Int) = (k : Int) → l.getD 0 0 = UInt8.ofNat k) := fun k hk h => UInt8.toNat_inj.1 (by rw [UInt8.toNat_ofNat']; omega)
  refine mE Try.func225 ?_; intro N w0 a w hN hR H
  refine mW ?_; clear H; intro a w H
  refine mC H (fun hb => ?_) (fun hb => ?_)
  · exfalso; apply h0
    rcases l with _ | ⟨c, _ | ⟨d, l⟩⟩
    · simp at hb
    · have := hx 0 (by decide); simp at hb this; simp [this hb]
    · simp at hb; omega
  · refine mW ?_; clear H; intro a w H
    refine mC H (fun hb => ?_) (fun hb => ?_)
    · exfalso; apply h1
      have h2 := hx 1 (by decide)
      simp at hb h2
      exact ⟨by omega, .inl (by simpa using h2 hb.2)⟩
    · refine mW ?_; clear H; intro a w H
      refine mC H (fun hb => ?_) (fun hb => ?_)
      · exfalso; apply h1
        have h2 := hx 2 (by decide)
        simp at hb h2
        exact ⟨by omega, .inr (by simpa using h2 hb.2)⟩
      · refine mW ?_; clear H; intro a w H
        refine wp_ret ?_; exact mEnd [] [] [.cell 2 39, .tmp 3] [_, _] hN hR H
def decOk (l : List UInt8) : Prop := l = [0] ∨ (l.length = 65 ∧ (l.getD 0 0 = 1 ∨ l.getD 0 0 = 2))
instance (l : List UInt8) : Decidable (decOk l) := inferInstanceAs (Decidable (_ ∨ _))
def dec (l : List UInt8) : Nd := if l.length = 65 ∧ l.getD 0 0 = 1 then .one ((l.drop 1).take 32) (l.drop 33) else if l.length = 65 ∧ l.getD 0 0 = 2 then .two ((l.drop 1).take 32) (l.drop 33) else .zero
theorem z32_len : z32.length = 32 := by simp [z32]
theorem dec_one (m : List UInt8) (hm : m.length = 64) : dec (1 :: m) = .one (m.take 32) (m.drop 32) := by simp [dec, hm]
theorem dec_two (m : List UInt8) (hm : m.length = 64) : dec (2 :: m) = .two (m.take 32) (m.drop 32) := by simp [dec, hm]
theorem dec_zero : dec [0] = .zero := by simp [dec]
theorem decOk_cases {l : List UInt8} (h : decOk l) : l = [0] ∨ (∃ m, m.length = 64 ∧ l = 1 :: m) ∨ ∃ m, m.length = 64 ∧ l = 2 :: m := by
  rcases h with h | ⟨h1, h2⟩
  · exact .inl h
  · right
    cases l with
    | nil => simp at h1
    | cons c m =>
      simp at h1 h2
      rcases h2 with rfl | rfl
      · exact .inl ⟨m, h1, rfl⟩
      · exact .inr ⟨m, h1, rfl⟩
theorem dec_bad {l : List UInt8} (h : ¬ decOk l) : dec l = .zero := by
  unfold decOk at h; unfold dec
  rw [if_neg (fun e => h (.inr ⟨e.1, .inl e.2⟩)), if_neg (fun e => h (.inr ⟨e.1, .inr e.2⟩))]
theorem decode_v (l : List UInt8) : VC Try.prog 225 [.bs l none] [] (.tup [(dec l).av, errv (if decOk l then 0 else 10)]) := by
  by_cases h : decOk l
  · rw [if_pos h]
    rcases decOk_cases h with rfl | ⟨m, hm, rfl⟩ | ⟨m, hm, rfl⟩
    · rw [dec_zero]; exact decode_zero
    · rw [dec_one m hm]; exact decode_one m hm
    · rw [dec_two m hm]; exact decode_two m hm
  · rw [if_neg h, dec_bad h]
    exact decode_bad l (fun e => h (.inl e)) (fun e => h (.inr e))
theorem zero_wf : Nd.zero.wf := ⟨z32_len, z32_len, z32_len, z32_len⟩
theorem zero_ok : Nd.zero.ok := by simp [Nd.ok, Nd.bare, Nd.zero]
theorem zero_text : Nd.zero.text = [0] := by simp [Nd.text, Nd.zero]
theorem dec_wf (l : List UInt8) : (dec l).wf := by
  by_cases h : decOk l
  · rcases decOk_cases h with rfl | ⟨m, hm, rfl⟩ | ⟨m, hm, rfl⟩
    · rw [dec_zero]; exact zero_wf
    · rw [dec_one m hm]; exact ⟨by simp [Nd.one]; omega, by simp [Nd.one]; omega, z32_len, z32_len⟩
    · rw [dec_two m hm]; exact ⟨z32_len, z32_len, by simp [Nd.two]; omega, by simp [Nd.two]; omega⟩
  · rw [dec_bad h]; exact zero_wf
theorem Nd.ok_cases {n : Nd} (h : n.ok) : n = .zero ∨ (∃ a b, n = .one a b) ∨ ∃ a b, n = .two a b := by
  unfold Nd.ok Nd.bare at h
  split at h
  · exact .inr (.inl ⟨_, _, h⟩)
  · split at h
    · exact .inr (.inr ⟨_, _, h⟩)
    · exact .inl h
theorem text_dec {n : Nd} (hw : n.wf) (h : n.ok) : decOk n.text ∧ dec n.text = n := by
  rcases n.ok_cases h with rfl | ⟨p, q, rfl⟩ | ⟨p, q, rfl⟩
  · rw [zero_text]; exact ⟨.inl rfl, dec_zero⟩
  · have h1 : p.length = 32 := hw.key
    have h2 : q.length = 32 := hw.v
    rw [show (Nd.one p q).text = 1 :: (p ++ q) by simp [Nd.text, Nd.one]]
    refine ⟨.inr ⟨by simp; omega, .inl rfl⟩, ?_⟩
    rw [dec_one _ (by simp; omega), ← h1, List.take_left, List.drop_left]
  · have h1 : p.length = 32 := hw.l
    have h2 : q.length = 32 := hw.r
    rw [show (Nd.two p q).text = 2 :: (p ++ q) by simp [Nd.text, Nd.two]]
    refine ⟨.inr ⟨by simp; omega, .inr rfl⟩, ?_⟩
    rw [dec_two _ (by simp; omega), ← h1, List.take_left, List.drop_left]
theorem text_len {n : Nd} (hw : n.wf) : n.text.length ≤ 65 := by
  obtain ⟨h1, h2, h3, h4⟩ := hw
  unfold Nd.text
  split
  · simp; omega
  · split
    · simp; omega
    · simp
end Go.Proofs.Ythphhnkoilcofaa
/- What the statements share: bytes that are lent, and kept. -/
namespace Go.Proofs.Ythphhnkoilcofaa
open Go Go.RowKit
/-- The marks in the spare room. -/
def marks (n : Nat) : Nat → List UInt8
  | 0 => []
  | k + 1 => marks n k ++ [UInt8.ofNat (200 + (n + k) % 50)]
end Go.Proofs.Ythphhnkoilcofaa
/- The document's digests and nodes. -/
namespace Go.Proofs.Ythphhnkoilcofaa
open Go Go.RowKit
end Go.Proofs.Ythphhnkoilcofaa
/- The document's look at a node. -/
namespace Go.Proofs.Ythphhnkoilcofaa
open Go Go.RowKit
end Go.Proofs.Ythphhnkoilcofaa
/- The document's nodes, written and read. -/
namespace Go.Proofs.Ythphhnkoilcofaa
open Go Go.RowKit
end Go.Proofs.Ythphhnkoilcofaa
/- Digests of the empty place, of leaves, of inner nodes. -/
namespace Go.Proofs.Ythphhnkoilcofaa
open Go Go.RowKit
def leafH (k v : List UInt8) : List UInt8 := sum (1 :: (k ++ v))
def innerH (l r : List UInt8) : List UInt8 := sum (2 :: (l ++ r))
theorem leafH_len (k v : List UInt8) : (leafH k v).length = 32 := sum_length _
theorem innerH_len (k v : List UInt8) : (innerH k v).length = 32 := sum_length _
set_option maxRecDepth 20000 in
theorem leaf_v (k v : List UInt8) (hk : k.length = 32) (hv : v.length = 32) : VC Try.prog 136 [.ba k, .ba v] [] (.ba (leafH k v)) := by
  have h := of_v 1 [k, v] (by simp; omega) (by simp)
  have e : [k, v].flatten = k ++ v := by simp
  rw [e] at h
  have hsl := sum_length (1 :: (k ++ v))
  unfold leafH
  refine mE Try.func136 ?_; intro N w0 a w hN hR H
  refine mW ?_; clear H; intro a w H
  have hX := And.intro (List.take_of_length_le (Nat.le_of_eq hk)) (List.take_of_length_le (Nat.le_of_eq hv))
  refine mS ?_; refine mD 0 [2, 3, 4] [] H ?_; clear H; intro gS H; refine mT ?_; clear H; intro a w H
  refine mCallT [] [] (h) H ?_; clear H; intro a w H
  refine mT ?_; clear H; intro a w H
  refine v_drawNil H ?_; clear H; intro H
  clear hX; have hX := And.intro @hk (@hv)
  refine wp_ret ?_; exact mEnd [] [] [.cell 4 27] [_] hN hR H
set_option maxRecDepth 20000 in
theorem inner_v (k v : List UInt8) (hk : k.length = 32) (hv : v.length = 32) : VC Try.prog 67 [.ba k, .ba v] [] (.ba (innerH k v)) := by
  have h := of_v 2 [k, v] (by simp; omega) (by simp)
  have e : [k, v].flatten = k ++ v := by simp
  rw [e] at h
  have hsl := sum_length (2 :: (k ++ v))
  unfold innerH
  refine mE Try.func67 ?_; intro N w0 a w hN hR H
  refine mW ?_; clear H; intro a w H
  have hX := And.intro (List.take_of_length_le (Nat.le_of_eq hk)) (List.take_of_length_le (Nat.le_of_eq hv))
  refine mS ?_; refine mD 0 [2, 3, 4] [] H ?_; clear H; intro gS H; refine mT ?_; clear H; intro a w H
  refine mCallT [] [] (h) H ?_; clear H; intro a w H
  refine mT ?_; clear H; intro a w H
  refine v_drawNil H ?_; clear H; intro H
  clear hX; have hX := And.intro @hk (@hv)
  refine wp_ret ?_; exact mEnd [] [] [.cell 4 27] [_] hN hR H
end Go.Proofs.Ythphhnkoilcofaa
/- Roots of entries at a depth; entries that rise part where their bit does. In plain Lean. -/
namespace Go.Proofs.Ythphhnkoilcofaa
open Go Go.RowKit
abbrev En := List UInt8 × List UInt8
def base (l : List En) : List UInt8 := match l with
  | [] => sum [0]
  | x :: _ => leafH x.1 x.2
def half (b : Bool) (d : Nat) (l : List En) : List En := l.filter fun x => bitN x.1 d == b
def rootA : Nat → Nat → List En → List UInt8
  | 0, _, l => base l
  | f + 1, d, l => if l.length < 2 then base l else innerH (rootA f (d + 1) (half false d l)) (rootA f (d + 1) (half true d l))
theorem rootA_len : ∀ f d l, (rootA f d l).length = 32
  | 0, _, [] => sum_length _
  | 0, _, _ :: _ => leafH_len _ _
  | f + 1, d, l => by
    unfold rootA
    split
    · exact rootA_len 0 d l
    · exact innerH_len _ _
theorem rootA_small (f d : Nat) (l : List En) (h : l.length < 2) : rootA f d l = base l := by
  cases f with
  | zero => rfl
  | succ f => rw [rootA, if_pos h]
/-- Unlike keys that share their first d bits. -/
def Sep (d : Nat) (l : List En) : Prop := l.Pairwise fun x y => agree d x.1 y.1 ∧ ¬ agree 256 x.1 y.1
theorem Sep.side {d : Nat} {l : List En} (h : Sep d l) (b : Bool) : Sep (d + 1) (half b d l) := by
  unfold Sep half
  have h2 : (l.filter fun x => bitN x.1 d == b).Pairwise fun x y => agree d x.1 y.1 ∧ ¬ agree 256 x.1 y.1 := h.filter _
  refine List.Pairwise.imp_of_mem (fun {x y} hx hy hp => ⟨fun t ht => ?_, hp.2⟩) h2
  by_cases h1 : t < d
  · exact hp.1 t h1
  · rw [show t = d by omega]
    have e1 : bitN x.1 d = b := by simpa using (List.mem_filter.1 hx).2
    have e2 : bitN y.1 d = b := by simpa using (List.mem_filter.1 hy).2
    rw [e1, e2]
theorem Sep.deep {d : Nat} {l : List En} (h : Sep d l) (hd : 256 ≤ d) : l.length < 2 := by
  match l, h with
  | [], _ => simp
  | [_], _ => simp
  | x :: y :: l, h =>
    exfalso
    have := (List.pairwise_cons.1 h).1 y List.mem_cons_self
    exact this.2 fun t ht => this.1 t (by omega)
/-- Keys that rise and share their first d bits. -/
def Rise (d : Nat) (l : List En) : Prop := l.Pairwise fun x y => agree d x.1 y.1 ∧ ltB x.1 y.1
theorem Rise.sep {d : Nat} {l : List En} (h : Rise d l) : Sep d l := List.Pairwise.imp (fun {x y} hp => ⟨hp.1, fun ha => by
  obtain ⟨c, hc, _, h2, h3⟩ := hp.2
  rw [ha c hc, h3] at h2; cases h2⟩) h
theorem Rise.side {d : Nat} {l : List En} (h : Rise d l) (b : Bool) : Rise (d + 1) (half b d l) := by
  have h1 := h.sep.side b
  have h2 : (half b d l).Pairwise fun x y => agree d x.1 y.1 ∧ ltB x.1 y.1 := h.filter _
  exact List.Pairwise.imp₂ (fun x y p q => ⟨q.1, p.2⟩) h2 h1
/-- How many entries have the bit 0. -/
def partN (d : Nat) (l : List En) : Nat := (l.takeWhile fun x => !bitN x.1 d).length
theorem Rise.part {d : Nat} (hd : d < 256) : ∀ {l : List En}, Rise d l → half false d l = l.take (partN d l) ∧ half true d l = l.drop (partN d l)
  | [], _ => ⟨rfl, rfl⟩
  | x :: l, h => by
    obtain ⟨h1, h2⟩ := List.pairwise_cons.1 h
    obtain ⟨e1, e2⟩ := Rise.part hd h2
    cases hb : bitN x.1 d
    · have e : partN d (x :: l) = partN d l + 1 := by simp [partN, List.takeWhile_cons, hb]
      rw [e]
      refine ⟨?_, ?_⟩
      · rw [List.take_succ_cons, ← e1]; simp [half, List.filter_cons, hb]
      · rw [List.drop_succ_cons, ← e2]; simp [half, List.filter_cons, hb]
    · have e : partN d (x :: l) = 0 := by simp [partN, List.takeWhile_cons, hb]
      have hall : ∀ y ∈ l, bitN y.1 d = true := fun y hy => by
        obtain ⟨ha, c, hc, g1, g2, g3⟩ := h1 y hy
        rcases Nat.lt_trichotomy c d with hl | rfl | hg
        · have := ha c hl; rw [g2, g3] at this; cases this
        · rw [hb] at g2; cases g2
        · rw [← g1 d hg]; exact hb
      rw [e]
      refine ⟨?_, ?_⟩
      · rw [List.take_zero]
        simp only [half, List.filter_cons, hb]
        simp only [Bool.true_beq, Bool.false_eq_true, if_false]
        refine List.filter_eq_nil_iff.2 fun y hy => ?_
        simp [hall y hy]
      · rw [List.drop_zero]
        refine List.filter_eq_self.2 fun y hy => ?_
        rcases List.mem_cons.1 hy with rfl | hy
        · simp [hb]
        · simp [hall y hy]
theorem partN_le (d : Nat) (l : List En) : partN d l ≤ l.length := by
  unfold partN
  exact (List.takeWhile_sublist _).length_le
theorem Rise.chain {d : Nat} : ∀ {l : List En}, (∀ k (h : k + 1 < l.length), agree d (l[k]'(by omega)).1 l[k + 1].1 ∧ ltB (l[k]'(by omega)).1 l[k + 1].1) → Rise d l
  | [], _ => List.Pairwise.nil
  | [_], _ => by unfold Rise; simp
  | x :: y :: l, h => by
    have ih := Rise.chain (l := y :: l) fun k hk => h (k + 1) (by simpa using hk)
    have h0 := h 0 (by simp)
    refine List.pairwise_cons.2 ⟨fun z hz => ?_, ih⟩
    rcases List.mem_cons.1 hz with rfl | hz
    · exact h0
    · have := (List.pairwise_cons.1 ih).1 z hz
      exact ⟨h0.1.trans this.1, h0.2.trans this.2⟩
theorem half_mem {b : Bool} {d : Nat} {l : List En} {x : En} (h : x ∈ half b d l) : x ∈ l := (List.mem_filter.1 h).1
end Go.Proofs.Ythphhnkoilcofaa
/- A region that draws its order, in which one loud operation (new memory) may come up before or behind another one (a call): both are walked. -/
namespace Go.Proofs.Ythphhnkoilcofaa
open Go
section
variable {P : Program} {ops : Array Oper} {Q : Exit → Act → World → Prop} {S : World → Prop} {L A : List Nat} {c f : Nat}
theorem unlisted {listed : Array Bool} {k : Nat} (h : k ∈ Region.ready .any ops listed) : listed.getD k false ≠ true := by
  obtain ⟨h1, _⟩ := mem_ready.1 h
  intro h2
  rcases Nat.lt_or_ge k listed.size with h' | h'
  · simp [h'] at h1 h2; rw [h1] at h2; cases h2
  · simp [Array.getElem?_eq_none h'] at h1
/-- Which operations are listed: those below k; f besides. -/
def Upto (n : Nat) (k : Nat) (x : Bool) (f : Nat) (listed : Array Bool) : Prop := listed.size = n ∧ ∀ i, i < n → ∀ d, listed.getD i d = (decide (i < k) || (x && i == f))
theorem Upto.set {n k f : Nat} {x : Bool} {listed : Array Bool} (h : Upto n k x f listed) (hk : k < n) : Upto n (k + 1) x f (listed.setIfInBounds k true) := by
  refine ⟨by simpa using h.1, fun i hi d => ?_⟩
  by_cases hik : k = i
  · subst hik; simp [h.1, hk]
  · rw [getD_set_ne d hik, h.2 i hi d]
    congr 1
    simp; omega
theorem Upto.down {n k f : Nat} {x : Bool} {listed : Array Bool} (hn : n = ops.size) (h : Upto n k x f listed) (he : ∀ (j : Nat) (o : Oper), ops[j]? = some o → ∀ e ∈ o.after, Region.binds .any e = true → e.on < j)
    (hfe : x = true → ∀ o, ops[f]? = some o → ∀ e ∈ o.after, Region.binds .any e = true → e.on < k) : Down ops listed := by
  intro j o hj hl e hm hb
  have hjlt := (Array.getElem?_eq_some_iff.1 hj).1
  rw [h.2 j (by omega) false] at hl
  have h1 := he j o hj e hm hb
  rw [h.2 e.on (by omega) false]
  simp only [Bool.or_eq_true, decide_eq_true_eq, Bool.and_eq_true, beq_iff_eq] at hl ⊢
  rcases hl with hl | ⟨hx, rfl⟩
  · exact .inl (by omega)
  · exact .inl (hfe hx o hj e hm hb)
theorem tAny_nil {listed : Array Bool} {a : Act} {w : World} (h : ∀ i, i < ops.size → ∀ d, listed.getD i d = true) (hQ : Q .normal a w) : tAny P ops Q S L A 0 listed a w := by
  refine ⟨?_, hQ⟩
  rw [List.eq_nil_iff_forall_not_mem]
  intro j hj
  obtain ⟨hju, o, ho, _⟩ := mem_ready.1 hj
  rw [h j (Array.getElem?_eq_some_iff.1 ho).1 true] at hju
  cases hju
end
section
variable {P : Program} {τ : Tab} {w0 w : World} {N : Gh} {g gS : Gh} {st st' sq sq' : St} {nt : Nat} {a : Act}
/-- Only boxes that are there may be frozen. -/
theorem v_fz (H : Rel P w0 N nt st a w) : Rel P w0 N nt ⟨st.t, st.bx, st.fz.filter fun i => decide (i < st.bx.length), st.rw⟩ a w := by
  obtain ⟨g, HI, hF⟩ := H
  refine ⟨g, ⟨HI.mem, HI.fr, HI.br, fun i x hx hf => ?_, HI.wr, HI.wz⟩, ⟨hF.sz, hF.df, hF.t, hF.u⟩⟩
  have h1 := HI.fz i x hx hf
  have h2 := (List.getElem?_eq_some_iff.1 hx).1
  rw [HI.br.len] at h2
  simp only [List.mem_filter, decide_eq_true_eq]
  exact ⟨h1, h2⟩
/-- A slot seen as something that says less. -/
theorem v_sub (H : Rel P w0 N nt st a w) (d : Nat) {x y : AV} (hs : sub 4 x y) (hx : isAny x = false) (ht : ∀ az, x ≠ .tup az) (hd : find d st.t = some (none, x)) : Rel P w0 N nt ⟨nilT d y st.t, st.bx, st.fz, st.rw⟩ a w := by
  obtain ⟨g, HI, hF⟩ := H
  refine ⟨g, HI, hF.sz, hF.df, fun p hp hg => ?_, fun p hp hg => by rcases nilT_mem hp with h | h; (subst h; exact absurd trivial hg); exact hF.u p h hg⟩
  rcases nilT_mem hp with h | h
  · subst h
    have h1 : RV g x (a.tmps.getD d undef) := hF.t _ (find_mem hd) trivial
    exact ((h1.rv1 hx ht).sub_ hs).rv
  · exact hF.t p h hg
theorem RelT.toRel (H : RelT P w0 N nt gS sq st a w) : Rel P w0 N nt st a w := by
  obtain ⟨_, _, _, _, g, HI, hF, _⟩ := H
  exact ⟨g, HI, hF⟩
end
end Go.Proofs.Ythphhnkoilcofaa
/- Values seen as others: a nil slice inside a box as a row that is none yet; an empty window as no bytes. -/
namespace Go.Proofs.Ythphhnkoilcofaa
open Go Go.RowKit
section
variable {P : Program} {τ : Tab} {w0 w w' : World} {N : Gh} {g g1 g2 : Gh} {st st' : St} {nt : Nat} {a : Act}
theorem RC.sc_slice {T : Ty} {A : Option Addr} {n c : Nat} {cs : List Value} (h : RC g T (.v (.slice A n c)) cs) : T = .sc ∧ cs = [.slice A n c] := by
  cases h with
  | v h => exact ⟨rfl, rfl⟩
theorem RC.nilK {y : AV} (hy : RC g .sc y [.slice none 0 0]) : ∀ (k : Nat) {T : Ty} {fs : List AV} {cs : List Value}, RC g T (.st fs) cs → fs[k]? = some (.v (.slice none 0 0)) → RC g T (.st (fs.set k y)) cs
  | _, _, [], _, h, hk => by simp at hk
  | 0, _, x :: fs, _, h, hk => by
    simp only [List.getElem?_cons_zero, Option.some.injEq] at hk
    subst hk
    cases h with
    | cn h hs =>
      obtain ⟨rfl, rfl⟩ := h.sc_slice
      exact .cn hy hs
  | k + 1, _, x :: fs, _, h, hk => by
    cases h with
    | cn h hs => exact .cn h (RC.nilK hy k hs (by simpa using hk))
/-- The same, of other elements. -/
theorem v_nilX (hτ : τ.ok P) (H : Rel P w0 N nt st a w) (i k e : Nat) {j : TI} (T' : Ty) {T : Ty} {fs : List AV} (hj : Tab.get e τ = some j) (hs : 0 < j.ty.size) (hb : st.bx[i]? = some (T, .st fs)) (hd : fs[k]? = some (.v (.slice none 0 0))) :
    Rel P w0 N nt ⟨st.t, st.bx.set i (T, .st (fs.set k (.sl T' [] (some st.rw.length)))), st.fz, st.rw ++ [(e, 0)]⟩ a w := by
  obtain ⟨g, HI, hF⟩ := H
  have hok := Tab.get_ok hτ hj
  obtain ⟨g1, l1, I1, h1⟩ := HI.rowNil (nilRow hok hs w) rfl rfl ⟨hok.cells.symm, rfl⟩
  obtain ⟨x, hx, rfl, hr⟩ := I1.br.at_ i T _ hb
  obtain ⟨hxo, hxm, hr⟩ := hr.rc_of (fun _ _ e => by cases e) (fun _ _ e => by cases e) (fun _ _ e => by cases e)
  have hy := (RC.sl (g := g1) (T := T') (es := []) (tok := some st.rw.length) (A := none) (c := 0) (by simp) (by simp [maxLen]) (fun _ => []) (.inl rfl) (fun k hk => absurd hk (by simp)) fun i hi => by injection hi with hi; subst hi; exact ⟨_, h1, by simp, fun _ => ⟨rfl, rfl⟩⟩)
  exact ⟨g1, I1.re hx (.pl (RC.nilK hy k hr hd) hxo hxm), ⟨(hF.mono l1.1).sz, hF.df, (hF.mono l1.1).t, hF.u⟩⟩
/-- An empty window: no bytes. -/
theorem v_win0 (H : Rel P w0 N nt st a w) (d i : Nat) {o : Nat} {p : List Nat} (hd : find d st.t = some (none, .win i p o 0)) : Rel P w0 N nt ⟨nilT d (.bs [] none) st.t, st.bx, st.fz, st.rw⟩ a w := by
  obtain ⟨g, HI, hF⟩ := H
  refine ⟨g, HI, hF.sz, hF.df, fun q hp hg => ?_, fun q hp hg => by rcases nilT_mem hp with h | h; (subst h; exact absurd trivial hg); exact hF.u q h hg⟩
  rcases nilT_mem hp with h | h
  · subst h
    have h1 : RC g .sc (.win i p o 0) [a.tmps.getD d undef] := (hF.t _ (find_mem hd) trivial).win_inv
    show RV g (.bs [] none) (a.tmps.getD d undef)
    generalize a.tmps.getD d undef = u at h1
    cases h1 with
    | win h ho hn hc hm hA => exact (RC.bs (g := g) (l := []) (by simp) hm (.inl rfl) fun i hi => by cases hi).rvp
  · exact hF.t q h hg
end
end Go.Proofs.Ythphhnkoilcofaa
/- Proofs as bytes: what may be, how it is told. -/
namespace Go.Proofs.Ythphhnkoilcofaa
open Go Go.RowKit
structure Pf where
  s : List (List UInt8)
  e : Nd
  deriving DecidableEq
def bas (ls : List (List UInt8)) : List AV := ls.map .ba
theorem bas_len (ls : List (List UInt8)) : (bas ls).length = ls.length := by simp [bas]
theorem bas_get (ls : List (List UInt8)) (k : Nat) (hk : k < ls.length) : (bas ls).getD k .any = .ba ls[k] := by simp [bas, List.getD, hk]
structure Pf.wf (p : Pf) : Prop where
  s : ∀ h ∈ p.s, h.length = 32
  e : p.e.wf
def Pf.av (p : Pf) : AV := .st [.sl (.ba 32) (bas p.s) none, p.e.av]
def Pf.chk (p : Pf) : Int := if 256 < p.s.length then 4 else if p.e.ok ∧ p.e.k ≠ 2 then 0 else 2
set_option maxHeartbeats 1000000 in
theorem pcheck_v (p : Pf) (hw : p.wf) : VC Try.prog 114 [p.av] [] (errv p.chk) := by
  obtain ⟨s, n⟩ := p
  have hsl := bas_len s
  have hc := check_v n hw.e
  obtain ⟨h1, h2, h3, h4⟩ := id hw.e
  have hk2 : ((n.k.toNat : Int) = 2) ↔ n.k = 2 := ⟨fun h => UInt8.toNat_inj.1 (by simp; omega), fun h => by rw [h]; rfl⟩
  dsimp only at hc h1 h2 h3 h4 hk2
  refine mE Try.func114 ?_; intro N w0 a w hN hR H
  simp only [Pf.av, Nd.av] at H hc
  refine mW ?_; clear H; intro a w H
  refine mC H (fun hb => ?_) (fun hb => ?_)
  · have hb : 256 < s.length := by simp at hb; omega
    simp only [Pf.chk, if_pos hb]
    refine mW ?_; clear H; intro a w H
    refine wp_ret ?_; exact mEnd [] [] [.tmp 2] [_] hN hR H
  · have hb : ¬ 256 < s.length := by simp at hb; omega
    simp only [Pf.chk, if_neg hb]
    by_cases ho : n.ok
    · rw [if_pos ho] at hc
      refine mW ?_; clear H; intro a w H
      refine mCall [] [] (hc) H ?_; clear H; intro a w H; try refine wpList_nil ?_
      refine mW ?_; clear H; intro a w H
      refine mC H (fun hb => ?_) (fun hb => ?_)
      · have hb : n.k = 2 := hk2.1 (by simpa using hb)
        rw [if_neg (fun h => h.2 hb)]
        refine mW ?_; clear H; intro a w H
        refine wp_ret ?_; exact mEnd [] [] [.tmp 2] [_] hN hR H
      · have hb : ¬ n.k = 2 := fun e => by rw [hk2.2 e] at hb; simp at hb
        rw [if_pos ⟨ho, hb⟩]
        refine mW ?_; clear H; intro a w H
        refine wp_ret ?_; exact mEnd [] [] [.tmp 2] [_] hN hR H
    · rw [if_neg ho] at hc
      refine mW ?_; clear H; intro a w H
      refine mCall [] [] (hc) H ?_; clear H; intro a w H; try refine wpList_nil ?_
      refine mW ?_; clear H; intro a w H
      refine mC H (fun hb => ?_) (fun hb => ?_)
      · rw [if_neg (fun h => ho h.1)]
        refine mW ?_; clear H; intro a w H
        refine wp_ret ?_; exact mEnd [] [] [.tmp 2] [_] hN hR H
      · simp at hb
/-- The digest of nothing. -/
def E0 : List UInt8 := sum [0]
def hidesB (s : List (List UInt8)) (t : Nat) : Bool := match s[t]? with | some h => h != E0 | none => false
def Pf.bits (p : Pf) : List UInt8 := bitsB p.s.length (hidesB p.s)
def hashes (s : List (List UInt8)) : List UInt8 := (s.filter (· != E0)).flatten
def Pf.text (p : Pf) : List UInt8 := [UInt8.ofNat (p.s.length / 256), UInt8.ofNat p.s.length] ++ (p.bits ++ (hashes p.s ++ p.e.text))
theorem hashes_len : ∀ (s : List (List UInt8)), (∀ h ∈ s, h.length = 32) → (hashes s).length ≤ 32 * s.length
  | [], _ => by simp [hashes]
  | h :: s, hs => by
    have ih := hashes_len s fun x hx => hs x (List.mem_cons_of_mem _ hx)
    have h1 := hs h List.mem_cons_self
    unfold hashes at ih ⊢
    rw [List.filter_cons]
    split
    · simp only [List.flatten_cons, List.length_append, List.length_cons]; omega
    · simp only [List.length_cons]; omega
theorem hides_end (s : List (List UInt8)) : (bitsB s.length fun t => decide (t < s.length) && hidesB s t) = bitsB s.length (hidesB s) := by
  congr 1; funext t
  by_cases h : t < s.length
  · simp [h]
  · have : s[t]? = none := List.getElem?_eq_none (by omega)
    simp [h, hidesB, this]
theorem encodeP_ok (p : Pf) (hw : p.wf) (h : p.chk = 0) : VC Try.prog 69 [p.av] [(5, p.text.length)] (.tup [.bs p.text (some 0), errv 0]) := by
  obtain ⟨s, n⟩ := p
  have hsl := bas_len s
  have hc := pcheck_v ⟨s, n⟩ hw
  rw [h] at hc
  have hle : s.length ≤ 256 := by
    have := h
    simp only [Pf.chk] at this
    split at this
    · cases this
    · omega
  have hok : n.ok := by
    have := h
    simp only [Pf.chk] at this
    split at this
    · cases this
    · split at this
      · rename_i h1; exact h1.1
      · cases this
  have hen := encode_ok n hw.e hok
  obtain ⟨h1, h2, h3, h4⟩ := id hw.e
  have hsum := sum_length [0]
  dsimp only at h1 h2 h3 h4
  refine mE Try.func69 ?_; intro N w0 a w hN hR H
  simp only [Pf.av, Nd.av] at H hc hen
  refine mW ?_; clear H; intro a w H
  refine mCall [] [] (hc) H ?_; clear H; intro a w H; try refine wpList_nil ?_
  refine mW ?_; clear H; intro a w H
  refine mC H (fun hb => ?_) (fun hb => ?_)
  · simp at hb
  · refine mW ?_; clear H; intro a w H
    have hX := @hsl
    refine mCall [] [] (put16_v s.length (by omega)) H ?_; clear H; intro a w H; try refine wpList_nil ?_
    refine mW ?_; clear H; intro a w H
    refine mCall [] [] (bits_v s.length (by omega)) H ?_; clear H; intro a w H; try refine wpList_nil ?_
    refine mW ?_; clear H; intro a w H
    refine mCall [] [] (empty_v) H ?_; clear H; intro a w H; try refine wpList_nil ?_
    refine mW ?_; clear H; intro a w H
    rw [show List.replicate 0 (0 : UInt8) = [] from rfl] at H
    have eb : List.replicate ((s.length + 7) / 8) (0 : UInt8) = bitsB s.length (fun t => decide (t < 0) && hidesB s t) := bitsB_zero _ _
    rw [eb] at H
    have eE : sum [0] = E0 := rfl
    rw [eE] at H hsum
    replace H := mK [1, 2, 3, 5, 7, 8, 9, 36, 35, 34] 3 2 hN hR H
    refine v_loop (fun k : Nat => ⟨[(36, none, .v (.int .i64 (k : Int))), (35, none, .v (.int .i64 (s.length : Int))), (34, none, .sl (.ba 32) (bas s) none), (9, none, .ptr 2 []), (8, none, .bs (hashes (s.take k)) (some 1)), (7, none, .win 1 [] 0 ((s.length + 7) / 8)), (5, none, .bs [UInt8.ofNat (s.length / 256), UInt8.ofNat s.length] (some 0)), (3, none, .v (.int .i64 0)), (2, none, .v (.slice none 0 0)), (1, none, .ptr 0 [])],
      [(ti41.ty, .st [.sl (.ba 32) (bas s) none, .st [.v (B8 n.k), .ba n.key, .ba n.v, .ba n.l, .ba n.r]]), (.ba ((s.length + 7) / 8), .ba (bitsB s.length fun t => decide (t < k) && hidesB s t)), (.ba 32, .ba E0)], [], [(5, 2), (5, (hashes (s.take k)).length)]⟩)
      (fun k => k ≤ s.length) (fun k => s.length - k) 0 (Nat.zero_le _) (H.to 3 2 ⟨Nat.le_trans hN (by decide), Nat.le_trans hR (by decide)⟩ ⟨rfl, rfl, rfl, rfl, rfl, rfl, rfl, rfl, rfl, rfl, trivial⟩ rfl rfl rfl rfl rfl) ?_
    clear H
    intro k a w hk H
    have hbl := bitsB_len s.length (fun t => decide (t < k) && hidesB s t)
    refine mW ?_; clear H; intro a w H
    refine mC H (fun hb => ?_) (fun hb => ?_)
    · have hlt : k < s.length := by simpa using hb
      have hg := bas_get s k hlt
      have h32 : s[k].length = 32 := hw.s _ (List.getElem_mem hlt)
      have e8 : ((k : Int) / 8).toNat = k / 8 := by omega
      have e7 : (if ((k : Int) % 8).toNat ≤ 8 then ((k : Int) % 8).toNat else 8) = k % 8 := by split <;> omega
      have hh : hidesB s k = (s[k] != E0) := by unfold hidesB; rw [List.getElem?_eq_getElem hlt]
      have htk : s.take (k + 1) = s.take k ++ [s[k]] := List.take_succ_eq_append_getElem hlt
      have ht32 : s[k].take 32 = s[k] := List.take_of_length_le (by omega)
      have hhl : (hashes (s.take k)).length ≤ 8192 := by
        have := hashes_len (s.take k) fun x hx => hw.s _ (List.mem_of_mem_take hx)
        rw [List.length_take] at this; omega
      clear hX; have hX := And.intro @hsl (And.intro @hg (And.intro @e8 (And.intro @e7 (@ht32))))
      have hY := And.intro @or_rng0 (And.intro @or_rng1 (And.intro @e8 (@e7)))
      refine mW ?_; clear H; intro a w H
      refine mC H (fun hb => ?_) (fun hb => ?_)
      · have hne : (s[k] != E0) = true := by simpa using hb
        have hs1 : hashes (s.take (k + 1)) = hashes (s.take k) ++ s[k] := by
          unfold hashes; rw [htk, List.filter_append, List.filter_cons_of_pos (p := (· != E0)) hne, List.filter_nil, List.flatten_append]; simp
        refine mS ?_; refine mD 0 [10] [] H ?_; clear H; intro gS H; refine mT ?_; clear H; intro a w H
        refine v_drawNil H ?_; clear H; intro H
        rw [bit_step _ _ _ hlt (by rw [hh]; exact hne)] at H
        refine mW ?_; clear H; intro a w H
        replace H := mK [1, 2, 3, 5, 7, 8, 9, 36, 35, 34] 3 2 hN hR H
        have H := v_fz H
        simp only [List.filter_cons, List.filter_nil, List.length_cons, List.length_nil, Nat.reduceAdd, Nat.reduceLT, Nat.lt_irrefl, decide_false, Bool.false_eq_true, reduceIte] at H
        exact ⟨k + 1, hlt, by omega, H.to 3 2 ⟨Nat.le_trans hN (by decide), Nat.le_trans hR (by decide)⟩ ⟨rfl, rfl, rfl, rfl, by rw [hs1]; rfl, rfl, rfl, rfl, rfl, rfl, trivial⟩ rfl (by rw [hs1, List.length_append]; rfl) rfl rfl rfl⟩
      · have hne : (s[k] != E0) = false := by simpa using hb
        have hs1 : hashes (s.take (k + 1)) = hashes (s.take k) := by
          unfold hashes; rw [htk, List.filter_append, List.filter_cons_of_neg (p := (· != E0)) (by rw [hne]; decide), List.filter_nil, List.append_nil]
        refine mW ?_; clear H; intro a w H
        exact ⟨k + 1, hlt, by omega, H.to 3 2 ⟨Nat.le_trans hN (by decide), Nat.le_trans hR (by decide)⟩ ⟨rfl, rfl, rfl, rfl, by rw [hs1]; rfl, rfl, rfl, rfl, rfl, rfl, trivial⟩ (by rw [bit_skip _ _ _ (by rw [hh]; exact hne)]; rfl) (by rw [hs1]; rfl) rfl rfl rfl⟩
    · have hge : k = s.length := by simp at hb; omega
      subst hge
      rw [hides_end, List.take_length] at H
      have hhl : (hashes s).length ≤ 8192 := by
        have := hashes_len s hw.s
        omega
      have htl := text_len hw.e
      dsimp only at htl
      rw [show bitsB s.length (hidesB s) = (Pf.mk s n).bits from rfl] at H
      have hbl : (Pf.mk s n).bits.length = (s.length + 7) / 8 := bitsB_len _ _
      have hfl : ([[UInt8.ofNat (s.length / 256), UInt8.ofNat s.length], (Pf.mk s n).bits, hashes s, n.text] : List (List UInt8)).flatten = (Pf.mk s n).text := by simp [Pf.text]
      have hjl : (Pf.mk s n).text.length ≤ 34359738000 := by rw [← hfl]; simp only [List.flatten_cons, List.flatten_nil, List.length_append, List.length_cons, List.length_nil, hbl]; omega
      have hjo := join_v [[UInt8.ofNat (s.length / 256), UInt8.ofNat s.length], (Pf.mk s n).bits, hashes s, n.text] (by rw [hfl]; omega) (by simp)
      rw [hfl] at hjo
      have hcase : (s.length + 7) / 8 = 0 ∨ 0 < (s.length + 7) / 8 := by omega
      rcases hcase with h0 | h0
      · have hb0 : (Pf.mk s n).bits = [] := List.length_eq_zero_iff.1 (by omega)
        rw [hb0] at hjo
        rw [h0] at H
        have H := v_win0 H 7 1 rfl
        simp only [nilT, reduceIte, Nat.reduceEqDiff] at H
        refine mW ?_; clear H; intro a w H
        refine mCall [] [] (hen) H ?_; clear H; intro a w H; try refine wpList_nil ?_
        refine mW ?_; clear H; intro a w H
        refine mCall [] [] (hjo) H ?_; clear H; intro a w H; try refine wpList_nil ?_
        refine mW ?_; clear H; intro a w H
        refine wp_ret ?_; exact mEnd [] [4] [.tmp 2, .tmp 3] [_, _] hN hR H
      · have H := v_bc H 7 1 (Nat.le_trans hN (by decide)) rfl h0 rfl
        have htk : (Pf.mk s n).bits.take ((s.length + 7) / 8) = (Pf.mk s n).bits := List.take_of_length_le (by omega)
        simp only [nilT, reduceIte, Nat.reduceEqDiff] at H
        have H := v_sub H 7 (x := .bc (Pf.mk s n).bits ((s.length + 7) / 8) (some 1)) (y := .bs (Pf.mk s n).bits none) (by simp only [sub]; exact htk) rfl (fun _ e => by cases e) rfl
        simp only [nilT, reduceIte, Nat.reduceEqDiff] at H
        refine mW ?_; clear H; intro a w H
        refine mCall [] [] (hen) H ?_; clear H; intro a w H; try refine wpList_nil ?_
        refine mW ?_; clear H; intro a w H
        refine mCall [] [] (hjo) H ?_; clear H; intro a w H; try refine wpList_nil ?_
        refine mW ?_; clear H; intro a w H
        refine wp_ret ?_; exact mEnd [] [4] [.tmp 2, .tmp 3] [_, _] hN hR H
end Go.Proofs.Ythphhnkoilcofaa
/- Roots of entries that rise: the program's. -/
namespace Go.Proofs.Ythphhnkoilcofaa
open Go Go.RowKit
def partK (d : Nat) (ks : List (List UInt8)) : Nat := (ks.takeWhile fun x => !bitN x d).length
theorem partK_of (d : Nat) : ∀ (ks : List (List UInt8)) (k : Nat), k ≤ ks.length → (∀ j (h : j < ks.length), j < k → bitN ks[j] d = false) → (∀ h : k < ks.length, bitN ks[k] d = true) → partK d ks = k
  | [], k, hk, _, _ => by simp at hk; subst hk; rfl
  | x :: ks, 0, _, _, h2 => by
    have := h2 (by simp)
    simp only [List.getElem_cons_zero] at this
    simp [partK, List.takeWhile_cons, this]
  | x :: ks, k + 1, hk, h1, h2 => by
    have h0 := h1 0 (by simp) (by omega)
    simp only [List.getElem_cons_zero] at h0
    have ih := partK_of d ks k (by simpa using hk) (fun j h hj => by have := h1 (j + 1) (by simpa using h) (by omega); rwa [List.getElem_cons_succ] at this) (fun h => by have := h2 (by simpa using h); rwa [List.getElem_cons_succ] at this)
    unfold partK at ih ⊢
    simp [List.takeWhile_cons, h0, ih]
theorem partN_K (d : Nat) (l : List En) : partK d (l.map Prod.fst) = partN d l := by
  unfold partK partN
  induction l with
  | nil => rfl
  | cons x l ih => simp only [List.map_cons, List.takeWhile_cons]; cases bitN x.1 d <;> simp [ih]
theorem pbit_zero (p : List UInt8) (d : Nat) (hd : d < 256) : decide (pbit p (d : Int) = 0) = !bitN p d := by
  rw [pbit, if_pos (by omega), Int.toNat_natCast]
  cases bitN p d <;> rfl
def Wd (l : List En) : Prop := ∀ x ∈ l, x.1.length = 32 ∧ x.2.length = 32
theorem Wd.half {l : List En} (h : Wd l) (b : Bool) (d : Nat) : Wd (half b d l) := fun x hx => h x (half_mem hx)
end Go.Proofs.Ythphhnkoilcofaa
/- Keys as ways down: the document's functions. -/
namespace Go.Proofs.Ythphhnkoilcofaa
open Go Go.RowKit
end Go.Proofs.Ythphhnkoilcofaa
/- Digests of the empty place, of leaves, of inner nodes: the document's. -/
namespace Go.Proofs.Ythphhnkoilcofaa
open Go Go.RowKit
end Go.Proofs.Ythphhnkoilcofaa
/- Proofs as bytes: how they are read. -/
namespace Go.Proofs.Ythphhnkoilcofaa
open Go Go.RowKit
theorem encodeP_bad (p : Pf) (hw : p.wf) (h : p.chk ≠ 0) : VC Try.prog 69 [p.av] [] (.tup [.v (.slice none 0 0), errv p.chk]) := by
  have hc := pcheck_v p hw
  have hsl := bas_len p.s
  obtain ⟨h1, h2, h3, h4⟩ := id hw.e
  refine mE Try.func69 ?_; intro N w0 a w hN hR H
  simp only [Pf.av, Nd.av] at H hc
  refine mW ?_; clear H; intro a w H
  refine mCall [] [] (hc) H ?_; clear H; intro a w H; try refine wpList_nil ?_
  refine mW ?_; clear H; intro a w H
  refine mC H (fun hb => ?_) (fun hb => ?_)
  · refine mW ?_; clear H; intro a w H
    refine wp_ret ?_; exact mEnd [] [] [.tmp 2, .tmp 3] [_, _] hN hR H
  · simp at hb; exact absurd hb h
/-- The sides that marks and bytes say, what is left, and whether bytes were lacking. -/
def runS : List Bool → List UInt8 → List (List UInt8) × List UInt8 × Bool
  | [], r => ([], r, false)
  | m :: ms, r => if m = true ∧ r.length < 32 then ([E0], r, true) else ((if m then r.take 32 else E0) :: (runS ms (if m then r.drop 32 else r)).1, (runS ms (if m then r.drop 32 else r)).2)
def marksOf (bits : List UInt8) (n : Nat) : List Bool := (List.range n).map fun i => bitAt (bits.getD (i / 8) 0) (i % 8)
def rdQ (l : List UInt8) : Pf × Bool :=
  if l.length < 2 then (⟨[], .zero⟩, false) else
  if 256 < num 0 (l.take 2) then (⟨[], .zero⟩, false) else
  if (l.drop 2).length < (num 0 (l.take 2) + 7) / 8 then (⟨[], .zero⟩, false) else
  let x := runS (marksOf ((l.drop 2).take ((num 0 (l.take 2) + 7) / 8)) (num 0 (l.take 2))) ((l.drop 2).drop ((num 0 (l.take 2) + 7) / 8))
  if x.2.2 then (⟨x.1, .zero⟩, false) else (⟨x.1, dec x.2.1⟩, decide (decOk x.2.1))
theorem pmarks_len (bits : List UInt8) (n : Nat) : (marksOf bits n).length = n := by simp [marksOf]
theorem marks_drop (bits : List UInt8) (n k : Nat) (hk : k < n) : (marksOf bits n).drop k = bitAt (bits.getD (k / 8) 0) (k % 8) :: (marksOf bits n).drop (k + 1) := by
  rw [List.drop_eq_getElem_cons (by rw [pmarks_len]; exact hk)]
  simp [marksOf]
theorem E0_len : E0.length = 32 := sum_length [0]
theorem runS_w : ∀ (ms : List Bool) (r : List UInt8), ∀ h ∈ (runS ms r).1, h.length = 32
  | [], r => fun h hh => by cases hh
  | m :: ms, r => by
    intro h hh
    unfold runS at hh
    split at hh
    · simp at hh; subst hh; exact E0_len
    · rename_i hc
      rcases List.mem_cons.1 hh with rfl | hh
      · split
        · rename_i hm; rw [List.length_take]; have : ¬ r.length < 32 := fun e => hc ⟨hm, e⟩; omega
        · exact E0_len
      · exact runS_w ms _ h hh
/-- Where the reading stands. -/
structure At (ms : List Bool) (l : List UInt8) (i : Nat × List (List UInt8) × List UInt8 × Bool) : Prop where
  k : i.1 ≤ ms.length
  len : i.2.1.length = i.1
  lr : i.2.2.1.length ≤ l.length
  ok : i.2.2.2 = false → runS ms l = (i.2.1 ++ (runS (ms.drop i.1) i.2.2.1).1, (runS (ms.drop i.1) i.2.2.1).2)
  no : i.2.2.2 = true → runS ms l = (i.2.1, i.2.2.1, true)
theorem at_start (ms : List Bool) (l : List UInt8) : At ms l (0, [], l, false) :=
  ⟨Nat.zero_le _, rfl, Nat.le_refl _, fun _ => rfl, fun h => by cases h⟩
theorem at_next {ms ms' : List Bool} {l r : List UInt8} {k : Nat} {ss : List (List UInt8)} {m : Bool} (h : At ms l (k, ss, r, false)) (hd : ms.drop k = m :: ms.drop (k + 1)) (hk : k < ms.length) (hm : ¬ (m = true ∧ r.length < 32)) :
    At ms l (k + 1, ss ++ [if m then r.take 32 else E0], if m then r.drop 32 else r, false) := by
  refine ⟨hk, by simp [h.len], ?_, fun _ => ?_, fun e => by cases e⟩
  · dsimp only; have := h.lr; dsimp only at this; split <;> simp <;> omega
  · have := h.ok rfl
    dsimp only at this ⊢
    rw [this, hd, runS, if_neg hm]
    simp
theorem at_bad {ms ms' : List Bool} {l r : List UInt8} {k : Nat} {ss : List (List UInt8)} (h : At ms l (k, ss, r, false)) (hd : ms.drop k = true :: ms.drop (k + 1)) (hk : k < ms.length) (hr : r.length < 32) :
    At ms l (k + 1, ss ++ [E0], r, true) := by
  refine ⟨hk, by simp [h.len], h.lr, fun e => (by cases e), fun _ => ?_⟩
  have := h.ok rfl
  dsimp only at this ⊢
  rw [this, hd, runS, if_pos ⟨rfl, hr⟩]
set_option maxRecDepth 20000 in
set_option maxHeartbeats 1000000 in
theorem readP_main (l : List UInt8) (hl : l.length ≤ 34359730000) (hs : ¬ l.length < 2) (hn : ¬ 256 < num 0 (l.take 2)) (hq : ¬ (l.drop 2).length < (num 0 (l.take 2) + 7) / 8) :
    VC Try.prog 190 [.bs l none] [] (.tup [(rdQ l).1.av, .v (.bool (rdQ l).2)]) := by
  rw [rdQ, if_neg hs, if_neg hn, if_neg hq]
  obtain ⟨n, hne⟩ : ∃ n, n = num 0 (l.take 2) := ⟨_, rfl⟩
  rw [← hne] at hn hq ⊢
  dsimp only
  have h1 := newRd_v l (by omega)
  have h2 := u16_ok l (by omega) (by omega)
  rw [← hne] at h2
  obtain ⟨l2, hl2⟩ : ∃ l2, l2 = l.drop 2 := ⟨_, rfl⟩
  have hl2l : l2.length ≤ l.length := by rw [hl2, List.length_drop]; omega
  rw [← hl2] at h2 hq ⊢
  have h3 := take_ok l2 ((n + 7) / 8) (by omega) (by omega)
  obtain ⟨l3, hl3⟩ : ∃ l3, l3 = l2.drop ((n + 7) / 8) := ⟨_, rfl⟩
  obtain ⟨bits, hbits⟩ : ∃ bits, bits = l2.take ((n + 7) / 8) := ⟨_, rfl⟩
  have hl3l : l3.length ≤ l.length := by rw [hl3, List.length_drop]; omega
  have hbl : bits.length = (n + 7) / 8 := by rw [hbits, List.length_take]; omega
  rw [← hl3, ← hbits] at h3 ⊢
  have hb1 := bits_v n (by omega)
  obtain ⟨ms, hms⟩ : ∃ ms, ms = marksOf bits n := ⟨_, rfl⟩
  rw [← hms]
  have hml : ms.length = n := by rw [hms, pmarks_len]
  have hsum := sum_length [0]
  have eE : sum [0] = E0 := rfl
  refine mE Try.func190 ?_; intro N w0 a w hN hR H
  simp only [rdv] at H h1 h2 h3
  refine mW ?_; clear H; intro a w H
  refine mCall [] [] (h1) H ?_; clear H; intro a w H; try refine wpList_nil ?_
  refine mW ?_; clear H; intro a w H
  refine mCall [1] [] (h2) H ?_; clear H; intro a w H; try refine wpList_nil ?_
  refine mW ?_; clear H; intro a w H
  refine mC H (fun hb => ?_) (fun hb => ?_)
  · exfalso; simp at hb; omega
  refine mW ?_; clear H; intro a w H
  refine mCall [] [] (hb1) H ?_; clear H; intro a w H; try refine wpList_nil ?_
  refine mW ?_; clear H; intro a w H
  refine mCall [1] [] (h3) H ?_; clear H; intro a w H; try refine wpList_nil ?_
  refine mW ?_; clear H; intro a w H
  refine mCall [] [] (empty_v) H ?_; clear H; intro a w H; try refine wpList_nil ?_
  refine mW ?_; clear H; intro a w H
  rw [eE] at H hsum
  have H := v_sub H 6 (x := .bs bits (some 0)) (y := .bs bits none) (by simp only [sub]) rfl (fun _ e => by cases e) rfl
  simp only [nilT, reduceIte, Nat.reduceEqDiff] at H
  have H := v_nilX tab_ok H 2 0 27 (j := ti27) (.ba 32) rfl (by decide) rfl rfl
  simp only [List.set_cons_succ, List.set_cons_zero, List.length_cons, List.length_nil, Nat.reduceAdd, List.cons_append, List.nil_append, hz] at H
  refine v_loop (fun i : Nat × List (List UInt8) × List UInt8 × Bool => ⟨[(9, none, .v (.int .i64 (i.1 : Int))), (8, none, .ptr 3 []), (7, none, .ptr 2 []), (6, none, .bs bits none), (5, none, .v (.int .i64 (n : Int))), (4, none, .ptr 1 []), (3, none, .v (.bool false)), (2, none, .ptr 0 [])],
    [(ti41.ty, .st [.v (.slice none 0 0), .st [.v (.int .u8 0), .ba z32, .ba z32, .ba z32, .ba z32]]), (rdT, .st [.v (.bool true), .v (.bool i.2.2.2), .bs i.2.2.1 none]), (ti41.ty, .st [.sl (.ba 32) (bas i.2.1) (some 1), .st [.v (.int .u8 0), .ba z32, .ba z32, .ba z32, .ba z32]]), (.ba 32, .ba E0)], [], [(5, (n + 7) / 8), (27, i.2.1.length)]⟩)
    (At ms l3) (fun i => n - i.1) (0, [], l3, false) (at_start ms l3) (H.to 4 2 ⟨Nat.le_trans hN (by decide), Nat.le_trans hR (by decide)⟩ ⟨rfl, rfl, rfl, rfl, rfl, rfl, rfl, rfl, trivial⟩ rfl rfl rfl rfl rfl) ?_
  clear H
  rintro ⟨k, ss, r, bad⟩ a w hat H
  dsimp only at H
  have hk := hat.k
  have hlr := hat.lr
  have hsl := hat.len
  dsimp only at hk hlr hsl
  have hbd := bad_v bad r
  simp only [rdv] at hbd
  refine mW ?_; clear H; intro a w H
  refine mCallG [1] [] (hbd) H ?_; clear H; intro a w H; try refine wpList_nil ?_
  refine mW ?_; clear H; intro a w H
  refine mC H (fun hb => ?_) (fun hb => ?_)
  · have hb1 : k < n ∧ bad = false := by simpa using hb
    obtain ⟨hkn, rfl⟩ := hb1
    have e8 : ((k : Int) / 8).toNat = k / 8 := by omega
    have e7 : (if ((k : Int) % 8).toNat ≤ 8 then ((k : Int) % 8).toNat else 8) = k % 8 := by split <;> omega
    have hX := And.intro @e8 (@e7)
    have hY := And.intro @e8 (@e7)
    refine mW ?_; clear H; intro a w H
    refine mS ?_; refine mD 2 [] [] H ?_; clear H; intro gS H; refine mT ?_; clear H; intro a w H
    refine v_drawNil H ?_; clear H; intro H
    refine mW ?_; clear H; intro a w H
    rw [and_bit] at H
    have hdr := marks_drop bits n k hkn
    rw [← hms] at hdr
    have hkm : k < ms.length := by omega
    have hbs : bas (ss ++ [E0]) = bas ss ++ [.ba E0] := by simp [bas]
    have hE32 : E0.take 32 = E0 := List.take_of_length_le (by omega)
    have hE33 : E0.drop 32 = [] := List.drop_eq_nil_of_le (by omega)
    have hbl' := bas_len ss
    refine mC H (fun hb => ?_) (fun hb => ?_)
    · rw [hb] at hdr
      replace H := mK [2, 3, 4, 5, 6, 7, 8, 9, 10] 5 2 hN hR H
      by_cases hr : r.length < 32
      · have ht := take_bad r 32 hr
        simp only [rdv] at ht
        refine mS ?_; refine mD 0 [2, 3] [0] H ?_; clear H; intro gS H; refine mT ?_; clear H; intro a w H
        refine mCallT [1] [] (ht) H ?_; clear H; intro a w H
        refine mT ?_; clear H; intro a w H
        refine v_drawNil H ?_; clear H; intro H
        refine mW ?_; clear H; intro a w H
        exact ⟨(k + 1, ss ++ [E0], r, true), at_bad (ms' := ms) hat hdr hkm hr, by dsimp only; omega, H.to 4 2 ⟨Nat.le_trans hN (by decide), Nat.le_trans hR (by decide)⟩ ⟨rfl, rfl, rfl, rfl, rfl, rfl, rfl, rfl, trivial⟩ (by dsimp only; rw [hbs]; rfl) (by dsimp only; rw [List.length_append, hbl']; rfl) rfl rfl rfl⟩
      · have ht := take_ok r 32 (by omega) (by omega)
        simp only [rdv] at ht
        refine mS ?_; refine mD 0 [2, 3] [0] H ?_; clear H; intro gS H; refine mT ?_; clear H; intro a w H
        refine mCallT [1] [] (ht) H ?_; clear H; intro a w H
        refine mT ?_; clear H; intro a w H
        refine v_drawNil H ?_; clear H; intro H
        refine mW ?_; clear H; intro a w H
        have h32 : (r.take 32).length = 32 := by rw [List.length_take]; omega
        have ht2 : (r.take 32).take 32 ++ E0.drop ((r.take 32).take 32).length = r.take 32 := by rw [List.take_of_length_le (Nat.le_of_eq h32), h32, hE33, List.append_nil]
        have hbs2 : bas (ss ++ [r.take 32]) = bas ss ++ [.ba (r.take 32)] := by simp [bas]
        rw [ht2] at H
        exact ⟨(k + 1, ss ++ [r.take 32], r.drop 32, false), at_next (ms' := ms) (m := true) hat hdr hkm (fun h => hr h.2), by dsimp only; omega, H.to 4 2 ⟨Nat.le_trans hN (by decide), Nat.le_trans hR (by decide)⟩ ⟨rfl, rfl, rfl, rfl, rfl, rfl, rfl, rfl, trivial⟩ (by dsimp only; rw [hbs2]; rfl) (by dsimp only; rw [List.length_append, hbl']; rfl) rfl rfl rfl⟩
    · rw [hb] at hdr
      refine mW ?_; clear H; intro a w H
      exact ⟨(k + 1, ss ++ [E0], r, false), at_next (ms' := ms) (m := false) hat hdr hkm (fun h => by cases h.1), by dsimp only; omega, H.to 4 2 ⟨Nat.le_trans hN (by decide), Nat.le_trans hR (by decide)⟩ ⟨rfl, rfl, rfl, rfl, rfl, rfl, rfl, rfl, trivial⟩ (by dsimp only; rw [hbs]; rfl) (by dsimp only; rw [List.length_append, hbl']; rfl) rfl rfl rfl⟩
  · have hbc : bad = true ∨ (bad = false ∧ k = n) := by
      cases bad
      · right; refine ⟨rfl, ?_⟩; simp at hb; omega
      · exact .inl rfl
    have hsum := E0_len
    rcases hbc with rfl | ⟨rfl, rfl⟩
    · have hrun := hat.no rfl
      have h4 := left_v true r
      have h5 := take_was r 0
      have hd := decode_v []
      have hdb : ¬ decOk [] := by simp [decOk]
      have hdl := z32_len
      rw [if_neg hdb, dec_bad hdb] at hd
      simp only [rdv, Nd.av, Nd.zero, if_true] at h4 h5 hd
      dsimp only at hrun
      rw [hrun]
      dsimp only
      rw [if_pos rfl]
      refine mW ?_; clear H; intro a w H
      refine mCall [1] [] (h4) H ?_; clear H; intro a w H; try refine wpList_nil ?_
      refine mW ?_; clear H; intro a w H
      refine mCall [1] [] (h5) H ?_; clear H; intro a w H; try refine wpList_nil ?_
      refine mW ?_; clear H; intro a w H
      refine mCall [] [] (hd) H ?_; clear H; intro a w H; try refine wpList_nil ?_
      refine mW ?_; clear H; intro a w H
      replace H := mK [0, 2, 3, 4, 7, 12] 4 2 hN hR H
      have H := v_ref H 7 2 (Nat.le_trans hN (by decide)) rfl rfl rfl
      simp only [nilT, strip, List.map_cons, List.map_nil, reduceIte, Nat.reduceEqDiff] at H
      refine mS ?_; refine mD 0 [2, 8] [0, 5, 6, 7] H ?_; clear H; intro gS H; refine mT ?_; clear H; intro a w H
      refine mCallT [1] [] (hbd) H ?_; clear H; intro a w H
      refine mT ?_; clear H; intro a w H
      refine v_drawNil H ?_; clear H; intro H
      refine mW ?_; clear H; intro a w H
      have hX := And.intro @Pf.av.eq_1 (And.intro @Nd.av.eq_1 (@Nd.zero.eq_1))
      refine wp_ret ?_; exact mEnd [] [] [.cell 2 41, .tmp 3] [_, _] hN hR H
    · have hrun := hat.ok rfl
      dsimp only at hrun
      rw [List.drop_of_length_le (by omega)] at hrun
      simp only [runS, List.append_nil] at hrun
      have h4 := left_v false r
      have h5 := take_ok r r.length (Nat.le_refl _) (by omega)
      have hd := decode_v r
      obtain ⟨g1, g2, g3, g4⟩ := id (dec_wf r)
      simp only [rdv, Nd.av, Bool.false_eq_true, if_false, List.take_length, List.drop_length] at h4 h5 hd
      rw [hrun]
      dsimp only
      rw [if_neg (by decide)]
      have hbd := bad_v false []
      simp only [rdv] at hbd
      refine mW ?_; clear H; intro a w H
      refine mCall [1] [] (h4) H ?_; clear H; intro a w H; try refine wpList_nil ?_
      refine mW ?_; clear H; intro a w H
      refine mCall [1] [] (h5) H ?_; clear H; intro a w H; try refine wpList_nil ?_
      refine mW ?_; clear H; intro a w H
      refine mCall [] [] (hd) H ?_; clear H; intro a w H; try refine wpList_nil ?_
      refine mW ?_; clear H; intro a w H
      replace H := mK [0, 2, 3, 4, 7, 12] 4 2 hN hR H
      have H := v_ref H 7 2 (Nat.le_trans hN (by decide)) rfl rfl rfl
      simp only [nilT, strip, List.map_cons, List.map_nil, reduceIte, Nat.reduceEqDiff] at H
      by_cases ho : decOk r
      · simp only [if_pos ho] at H
        refine mS ?_; refine mD 0 [2, 8] [0, 5, 6, 7] H ?_; clear H; intro gS H; refine mT ?_; clear H; intro a w H
        refine mCallT [1] [] (hbd) H ?_; clear H; intro a w H
        refine mT ?_; clear H; intro a w H
        refine v_drawNil H ?_; clear H; intro H
        refine mW ?_; clear H; intro a w H
        simp only [Pf.av, Nd.av, ho, decide_true, decide_false]
        refine wp_ret ?_; exact mEnd [] [] [.cell 2 41, .tmp 3] [_, _] hN hR H
      · simp only [if_neg ho] at H
        refine mS ?_; refine mD 0 [2, 8] [0, 5, 6, 7] H ?_; clear H; intro gS H; refine mT ?_; clear H; intro a w H
        refine mCallT [1] [] (hbd) H ?_; clear H; intro a w H
        refine mT ?_; clear H; intro a w H
        refine v_drawNil H ?_; clear H; intro H
        refine mW ?_; clear H; intro a w H
        simp only [Pf.av, Nd.av, ho, decide_true, decide_false]
        refine wp_ret ?_; exact mEnd [] [] [.cell 2 41, .tmp 3] [_, _] hN hR H
theorem readP_many (l : List UInt8) (hl : l.length ≤ 34359730000) (hs : ¬ l.length < 2) (hn : 256 < num 0 (l.take 2)) :
    VC Try.prog 190 [.bs l none] [] (.tup [(rdQ l).1.av, .v (.bool (rdQ l).2)]) := by
  rw [rdQ, if_neg hs, if_pos hn]
  have h1 := newRd_v l (by omega)
  have h2 := u16_ok l (by omega) (by omega)
  have hz2 := z32_len
  obtain ⟨n, hne⟩ : ∃ n, n = num 0 (l.take 2) := ⟨_, rfl⟩
  rw [← hne] at hn h2
  refine mE Try.func190 ?_; intro N w0 a w hN hR H
  simp only [rdv] at H h1 h2
  refine mW ?_; clear H; intro a w H
  refine mCall [] [] (h1) H ?_; clear H; intro a w H; try refine wpList_nil ?_
  refine mW ?_; clear H; intro a w H
  refine mCall [1] [] (h2) H ?_; clear H; intro a w H; try refine wpList_nil ?_
  refine mW ?_; clear H; intro a w H
  refine mC H (fun hb => ?_) (fun hb => ?_)
  · refine mW ?_; clear H; intro a w H
    simp only [Pf.av, Nd.av, Nd.zero, bas, List.map_nil]
    try simp only [hz] at H
    refine wp_ret ?_; exact mEnd [] [] [.cell 2 41, .tmp 3] [_, _] hN hR H
  · exfalso; simp at hb; omega
set_option maxRecDepth 20000 in
theorem readP_cut (l : List UInt8) (hl : l.length ≤ 34359730000) (hs : ¬ l.length < 2) (hn : ¬ 256 < num 0 (l.take 2)) (hq : (l.drop 2).length < (num 0 (l.take 2) + 7) / 8) :
    VC Try.prog 190 [.bs l none] [] (.tup [(rdQ l).1.av, .v (.bool (rdQ l).2)]) := by
  rw [rdQ, if_neg hs, if_neg hn, if_pos hq]
  have h1 := newRd_v l (by omega)
  have h2 := u16_ok l (by omega) (by omega)
  obtain ⟨n, hne⟩ : ∃ n, n = num 0 (l.take 2) := ⟨_, rfl⟩
  rw [← hne] at hn hq h2
  have h3 := take_bad (l.drop 2) ((n + 7) / 8) hq
  have hbt := bits_v n (by omega)
  have hsum := sum_length [0]
  have h4 := left_v true (l.drop 2)
  have h5 := take_was (l.drop 2) 0
  have hbd := bad_v true (l.drop 2)
  have hd := decode_v []
  have hdb : ¬ decOk [] := by simp [decOk]
  have hdl := z32_len
  rw [if_neg hdb, dec_bad hdb] at hd
  simp only [rdv, Nd.av, Nd.zero, if_true] at h1 h2 h3 h4 h5 hd hbd
  refine mE Try.func190 ?_; intro N w0 a w hN hR H
  refine mW ?_; clear H; intro a w H
  refine mCall [] [] (h1) H ?_; clear H; intro a w H; try refine wpList_nil ?_
  refine mW ?_; clear H; intro a w H
  refine mCall [1] [] (h2) H ?_; clear H; intro a w H; try refine wpList_nil ?_
  refine mW ?_; clear H; intro a w H
  refine mC H (fun hb => ?_) (fun hb => ?_)
  · exfalso; simp at hb; omega
  · refine mW ?_; clear H; intro a w H
    refine mCall [] [] (hbt) H ?_; clear H; intro a w H; try refine wpList_nil ?_
    refine mW ?_; clear H; intro a w H
    refine mCall [1] [] (h3) H ?_; clear H; intro a w H; try refine wpList_nil ?_
    refine mW ?_; clear H; intro a w H
    refine mCall [] [] (empty_v) H ?_; clear H; intro a w H; try refine wpList_nil ?_
    refine mW ?_; clear H; intro a w H
    replace H := mK [0, 2, 3, 4, 5, 6, 7, 8, 9] 4 0 hN hR H
    refine v_loop (fun _ : Nat => _) (fun _ => True) (fun _ => 0) 0 trivial H ?_
    clear H
    intro k a w hk H
    refine mW ?_; clear H; intro a w H
    refine mCallG [1] [] (hbd) H ?_; clear H; intro a w H; try refine wpList_nil ?_
    refine mW ?_; clear H; intro a w H
    refine mC H (fun hb => ?_) (fun hb => ?_)
    · simp at hb
    · refine mW ?_; clear H; intro a w H
      refine mCall [1] [] (h4) H ?_; clear H; intro a w H; try refine wpList_nil ?_
      refine mW ?_; clear H; intro a w H
      refine mCall [1] [] (h5) H ?_; clear H; intro a w H; try refine wpList_nil ?_
      refine mW ?_; clear H; intro a w H
      refine mCall [] [] (hd) H ?_; clear H; intro a w H; try refine wpList_nil ?_
      refine mW ?_; clear H; intro a w H
      replace H := mK [0, 2, 3, 4, 7, 12] 4 0 hN hR H
      have H := v_ref H 7 2 (Nat.le_trans hN (by decide)) rfl rfl rfl
      simp only [nilT, strip, List.map_cons, List.map_nil, reduceIte, Nat.reduceEqDiff] at H
      refine mS ?_; refine mD 0 [2, 8] [0, 5, 6, 7] H ?_; clear H; intro gS H; refine mT ?_; clear H; intro a w H
      refine mCallT [1] [] (hbd) H ?_; clear H; intro a w H
      refine mT ?_; clear H; intro a w H
      refine v_drawNil H ?_; clear H; intro H
      refine mW ?_; clear H; intro a w H
      simp only [Pf.av, Nd.av, Nd.zero, bas, List.map_nil]
      try simp only [hz] at H
      refine wp_ret ?_; exact mEnd [] [] [.cell 2 41, .tmp 3] [_, _] hN hR H
set_option maxRecDepth 20000 in
theorem readP_short (l : List UInt8) (hs : l.length < 2) :
    VC Try.prog 190 [.bs l none] [] (.tup [(rdQ l).1.av, .v (.bool (rdQ l).2)]) := by
  rw [rdQ, if_pos hs]
  have h1 := newRd_v l (by omega)
  have h2 := u16_bad l hs
  have h3 := take_was l 0
  have hbt := bits_v 0 (by decide)
  have hsum := sum_length [0]
  have h4 := left_v true l
  have hbd := bad_v true l
  have hd := decode_v []
  have hdb : ¬ decOk [] := by simp [decOk]
  have hdl := z32_len
  rw [if_neg hdb, dec_bad hdb] at hd
  simp only [rdv, Nd.av, Nd.zero, if_true] at h1 h2 h3 h4 hd hbd
  refine mE Try.func190 ?_; intro N w0 a w hN hR H
  refine mW ?_; clear H; intro a w H
  refine mCall [] [] (h1) H ?_; clear H; intro a w H; try refine wpList_nil ?_
  refine mW ?_; clear H; intro a w H
  refine mCall [1] [] (h2) H ?_; clear H; intro a w H; try refine wpList_nil ?_
  refine mW ?_; clear H; intro a w H
  refine mC H (fun hb => ?_) (fun hb => ?_)
  · simp at hb
  · refine mW ?_; clear H; intro a w H
    refine mCall [] [] (hbt) H ?_; clear H; intro a w H; try refine wpList_nil ?_
    refine mW ?_; clear H; intro a w H
    refine mCall [1] [] (h3) H ?_; clear H; intro a w H; try refine wpList_nil ?_
    refine mW ?_; clear H; intro a w H
    refine mCall [] [] (empty_v) H ?_; clear H; intro a w H; try refine wpList_nil ?_
    refine mW ?_; clear H; intro a w H
    replace H := mK [0, 2, 3, 4, 5, 6, 7, 8, 9] 4 0 hN hR H
    refine v_loop (fun _ : Nat => _) (fun _ => True) (fun _ => 0) 0 trivial H ?_
    clear H
    intro k a w hk H
    refine mW ?_; clear H; intro a w H
    refine mCallG [1] [] (hbd) H ?_; clear H; intro a w H; try refine wpList_nil ?_
    refine mW ?_; clear H; intro a w H
    refine mC H (fun hb => ?_) (fun hb => ?_)
    · simp at hb
    · refine mW ?_; clear H; intro a w H
      refine mCall [1] [] (h4) H ?_; clear H; intro a w H; try refine wpList_nil ?_
      refine mW ?_; clear H; intro a w H
      refine mCall [1] [] (h3) H ?_; clear H; intro a w H; try refine wpList_nil ?_
      refine mW ?_; clear H; intro a w H
      refine mCall [] [] (hd) H ?_; clear H; intro a w H; try refine wpList_nil ?_
      refine mW ?_; clear H; intro a w H
      replace H := mK [0, 2, 3, 4, 7, 12] 4 0 hN hR H
      have H := v_ref H 7 2 (Nat.le_trans hN (by decide)) rfl rfl rfl
      simp only [nilT, strip, List.map_cons, List.map_nil, reduceIte, Nat.reduceEqDiff] at H
      refine mS ?_; refine mD 0 [2, 8] [0, 5, 6, 7] H ?_; clear H; intro gS H; refine mT ?_; clear H; intro a w H
      refine mCallT [1] [] (hbd) H ?_; clear H; intro a w H
      refine mT ?_; clear H; intro a w H
      refine v_drawNil H ?_; clear H; intro H
      refine mW ?_; clear H; intro a w H
      simp only [Pf.av, Nd.av, Nd.zero, bas, List.map_nil]
      try simp only [hz] at H
      refine wp_ret ?_; exact mEnd [] [] [.cell 2 41, .tmp 3] [_, _] hN hR H
theorem readP_v (l : List UInt8) (hl : l.length ≤ 34359730000) : VC Try.prog 190 [.bs l none] [] (.tup [(rdQ l).1.av, .v (.bool (rdQ l).2)]) := by
  by_cases hs : l.length < 2
  · exact readP_short l hs
  · by_cases hn : 256 < num 0 (l.take 2)
    · exact readP_many l hl hs hn
    · by_cases hq : (l.drop 2).length < (num 0 (l.take 2) + 7) / 8
      · exact readP_cut l hl hs hn hq
      · exact readP_main l hl hs hn hq
end Go.Proofs.Ythphhnkoilcofaa
/- Proofs as bytes: read, and told again. -/
namespace Go.Proofs.Ythphhnkoilcofaa
open Go Go.RowKit
theorem cmp_zero : ∀ x y : List UInt8, Lib.compareBytes x y = 0 ↔ x = y
  | [], [] => by simp [Lib.compareBytes]
  | [], _ :: _ => by simp [Lib.compareBytes]
  | _ :: _, [] => by simp [Lib.compareBytes]
  | x :: l, y :: m => by
    have ih := cmp_zero l m
    simp only [Lib.compareBytes]
    split
    · rename_i h; simp only [List.cons.injEq]; constructor
      · intro e; cases e
      · rintro ⟨rfl, _⟩; exact absurd h (by simp)
    · split
      · rename_i h; simp only [List.cons.injEq]; constructor
        · intro e; cases e
        · rintro ⟨rfl, _⟩; exact absurd h (by simp)
      · rename_i h1 h2
        have : x = y := by
          apply UInt8.toNat_inj.1
          have h1 := h1; have h2 := h2
          simp [UInt8.lt_iff_toNat_lt] at h1 h2
          omega
        subst this; simpa using ih
def Pf.zero : Pf := ⟨[], .zero⟩
theorem pzero_wf : Pf.zero.wf := ⟨fun h hh => (by cases hh), zero_wf⟩
theorem rdQ_wf (l : List UInt8) : (rdQ l).1.wf := by
  unfold rdQ
  split
  · exact pzero_wf
  · split
    · exact pzero_wf
    · split
      · exact pzero_wf
      · dsimp only
        split
        · exact ⟨runS_w _ _, zero_wf⟩
        · exact ⟨runS_w _ _, dec_wf _⟩
def pOk (l : List UInt8) : Prop := (rdQ l).2 = true ∧ (rdQ l).1.chk = 0 ∧ (rdQ l).1.text = l
instance (l : List UInt8) : Decidable (pOk l) := inferInstanceAs (Decidable (_ ∧ _))
def pDec (l : List UInt8) : Pf := if pOk l then (rdQ l).1 else .zero
set_option maxRecDepth 20000 in
theorem decodeP_aux (l : List UInt8) (hl : l.length ≤ 34359730000) (q : Pf) (ok : Bool) (hw : q.wf) (h1 : VC Try.prog 190 [.bs l none] [] (.tup [q.av, .v (.bool ok)])) (r : Pf) (e : Int)
    (hr1 : ok = true ∧ q.chk = 0 ∧ q.text = l → r = q ∧ e = 0) (hr2 : ¬ (ok = true ∧ q.chk = 0 ∧ q.text = l) → r = .zero ∧ e = 10) : VC Try.prog 146 [.bs l none] [] (.tup [r.av, errv e]) := by
  have hz2 := z32_len
  obtain ⟨g1, g2, g3, g4⟩ := id hw.e
  refine mE Try.func146 ?_; intro N w0 a w hN hR H
  refine mW ?_; clear H; intro a w H
  simp only [Pf.av, Nd.av] at h1
  refine mCall [] [] (h1) H ?_; clear H; intro a w H; try refine wpList_nil ?_
  refine mW ?_; clear H; intro a w H
  cases ok
  · refine mC H (fun hb => ?_) (fun hb => ?_)
    · refine mW ?_; clear H; intro a w H
      obtain ⟨rfl, rfl⟩ := hr2 (fun h => by cases h.1)
      simp only [Pf.zero, Pf.av, Nd.av, Nd.zero, bas, List.map_nil]
      try simp only [hz] at H
      refine wp_ret ?_; exact mEnd [] [] [.cell 2 41, .tmp 3] [_, _] hN hR H
    · simp at hb
  · refine mC H (fun hb => ?_) (fun hb => ?_)
    · simp at hb
    · by_cases hc : q.chk = 0
      · have h2 := encodeP_ok q hw hc
        have h3 := compare_v q.text l
        have hz' := cmp_zero q.text l
        simp only [Pf.av, Nd.av] at h2
        refine mW ?_; clear H; intro a w H
        refine mCall [] [] (h2) H ?_; clear H; intro a w H; try refine wpList_nil ?_
        refine mW ?_; clear H; intro a w H
        refine mCallG [] [] (h3) H ?_; clear H; intro a w H; try refine wpList_nil ?_
        refine mW ?_; clear H; intro a w H
        refine mC H (fun hb => ?_) (fun hb => ?_)
        · obtain ⟨rfl, rfl⟩ := hr2 (fun h => by simp at hb; exact hb (hz'.2 h.2.2))
          refine mW ?_; clear H; intro a w H
          simp only [Pf.zero, Pf.av, Nd.av, Nd.zero, bas, List.map_nil]
          try simp only [hz] at H
          refine wp_ret ?_; exact mEnd [] [] [.cell 2 41, .tmp 3] [_, _] hN hR H
        · obtain ⟨rfl, rfl⟩ := hr1 ⟨rfl, hc, hz'.1 (by simpa using hb)⟩
          refine mW ?_; clear H; intro a w H
          simp only [Pf.av, Nd.av]
          refine wp_ret ?_; exact mEnd [] [] [.cell 2 41, .tmp 3] [_, _] hN hR H
      · have h2 := encodeP_bad q hw hc
        obtain ⟨rfl, rfl⟩ := hr2 (fun h => hc h.2.1)
        have h3 := compare_v [] l
        simp only [Pf.av, Nd.av] at h2
        refine mW ?_; clear H; intro a w H
        refine mCall [] [] (h2) H ?_; clear H; intro a w H; try refine wpList_nil ?_
        refine mW ?_; clear H; intro a w H
        refine mCallG [] [] (h3) H ?_; clear H; intro a w H; try refine wpList_nil ?_
        refine mW ?_; clear H; intro a w H
        refine mC H (fun hb => ?_) (fun hb => ?_)
        · refine mW ?_; clear H; intro a w H
          simp only [Pf.zero, Pf.av, Nd.av, Nd.zero, bas, List.map_nil]
          try simp only [hz] at H
          refine wp_ret ?_; exact mEnd [] [] [.cell 2 41, .tmp 3] [_, _] hN hR H
        · simp [hc] at hb
theorem decodeP_v (l : List UInt8) (hl : l.length ≤ 34359730000) : VC Try.prog 146 [.bs l none] [] (.tup [(pDec l).av, errv (if pOk l then 0 else 10)]) :=
  decodeP_aux l hl _ _ (rdQ_wf l) (readP_v l hl) _ _ (fun h => by have h : pOk l := h; rw [pDec, if_pos h, if_pos h]; exact ⟨rfl, rfl⟩) (fun h => by have h : ¬ pOk l := h; rw [pDec, if_neg h, if_neg h]; exact ⟨rfl, rfl⟩)
end Go.Proofs.Ythphhnkoilcofaa
/- The digest at the top of a way: node.Up, and the document's. -/
namespace Go.Proofs.Ythphhnkoilcofaa
open Go Go.RowKit
/-- One step up. -/
def stepH (key : List UInt8) (d : Nat) (x h : List UInt8) : List UInt8 := if bitN key d then innerH x h else innerH h x
/-- From the sides from the depth d on. -/
def upL (key : List UInt8) : Nat → List (List UInt8) → List UInt8 → List UInt8
  | _, [], h => h
  | d, x :: r, h => stepH key d x (upL key (d + 1) r h)
theorem stepH_len (key : List UInt8) (d : Nat) (x h : List UInt8) : (stepH key d x h).length = 32 := by unfold stepH; split <;> exact innerH_len _ _
theorem upL_len (key : List UInt8) (h : List UInt8) (hh : h.length = 32) : ∀ d s, (upL key d s h).length = 32
  | _, [] => hh
  | _, _ :: _ => stepH_len _ _ _ _
theorem upL_drop (key : List UInt8) (s : List (List UInt8)) (h : List UInt8) (k : Nat) (hk : k < s.length) : upL key k (s.drop k) h = stepH key k (s.getD k []) (upL key (k + 1) (s.drop (k + 1)) h) := by
  rw [List.drop_eq_getElem_cons hk, List.getElem_eq_getD []]; rfl
def topH (key : List UInt8) (p : Pf) : List UInt8 := upL key 0 p.s (sum p.e.text)
theorem topH_len (key : List UInt8) (p : Pf) : (topH key p).length = 32 := upL_len _ _ (sum_length _) _ _
theorem chk_all {p : Pf} (h : p.chk = 0) : p.s.length ≤ 256 ∧ p.e.ok ∧ p.e.k ≠ 2 := by
  unfold Pf.chk at h
  split at h
  · cases h
  · split at h
    · rename_i h1 h2; exact ⟨by omega, h2⟩
    · cases h
set_option maxRecDepth 20000 in
set_option maxHeartbeats 1000000 in
theorem up_v (key : List UInt8) (hk32 : key.length = 32) (p : Pf) (hw : p.wf) (h : p.chk = 0) : VC Try.prog 15 [.ba key, p.av] [] (.tup [.ba (topH key p), errv 0]) := by
  obtain ⟨hle, hok, hk2⟩ := chk_all h
  obtain ⟨s, n⟩ := p
  dsimp only at hle hok hk2
  have hs := hw.s
  have hsl := bas_len s
  have hdg := digest_ok n hw.e hok
  obtain ⟨h1, h2, h3, h4⟩ := id hw.e
  dsimp only at h1 h2 h3 h4 hs
  have hz2 := z32_len
  have hd2 : decide ((n.k.toNat : Int) = 2) = false := decide_eq_false fun e => hk2 (UInt8.toNat_inj.1 (by simp; omega))
  unfold topH
  obtain ⟨h0, hh0⟩ : ∃ h0, h0 = sum n.text := ⟨_, rfl⟩
  have h0l : h0.length = 32 := by rw [hh0]; exact sum_length _
  rw [← hh0] at hdg
  dsimp only
  rw [← hh0]
  clear hh0 hok hk2 h hw
  refine mE Try.func15 ?_; intro N w0 a w hN hR H
  simp only [Pf.av, Nd.av] at H hdg
  have hX := @hsl
  refine mW ?_; clear H; intro a w H
  refine mC H (fun hb => ?_) (fun hb => ?_)
  · exfalso; rw [decide_eq_true_eq] at hb; omega
  · refine mW ?_; clear H; intro a w H
    refine mCall [] [] (hdg) H ?_; clear H; intro a w H; try refine wpList_nil ?_
    refine mW ?_; clear H; intro a w H
    refine mC H (fun hb => ?_) (fun hb => ?_)
    · exfalso; simp only [hd2] at hb; simp at hb
    · clear hb
      refine mW ?_; clear H; intro a w H
      refine v_loop (fun k : Nat => ⟨[(8, none, .v (.int .i64 ((k : Int) - 1))), (6, none, .ptr 3 []), (5, none, .v (.int .i64 0)), (4, none, .ptr 2 []), (3, none, .ptr 1 []), (2, none, .ptr 0 [])],
        [(.ba 32, .ba key), (ti41.ty, .st [.sl (.ba 32) (bas s) none, .st [.v (B8 n.k), .ba n.key, .ba n.v, .ba n.l, .ba n.r]]), (.ba 32, .ba z32), (.ba 32, .ba (upL key k (s.drop k) h0))], [], []⟩)
        (fun k => k ≤ s.length) (fun k => k) s.length (Nat.le_refl _) (H.to 4 0 ⟨Nat.le_trans hN (by decide), hR⟩ ⟨rfl, rfl, rfl, rfl, rfl, rfl, trivial⟩ (by rw [List.drop_length]; rfl) rfl rfl rfl rfl) ?_
      clear H
      intro k a w hk H
      have hul := upL_len key h0 h0l k (s.drop k)
      refine mW ?_; clear H; intro a w H
      refine mC H (fun hb => ?_) (fun hb => ?_)
      · obtain ⟨j, rfl⟩ : ∃ j, k = j + 1 := ⟨k - 1, by rw [decide_eq_true_eq] at hb; omega⟩
        clear hb
        have hj : j < s.length := hk
        have e1 : (((j + 1 : Nat) : Int) - 1) = (j : Int) := by omega
        rw [e1] at H
        have hbit := bit_v key hk32 (j : Int)
        have hj256 : j < 256 := by omega
        have hpb : decide (pbit key (j : Int) = 0) = !bitN key j := by
          rw [pbit, if_pos (by omega), Int.toNat_natCast]; cases bitN key j <;> rfl
        have hup := upL_drop key s h0 j hj
        have hg := bas_get s j hj
        rw [List.getElem_eq_getD []] at hg
        have hx : (s.getD j []).length = 32 := by rw [← List.getElem_eq_getD (h := hj) []]; exact hs _ (List.getElem_mem _)
        generalize s.getD j [] = x at *
        generalize upL key (j + 1) (s.drop (j + 1)) h0 = u at *
        have hin1 := inner_v u x hul hx
        have hin2 := inner_v x u hx hul
        have hil1 := innerH_len u x
        have hil2 := innerH_len x u
        refine mW ?_; clear H; intro a w H
        refine mCall [] [] (hbit) H ?_; clear H; intro a w H; try refine wpList_nil ?_
        refine mW ?_; clear H; intro a w H
        simp only [hpb] at H
        refine mC H (fun hb => ?_) (fun hb => ?_)
        · have hbf : bitN key j = false := by cases h : bitN key j; rfl; rw [h] at hb; simp at hb
          have hst : stepH key j x u = innerH u x := by unfold stepH; rw [hbf]; rfl
          rw [hst] at hup
          clear hb
          refine mW ?_; clear H; intro a w H
          clear hX; have hX := And.intro @hsl (@hg)
          have hY := And.intro @hsl (@hx)
          refine mS ?_; refine mD 0 [6, 7] [] H ?_; clear H; intro gS H
          refine mTN 3 hN H ?_; clear H; intro a w H; simp only [List.drop_succ_cons, List.drop_zero, List.drop_nil]
          refine mTN 2 hN H ?_; clear H; intro a w H; simp only [List.drop_succ_cons, List.drop_zero, List.drop_nil]
          refine mTN 1 hN H ?_; clear H; intro a w H; simp only [List.drop_succ_cons, List.drop_zero, List.drop_nil]
          refine mCallT [] [] (hin1) H ?_; clear H; intro a w H
          refine mT ?_; clear H; intro a w H
          refine v_drawNil H ?_; clear H; intro H
          clear hX; have hX := @hsl
          clear hY
          refine mW ?_; clear H; intro a w H
          exact ⟨j, by omega, by omega, H.to 4 0 ⟨Nat.le_trans hN (by decide), hR⟩ ⟨rfl, rfl, rfl, rfl, rfl, rfl, trivial⟩ (by dsimp only; rw [hup]; rfl) rfl rfl rfl rfl⟩
        · have hbt : bitN key j = true := by cases h : bitN key j; (rw [h] at hb; simp at hb); rfl
          have hst : stepH key j x u = innerH x u := by unfold stepH; rw [hbt]; rfl
          rw [hst] at hup
          clear hb
          refine mW ?_; clear H; intro a w H
          clear hX; have hX := And.intro @hsl (@hg)
          have hY := And.intro @hsl (@hx)
          refine mS ?_; refine mD 0 [6, 7] [] H ?_; clear H; intro gS H
          refine mTN 2 hN H ?_; clear H; intro a w H; simp only [List.drop_succ_cons, List.drop_zero, List.drop_nil]
          refine mTN 2 hN H ?_; clear H; intro a w H; simp only [List.drop_succ_cons, List.drop_zero, List.drop_nil]
          refine mTN 2 hN H ?_; clear H; intro a w H; simp only [List.drop_succ_cons, List.drop_zero, List.drop_nil]
          refine mCallT [] [] (hin2) H ?_; clear H; intro a w H
          refine mT ?_; clear H; intro a w H
          refine v_drawNil H ?_; clear H; intro H
          clear hX; have hX := @hsl
          clear hY
          refine mW ?_; clear H; intro a w H
          exact ⟨j, by omega, by omega, H.to 4 0 ⟨Nat.le_trans hN (by decide), hR⟩ ⟨rfl, rfl, rfl, rfl, rfl, rfl, trivial⟩ (by dsimp only; rw [hup]; rfl) rfl rfl rfl rfl⟩
      · have hge : k = 0 := by rw [decide_eq_false_iff_not] at hb; omega
        subst hge
        rw [List.drop_zero] at H hul
        refine mW ?_; clear H; intro a w H
        refine wp_ret ?_; exact mEnd [] [] [.cell 4 27, .tmp 5] [_, _] hN hR H
end Go.Proofs.Ythphhnkoilcofaa
/- Proofs as bytes: the document's. -/
namespace Go.Proofs.Ythphhnkoilcofaa
open Go Go.RowKit
end Go.Proofs.Ythphhnkoilcofaa
/- A region at a function's end in which the named results are loaded and stored again: nothing changes. -/
namespace Go.Proofs.Ythphhnkoilcofaa
open Go Go.RowKit
theorem setRow_id {w : World} {g : Nat} {t : TypeId} {cs : Array Value} (h : Blk w g t cs) : w.setRow g cs = w := by
  have e : (w.setRow g cs).heap = w.heap := by
    apply Array.ext_getElem?
    intro k
    by_cases hk : k = g
    · subst hk; rw [setRow_heap w k cs cs t (0, 0) h]; exact h.symm
    · exact setRow_other w g k cs hk
  cases w
  simp only [World.setRow] at e ⊢
  rw [e]
section
variable {P : Program} {τ : Tab} {w0 w : World} {N : Gh} {st : St} {nt : Nat} {a : Act}
theorem load_box (hτ : τ.ok P) {g : Gh} {bx : List (Ty × AV)} (hB : BR g bx) {T b : Nat} {i : TI} {x : AV} (hi : Tab.get T τ = some i) (hb : bx[b]? = some (i.ty, x)) {u : Value} (hu : RV g (.ptr b []) u) :
    ∃ y : Bx, g.bx[b]? = some y ∧ u = .pointer (some ⟨y.blk, 0, none⟩) ∧ RC g i.ty x y.cells ∧ ∀ w, Mem g w → (Instr.loadAt T u).run P w = .ok (mkV i.ty y.cells) w ∧ (Instr.storeAt T u (mkV i.ty y.cells)).run P w = .ok () w := by
  have hok := Tab.get_ok hτ hi
  obtain ⟨_, y, o, T', hy, hloc, e⟩ := hu.ptr_inv.ptr_inv
  injection e with e
  have hgr := Ty.loc_grows hloc
  rw [Ty.loc_nil hgr] at hloc
  simp only [Option.some.injEq, Prod.mk.injEq] at hloc
  obtain ⟨rfl, rfl⟩ := hloc
  obtain ⟨y', hy', hty, hrc⟩ := hB.get hb
  rw [hy] at hy'; injection hy' with hy'; subst hy'
  obtain ⟨hyo, hym, hrc⟩ := hrc.rc (hty ▸ hgr)
  refine ⟨y, hy, e, hrc, fun w hw => ?_⟩
  have hblk := (hw.bx _ _ hy hyo).c hym
  subst e
  refine ⟨?_, ?_⟩
  · simp only [Instr.loadAt, Instr.sureAddr, Sem.run_bind, Sem.run_pure, Result.andThen_ok]
    refine run_loadV hok hrc fun j u hu => ?_
    rw [hblk.cell, List.getElem?_toArray, Nat.zero_add]
    exact hu
  · have := run_stV (P := P) (v := mkV i.ty y.cells) hblk (pre := []) (mid := y.cells) (post := []) (news := y.cells) (by simp) T hok hrc.size rfl hrc.one (mkV_cells hrc) rfl
    simp only [List.nil_append, List.append_nil] at this
    rw [setRow_id hblk] at this
    simp only [Instr.storeAt, Instr.sureAddr, Sem.run_bind, Sem.run_pure, Result.andThen_ok]
    exact this
theorem wpT_val {ops : Array Oper} {Q : Exit → Act → World → Prop} {S : World → Prop} {L A : List Nat} {o : Oper} {l : List Oper} {k : Nat} {v : Value} (hg : o.guard = none) (hl : L.contains k = false) (hS : S w) (h1 : ∀ w', S w' → (execOp a.eval o).run P w' = .ok (.value v) w') (h2 : wpT P ops Q S L A l (k + 1) (a.put o.dst v) w) :
    wpT P ops Q S L A (o :: l) k a w := by
  unfold wpT
  rw [if_pos (by simp [Region.wanted, hg]), if_neg (by rw [hl]; exact Bool.false_ne_true)]
  exact ⟨v, (show Vr P o a w v from h1 w hS).qr, fun _ w' hw' => h1 w' hw', h2⟩
theorem wpT_sto {ops : Array Oper} {Q : Exit → Act → World → Prop} {S : World → Prop} {L A : List Nat} {o : Oper} {l : List Oper} {k : Nat} (hg : o.guard = none) (hd : o.dst = none) (hl : L.contains k = true) (hS : S w) (h1 : (execOp a.eval o).run P w = .ok .skip w) (h2 : wpT P ops Q S L A l (k + 1) a w) :
    wpT P ops Q S L A (o :: l) k a w := by
  unfold wpT
  rw [if_pos (by simp [Region.wanted, hg]), if_pos hl]
  unfold Oper.wp
  rw [h1, Oper.upon_skip, hd]
  exact ⟨hS, h2⟩
theorem FR.anew {g : Gh} (hF : FR g nt st a) {d : Nat} {x : AV} {v : Value} (hd : d < nt) (hv : RV g x v) : FR g nt (st.put (some d) none x) (a.put (some d) v) :=
  hF.put (by simp [okDst, hd]) (fun _ => hv) rfl (fun h => absurd trivial h)
theorem v_selfRet {id : Nat} {Q : Exit → Act → World → Prop} {o0 o1 o2 o3 o4 o5 : Oper} {T1 T2 p1 p2 e s1 s2 s3 b1 b2 : Nat} {i1 i2 : TI} {x1 x2 a3 : AV} (hτ : τ.ok P)
    (hm : P.follows .mixedOrders = true) (hchk : chk [o0, o1, o2, o3, o4, o5].toArray (Region.before [o0, o1, o2, o3, o4, o5].toArray) [3, 4] [1, 2] = true) (H : Rel P w0 N nt st a w)
    (h0 : (o0.dst, o0.op, o0.guard) = (some s1, .load T1 (.tmp p1), none)) (h1 : (o1.dst, o1.op, o1.guard) = (some s2, .load T2 (.tmp p2), none)) (h2 : (o2.dst, o2.op, o2.guard) = (some s3, .move (.tmp e), none))
    (h3 : (o3.dst, o3.op, o3.guard) = (none, .store T1 (.tmp p1) (.tmp s1), none)) (h4 : (o4.dst, o4.op, o4.guard) = (none, .store T2 (.tmp p2) (.tmp s2), none)) (h5 : (o5.dst, o5.op, o5.guard) = (some e, .assign (.tmp s3), none))
    (f1 : find p1 st.t = some (none, .ptr b1 [])) (f2 : find p2 st.t = some (none, .ptr b2 [])) (f3 : find e st.t = some (none, a3)) (k1 : Tab.get T1 τ = some i1) (k2 : Tab.get T2 τ = some i2) (g1 : st.bx[b1]? = some (i1.ty, x1)) (g2 : st.bx[b2]? = some (i2.ty, x2))
    (hn : [s1, s2, s3, p1, p2, e].Nodup) (hlt : s1 < nt ∧ s2 < nt ∧ s3 < nt ∧ e < nt)
    (kk : ∀ a w, Rel P w0 N nt ((((st.put (some s1) none x1).put (some s2) none x2).put (some s3) none a3).put (some e) none a3) a w → Q .normal a w) : (Code.region id [o0, o1, o2, o3, o4, o5].toArray true).wp P Q a w := by
  simp only [Prod.mk.injEq] at h0 h1 h2 h3 h4 h5
  obtain ⟨d0, q0, u0⟩ := h0; obtain ⟨d1, q1, u1⟩ := h1; obtain ⟨d2, q2, u2⟩ := h2; obtain ⟨d3, q3, u3⟩ := h3; obtain ⟨d4, q4, u4⟩ := h4; obtain ⟨d5, q5, u5⟩ := h5
  simp only [List.nodup_cons, List.mem_cons, List.not_mem_nil, or_false, not_or] at hn
  obtain ⟨⟨n12, n13, n1p, n1q, n1e⟩, ⟨n23, n2p, n2q, n2e⟩, ⟨n3p, n3q, n3e⟩, ⟨npq, npe⟩, nqe, _⟩ := hn
  obtain ⟨g, HI, hF⟩ := H
  have HI' := HI.drew
  obtain ⟨y1, _, e1, r1, hb1⟩ := load_box hτ HI.br k1 g1 (hF.t _ (find_mem f1) trivial)
  obtain ⟨y2, _, e2, r2, hb2⟩ := load_box hτ HI.br k2 g2 (hF.t _ (find_mem f2) trivial)
  have hv3 : RV g a3 (a.tmps.getD e undef) := hF.t _ (find_mem f3) trivial
  have hM := HI'.mem
  obtain ⟨l1, s1'⟩ := hb1 _ hM
  obtain ⟨l2, s2'⟩ := hb2 _ hM
  have gp : ∀ (a : Act) (d : Nat) (v : Value) (c : Nat), c ≠ d → (a.put (some d) v).tmps.getD c undef = a.tmps.getD c undef := fun a d v c h => getD_put h
  have gs : ∀ (a : Act) (d : Nat) (v : Value), d < a.tmps.size → (a.put (some d) v).tmps.getD d undef = v := fun a d v h => by simp [Act.put, h]
  have hsz := hF.sz
  have sz1 : ∀ (a : Act) (d : Nat) (v : Value), (a.put (some d) v).tmps.size = a.tmps.size := fun a d v => by simp [Act.put]
  have F1 := hF.anew (d := s1) hlt.1 r1.rv.rv'
  have F2 := F1.anew (d := s2) hlt.2.1 r2.rv.rv'
  have F3 := F2.anew (d := s3) hlt.2.2.1 hv3
  have F4 := F3.anew (d := e) hlt.2.2.2 hv3
  refine wp_region_T [3, 4] [1, 2] (fun w' => w' = w.drew) hm hchk rfl ?_
  refine wpT_val (v := mkV i1.ty y1.cells) u0 rfl rfl (fun w' hw' => ?_) ?_
  · subst hw'; unfold execOp; rw [q0]; simp only [show a.eval (.tmp p1) = a.tmps.getD p1 undef from rfl, Sem.run_bind, l1, Result.andThen_ok, Sem.run_pure]
  rw [d0]
  refine wpT_val (v := mkV i2.ty y2.cells) u1 rfl rfl (fun w' hw' => ?_) ?_
  · subst hw'; unfold execOp; rw [q1]; simp only [show ∀ a : Act, a.eval (.tmp p2) = a.tmps.getD p2 undef from fun _ => rfl, gp _ _ _ _ (Ne.symm n1q), Sem.run_bind, l2, Result.andThen_ok, Sem.run_pure]
  rw [d1]
  refine wpT_val (v := a.tmps.getD e undef) u2 rfl rfl (fun w' hw' => ?_) ?_
  · subst hw'; unfold execOp; rw [q2]; simp only [show ∀ a : Act, a.eval (.tmp e) = a.tmps.getD e undef from fun _ => rfl, gp _ _ _ _ (Ne.symm n1e), gp _ _ _ _ (Ne.symm n2e), Sem.run_pure]
  rw [d2]
  refine wpT_sto u3 d3 rfl rfl ?_ ?_
  · unfold execOp; rw [q3]; simp only [show ∀ (a : Act) (c : Nat), a.eval (.tmp c) = a.tmps.getD c undef from fun _ _ => rfl, gp _ _ _ _ n13, gp _ _ _ _ n12, gp _ _ _ _ (Ne.symm n3p), gp _ _ _ _ (Ne.symm n2p), gp _ _ _ _ (Ne.symm n1p), gs a s1 _ (by rw [hsz]; exact hlt.1), Sem.run_bind, s1', Result.andThen_ok, Sem.run_pure]
  refine wpT_sto u4 d4 rfl rfl ?_ ?_
  · unfold execOp; rw [q4]; simp only [show ∀ (a : Act) (c : Nat), a.eval (.tmp c) = a.tmps.getD c undef from fun _ _ => rfl, gp _ _ _ _ n23, gp _ _ _ _ (Ne.symm n3q), gp _ _ _ _ (Ne.symm n2q), gp _ _ _ _ (Ne.symm n1q), gs (a.put (some s1) (mkV i1.ty y1.cells)) s2 _ (by rw [sz1, hsz]; exact hlt.2.1), Sem.run_bind, s2', Result.andThen_ok, Sem.run_pure]
  refine wpT_val (v := a.tmps.getD e undef) u5 rfl rfl (fun w' hw' => ?_) ?_
  · subst hw'; unfold execOp; rw [q5]; simp only [show ∀ (a : Act) (c : Nat), a.eval (.tmp c) = a.tmps.getD c undef from fun _ _ => rfl, gs ((a.put (some s1) (mkV i1.ty y1.cells)).put (some s2) (mkV i2.ty y2.cells)) s3 _ (by rw [sz1, sz1, hsz]; exact hlt.2.2.1), Sem.run_pure]
  rw [d5]
  exact kk _ _ ⟨g, HI', F4⟩
end
end Go.Proofs.Ythphhnkoilcofaa
/- What bytes say to whoever knows the root: verify, and the document's. -/
namespace Go.Proofs.Ythphhnkoilcofaa
open Go Go.RowKit
def vTop (key l : List UInt8) : List UInt8 := if pOk l then topH key (pDec l) else z32
def vErr (l : List UInt8) : Int := if pOk l then 0 else 10
theorem vTop_len (key l : List UInt8) : (vTop key l).length = 32 := by unfold vTop; split; exact topH_len _ _; exact z32_len
theorem pDec_wf (l : List UInt8) : (pDec l).wf := by unfold pDec; split; exact rdQ_wf l; exact pzero_wf
theorem pDec_chk {l : List UInt8} (h : pOk l) : (pDec l).chk = 0 := by rw [pDec, if_pos h]; exact h.2.1
set_option maxRecDepth 20000 in
set_option maxHeartbeats 1000000 in
theorem vread_v (key l : List UInt8) (hk : key.length = 32) (hl : l.length ≤ 34359730000) : VC Try.prog 113 [.ba key, .bs l none] [] (.tup [(pDec l).av, .ba (vTop key l), errv (vErr l)]) := by
  have hz2 := z32_len
  have hd := decodeP_v l hl
  have hw := pDec_wf l
  obtain ⟨g1, g2, g3, g4⟩ := id hw.e
  by_cases h : pOk l
  · have hu := up_v key hk (pDec l) hw (pDec_chk h)
    have htl := topH_len key (pDec l)
    rw [if_pos h] at hd
    rw [vTop, vErr, if_pos h, if_pos h]
    generalize topH key (pDec l) = t at *
    generalize pDec l = p at *
    refine mE Try.func113 ?_; intro N w0 a w hN hR H
    simp only [Pf.av, Nd.av] at hd hu
    refine mW ?_; clear H; intro a w H
    refine mCall [] [] (hd) H ?_; clear H; intro a w H; try refine wpList_nil ?_
    refine mW ?_; clear H; intro a w H
    refine mC H (fun hb => ?_) (fun hb => ?_)
    · simp at hb
    · clear hb
      refine mW ?_; clear H; intro a w H
      refine mCall [] [] (hu) H ?_; clear H; intro a w H; try refine wpList_nil ?_
      refine mW ?_; clear H; intro a w H
      repeat (first | refine wp_seq ?_ | refine wp_block ?_)
      refine v_selfRet (T1 := 41) (T2 := 27) (p1 := 4) (p2 := 5) (e := 6) (s1 := 22) (s2 := 23) (s3 := 24) (b1 := 1) (b2 := 2) (i1 := ti41) (i2 := ti27) tab_ok (by kernel_rfl) (by kernel_rfl) H rfl rfl rfl rfl rfl rfl (by rfl) (by rfl) (by rfl) (by rfl) (by rfl) (by rfl) (by rfl) (by decide) (by decide) (fun a w H => ?_)
      replace H := nf H
      simp only [Pf.av, Nd.av]
      refine wp_ret ?_; exact mEnd [] [] [.cell 4 41, .cell 5 27, .tmp 6] [_, _, _] hN hR H
  · rw [if_neg h] at hd
    rw [vTop, vErr, if_neg h, if_neg h]
    rw [pDec, if_neg h] at hd ⊢
    refine mE Try.func113 ?_; intro N w0 a w hN hR H
    simp only [Pf.zero, Pf.av, Nd.av, Nd.zero, bas, List.map_nil] at hd ⊢
    refine mW ?_; clear H; intro a w H
    refine mCall [] [] (hd) H ?_; clear H; intro a w H; try refine wpList_nil ?_
    refine mW ?_; clear H; intro a w H
    refine mC H (fun hb => ?_) (fun hb => ?_)
    · refine mW ?_; clear H; intro a w H
      try simp only [hz] at H
      refine wp_ret ?_
      exact v_end [] [] tab_ok ⟨hN, hR⟩ (rs := [.cell 4 41, .cell 5 27, .tmp 6]) (ress := [_, _, _]) rfl H (by rfl) (by rfl) cb cw (by exact ⟨⟨rfl, sub_refl _ _, trivial⟩, sub_refl _ _, sub_refl _ _, trivial⟩) rfl
    · simp at hb
/-- What is said of a key under a root. -/
def vRd (root key l : List UInt8) : Bool × List UInt8 × Int :=
  if ¬ pOk l then (false, z32, 10)
  else if vTop key l ≠ root ∨ ((pDec l).e.k = 1 ∧ ¬ (pDec l).s.length ≤ com (pDec l).e.key key) then (false, z32, 11)
  else if (pDec l).e.k = 1 ∧ (pDec l).e.key = key then (true, (pDec l).e.v, 0) else (false, z32, 0)
theorem vRd_len (root key l : List UInt8) : (vRd root key l).2.1.length = 32 := by
  unfold vRd
  split
  · exact z32_len
  · split
    · exact z32_len
    · split
      · exact (pDec_wf l).e.v
      · exact z32_len
theorem k1_iff (k : UInt8) : ((k.toNat : Int) = 1) ↔ k = 1 := ⟨fun h => UInt8.toNat_inj.1 (by simp; omega), fun h => by rw [h]; rfl⟩
set_option maxRecDepth 20000 in
set_option maxHeartbeats 1000000 in
theorem vRead_v (root key l : List UInt8) (hr : root.length = 32) (hk : key.length = 32) (hl : l.length ≤ 34359730000) : VC Try.prog 68 [.ba root, .ba key, .bs l none] [] (.tup [.st [.v (.bool (vRd root key l).1), .ba (vRd root key l).2.1], errv (vRd root key l).2.2]) := by
  have hz2 := z32_len
  have hd := vread_v key l hk hl
  have hw := pDec_wf l
  have htl := vTop_len key l
  by_cases h : pOk l
  · have hc := chk_all (pDec_chk h)
    have e : vRd root key l = if vTop key l ≠ root ∨ ((pDec l).e.k = 1 ∧ ¬ (pDec l).s.length ≤ com (pDec l).e.key key) then (false, z32, 11) else if (pDec l).e.k = 1 ∧ (pDec l).e.key = key then (true, (pDec l).e.v, 0) else (false, z32, 0) := by rw [vRd, if_neg (fun hn => hn h)]
    rw [e]
    rw [vErr, if_pos h] at hd
    clear e
    generalize vTop key l = t at *
    generalize pDec l = p at *
    obtain ⟨s, n⟩ := p
    obtain ⟨g1, g2, g3, g4⟩ := id hw.e
    dsimp only at g1 g2 g3 g4 hc ⊢
    have hsl := bas_len s
    have hun := under_v n.key key g1 hk (s.length : Int)
    have hk1 := k1_iff n.k
    have hs256 := hc.1
    refine mE Try.func68 ?_; intro N w0 a w hN hR H
    simp only [Pf.av, Nd.av] at hd
    refine mW ?_; clear H; intro a w H
    refine mCall [] [] (hd) H ?_; clear H; intro a w H; try refine wpList_nil ?_
    refine mW ?_; clear H; intro a w H
    refine mC H (fun hb => ?_) (fun hb => ?_)
    · simp at hb
    · clear hb
      have hX := @hsl
      refine mW ?_; clear H; intro a w H
      refine mCallG [] [] (hun) H ?_; clear H; intro a w H; try refine wpList_nil ?_
      refine mW ?_; clear H; intro a w H
      have hcond : (bif !decide (t = root) then true else bif decide ((n.k.toNat : Int) = 1) then !decide (0 ≤ (s.length : Int) ∧ (s.length : Int) ≤ 256 ∧ (s.length : Int) ≤ (com n.key key : Int)) else false) = decide (t ≠ root ∨ (n.k = 1 ∧ ¬ s.length ≤ com n.key key)) := by
        have e2 : (0 ≤ (s.length : Int) ∧ (s.length : Int) ≤ 256 ∧ (s.length : Int) ≤ (com n.key key : Int)) ↔ s.length ≤ com n.key key := ⟨fun h => by omega, fun h => ⟨by omega, by omega, by omega⟩⟩
        have d1 : decide ((n.k.toNat : Int) = 1) = decide (n.k = 1) := decide_eq_decide.2 hk1
        have d2 : decide (0 ≤ (s.length : Int) ∧ (s.length : Int) ≤ 256 ∧ (s.length : Int) ≤ (com n.key key : Int)) = decide (s.length ≤ com n.key key) := decide_eq_decide.2 e2
        rw [d1, d2]
        by_cases c1 : t = root <;> by_cases c2 : n.k = 1 <;> by_cases c3 : s.length ≤ com n.key key <;> simp [c1, c2, c3]
      try simp only [hcond] at H
      by_cases c0 : t ≠ root ∨ (n.k = 1 ∧ ¬ s.length ≤ com n.key key)
      · rw [if_pos c0]
        refine mC H (fun hb => ?_) (fun hb => ?_)
        · refine mW ?_; clear H; intro a w H
          try simp only [hz] at H
          refine wp_ret ?_; exact mEnd [] [] [.cell 6 50, .tmp 7] [_, _] hN hR H
        · exfalso; rw [decide_eq_true c0] at hb; cases hb
      · rw [if_neg c0]
        refine mC H (fun hb => ?_) (fun hb => ?_)
        · exfalso; rw [decide_eq_false c0] at hb; cases hb
        · clear hb
          refine mW ?_; clear H; intro a w H
          by_cases c1 : n.k = 1 ∧ n.key = key
          · rw [if_pos c1]
            refine mC H (fun hb => ?_) (fun hb => ?_)
            · refine mW ?_; clear H; intro a w H
              refine wp_ret ?_; exact mEnd [] [] [.cell 6 50, .tmp 7] [_, _] hN hR H
            · exfalso; rw [decide_eq_true (hk1.2 c1.1), decide_eq_true c1.2] at hb; cases hb
          · rw [if_neg c1]
            refine mC H (fun hb => ?_) (fun hb => ?_)
            · exfalso
              by_cases c2 : n.k = 1
              · by_cases c3 : n.key = key
                · exact c1 ⟨c2, c3⟩
                · rw [decide_eq_false c3] at hb; simp at hb
              · rw [decide_eq_false (fun e => c2 (hk1.1 e))] at hb; simp at hb
            · refine mW ?_; clear H; intro a w H
              try simp only [hz] at H
              refine wp_ret ?_; exact mEnd [] [] [.cell 6 50, .tmp 7] [_, _] hN hR H
  · have e : vRd root key l = (false, z32, 10) := by rw [vRd, if_pos h]
    rw [e]
    rw [vErr, if_neg h] at hd
    obtain ⟨g1, g2, g3, g4⟩ := id hw.e
    clear e
    generalize vTop key l = t at *
    generalize pDec l = p at *
    refine mE Try.func68 ?_; intro N w0 a w hN hR H
    simp only [Pf.av, Nd.av] at hd
    refine mW ?_; clear H; intro a w H
    refine mCall [] [] (hd) H ?_; clear H; intro a w H; try refine wpList_nil ?_
    refine mW ?_; clear H; intro a w H
    refine mC H (fun hb => ?_) (fun hb => ?_)
    · refine mW ?_; clear H; intro a w H
      try simp only [hz] at H
      refine wp_ret ?_; exact mEnd [] [] [.cell 6 50, .tmp 7] [_, _] hN hR H
    · simp at hb
def valH (v : List UInt8) : List UInt8 := sum (3 :: v)
theorem valH_len (v : List UInt8) : (valH v).length = 32 := sum_length _
theorem value_v (v : List UInt8) (hv : v.length ≤ 34359730000) : VC Try.prog 23 [.bs v none] [] (.ba (valH v)) := by
  have h := of_v 3 [v] (by simp; omega) (by simp)
  have e : [v].flatten = v := by simp
  rw [e] at h
  have hsl := sum_length (3 :: v)
  unfold valH
  refine mE Try.func23 ?_; intro N w0 a w hN hR H
  refine mW ?_; clear H; intro a w H
  refine mCall [] [] (h) H ?_; clear H; intro a w H; try refine wpList_nil ?_
  refine mW ?_; clear H; intro a w H
  refine wp_ret ?_; exact mEnd [] [] [.cell 2 27] [_] hN hR H
def vPres (root key v l : List UInt8) : Bool := decide (v.length ≤ 1024) && (decide ((vRd root key l).2.2 = 0) && ((vRd root key l).1 && decide ((vRd root key l).2.1 = valH v)))
def vAbs (root key l : List UInt8) : Bool := decide ((vRd root key l).2.2 = 0) && !(vRd root key l).1
theorem vAbs_v (root key l : List UInt8) (hr : root.length = 32) (hk : key.length = 32) (hl : l.length ≤ 34359730000) : VC Try.prog 73 [.ba root, .ba key, .bs l none] [] (.v (.bool (vAbs root key l))) := by
  have hd := vRead_v root key l hr hk hl
  have hl2 := vRd_len root key l
  unfold vAbs
  generalize vRd root key l = x at *
  obtain ⟨b, v, e⟩ := x
  dsimp only at *
  refine mE Try.func73 ?_; intro N w0 a w hN hR H
  refine mW ?_; clear H; intro a w H
  refine mCall [] [] (hd) H ?_; clear H; intro a w H; try refine wpList_nil ?_
  refine mW ?_; clear H; intro a w H
  have eb : (decide (e = 0) && !b) = (bif decide (e = 0) then !b else false) := by cases decide (e = 0) <;> rfl
  rw [eb]
  refine wp_ret ?_; exact mEnd [] [] [.tmp 6] [_] hN hR H
set_option maxRecDepth 20000 in
theorem vPres_v (root key v l : List UInt8) (hr : root.length = 32) (hk : key.length = 32) (hv : v.length ≤ 34359730000) (hl : l.length ≤ 34359730000) : VC Try.prog 70 [.ba root, .ba key, .bs v none, .bs l none] [] (.v (.bool (vPres root key v l))) := by
  have hd := vRead_v root key l hr hk hl
  have hl2 := vRd_len root key l
  have hvv := value_v v hv
  have hvl := valH_len v
  unfold vPres
  generalize vRd root key l = x at *
  generalize valH v = y at *
  obtain ⟨b, z, e⟩ := x
  dsimp only at *
  refine mE Try.func70 ?_; intro N w0 a w hN hR H
  refine mW ?_; clear H; intro a w H
  by_cases h1 : v.length ≤ 1024
  · rw [decide_eq_true h1, Bool.true_and]
    refine mC H (fun hb => ?_) (fun hb => ?_)
    · exfalso; rw [decide_eq_true_eq] at hb; omega
    · clear hb
      refine mW ?_; clear H; intro a w H
      refine mCall [] [] (hd) H ?_; clear H; intro a w H; try refine wpList_nil ?_
      refine mW ?_; clear H; intro a w H
      refine mS ?_; refine mD 3 [5] [3] H ?_; clear H; intro gS H; refine mT ?_; clear H; intro a w H
      refine mCallTG [] [] (hvv) H ?_; clear H; intro a w H
      refine mT ?_; clear H; intro a w H
      refine v_drawNil H ?_; clear H; intro H
      have eb : (decide (e = 0) && (b && decide (z = y))) = (bif decide (e = 0) then (b && decide (z = y)) else false) := by cases decide (e = 0) <;> rfl
      rw [eb]
      trace_state
      refine wp_ret ?_; exact mEnd [] [] [.tmp 8] [_] hN hR H
  · rw [decide_eq_false h1, Bool.false_and]
    refine mC H (fun hb => ?_) (fun hb => ?_)
    · refine mW ?_; clear H; intro a w H
      refine wp_ret ?_; exact mEnd [] [] [.tmp 8] [_] hN hR H
    · exfalso; rw [decide_eq_false_iff_not] at hb; omega
end Go.Proofs.Ythphhnkoilcofaa
/- The root of entries that rise: node.parted, node.root. -/
namespace Go.Proofs.Ythphhnkoilcofaa
open Go Go.RowKit
def dgs (l : List Pr) : List En := l.map fun p => (p.1, valH p.2)
def V0 (l : List Pr) : Prop := ∀ x ∈ l, x.2.length ≤ 34359730000
theorem dgs_len (l : List Pr) : (dgs l).length = l.length := by simp [dgs]
theorem dgs_keys (l : List Pr) : (dgs l).map Prod.fst = keysP l := by simp [dgs, keysP]
theorem dgs_take (l : List Pr) (n : Nat) : (dgs l).take n = dgs (l.take n) := by simp [dgs, List.map_take]
theorem dgs_drop (l : List Pr) (n : Nat) : (dgs l).drop n = dgs (l.drop n) := by simp [dgs, List.map_drop]
theorem prs_take (l : List Pr) (n : Nat) : (l.map prA).take n = (l.take n).map prA := by simp [List.map_take]
theorem prs_drop (l : List Pr) (n : Nat) : (l.map prA).drop n = (l.drop n).map prA := by simp [List.map_drop]
set_option maxRecDepth 20000 in
theorem npart_v (l : List Pr) (hw : K32 l) (d : Nat) (hd : d < 256) (hl : l.length ≤ 34359730000) : VC Try.prog 102 [.sl prT (l.map prA) none, .v (.int .i64 (d : Int))] [] (.v (.int .i64 (partN d (dgs l) : Int))) := by
  have hxl : (l.map prA).length = l.length := List.length_map ..
  have hkl : (keysP l).length = l.length := by simp [keysP]
  rw [← partN_K, dgs_keys]
  refine mE Try.func102 ?_; intro N w0 a w hN hR H
  have hX := @hxl
  refine mW ?_; clear H; intro a w H
  refine v_loop (fun k : Nat => ⟨[(5, none, .v (.int .i64 (k : Int))), (4, none, .v (.int .i64 0)), (0, none, .sl prT (l.map prA) none), (1, none, .v (.int .i64 (d : Int)))], [], [], []⟩) (fun k => k ≤ l.length ∧ ∀ j (h : j < (keysP l).length), j < k → bitN (keysP l)[j] d = false) (fun k => l.length - k) 0 ⟨Nat.zero_le _, fun j h hj => by omega⟩ (H.to 0 0 ⟨hN, hR⟩ ⟨rfl, rfl, rfl, rfl, trivial⟩ rfl rfl rfl rfl rfl) ?_
  clear H
  rintro k a w ⟨hk, hall⟩ H
  by_cases hlt : k < l.length
  · have g1 := prA_get l k hlt
    have l1 := hw _ (List.getElem_mem hlt)
    have hb1 := bit_v l[k].1 l1 (d : Int)
    have hkk : (keysP l)[k]'(by omega) = l[k].1 := by simp [keysP]
    generalize l[k] = p at *
    obtain ⟨kb, vb⟩ := p
    dsimp only at g1 l1 hb1 hkk
    refine mS ?_
    clear hX; have hX := And.intro @hxl (@g1)
    have hY := @l1
    (try refine wp_region_lit ?_); refine mN 8 hN H ?_; clear H; intro a w H
    refine mW ?_; clear H; intro a w H
    refine mCallG [] [] (hb1) H ?_; clear H; intro a w H; try refine wpList_nil ?_
    refine mW ?_; clear H; intro a w H
    simp only [pbit_zero _ _ hd] at H
    refine mC H (fun hb => ?_) (fun hb => ?_)
    · have hbf : bitN kb d = false := by
        cases h : bitN kb d
        · rfl
        · rw [h] at hb; simp at hb
      refine mW ?_; clear H; intro a w H
      exact ⟨k + 1, ⟨hlt, fun j h hj => by
        by_cases h1 : j < k
        · exact hall j h h1
        · obtain rfl : j = k := by omega
          rw [hkk]; exact hbf⟩, by omega, H.to 0 0 ⟨hN, hR⟩ ⟨rfl, rfl, rfl, rfl, trivial⟩ rfl rfl rfl rfl rfl⟩
    · have hbt : bitN kb d = true := by
        cases h : bitN kb d
        · rw [h] at hb; simp [hlt] at hb
        · rfl
      have e := partK_of d (keysP l) k (by omega) hall fun _ => by rw [hkk]; exact hbt
      rw [e]
      refine mW ?_; clear H; intro a w H
      refine wp_ret ?_; exact mEnd [] [] [.tmp 4] [_] hN hR H
  · have hge : k = l.length := by omega
    subst hge
    have e := partK_of d (keysP l) l.length (by omega) hall fun h => absurd h (by omega)
    rw [e]
    refine mS ?_
    (try refine wp_region_lit ?_); refine mN 5 hN H ?_; clear H; intro a w H
    have hdd : (decide ((l.length : Int) < (l.length : Int))) = false := by simp
    simp only [hdd] at H
    refine mSk (.v (.bool false)) H ?_; clear H; intro a w H
    refine mSk (.v (.bool false)) H ?_; clear H; intro a w H
    refine mSk (.v (.bool false)) H ?_; clear H; intro a w H
    refine mSk (.v (.bool false)) H ?_; clear H; intro a w H
    refine mSk (.v (.bool false)) H ?_; clear H; intro a w H
    refine mSk (.v (.bool false)) H ?_; clear H; intro a w H
    refine mSk (.v (.bool false)) H ?_; clear H; intro a w H
    refine mSk (.v (.bool false)) H ?_; clear H; intro a w H
    refine mW ?_; clear H; intro a w H
    refine mC H (fun hb => ?_) (fun hb => ?_)
    · simp at hb
    · refine mW ?_; clear H; intro a w H
      refine wp_ret ?_; exact mEnd [] [] [.tmp 4] [_] hN hR H
set_option maxRecDepth 20000 in
theorem nroot_small (f d : Nat) (l : List Pr) (hs : l.length < 2) (hw : K32 l) (hv : V0 l) : VC Try.prog 90 [.sl prT (l.map prA) none, .v (.int .i64 (d : Int))] [] (.ba (rootA f d (dgs l))) := by
  rw [rootA_small f d _ (by rw [dgs_len]; exact hs)]
  match l, hs with
  | [], _ =>
    have hsl := sum_length [0]
    refine mE Try.func90 ?_; intro N w0 a w hN hR H
    simp only [List.map_nil] at H
    refine mW ?_; clear H; intro a w H
    refine mC H (fun hb => ?_) (fun hb => ?_)
    · refine mW ?_; clear H; intro a w H
      refine mCall [] [] (empty_v) H ?_; clear H; intro a w H; try refine wpList_nil ?_
      refine mW ?_; clear H; intro a w H
      refine wp_ret ?_; exact mEnd [] [] [.cell 4 27] [_] hN hR H
    · simp at hb
  | [x], _ =>
    have h1 := hw x List.mem_cons_self
    have h2 := value_v x.2 (hv x List.mem_cons_self)
    have h3 := valH_len x.2
    have hlf := leaf_v x.1 (valH x.2) h1 h3
    have hsl := leafH_len x.1 (valH x.2)
    obtain ⟨kb, vb⟩ := x
    dsimp only at h1 h2 h3 hlf hsl
    refine mE Try.func90 ?_; intro N w0 a w hN hR H
    simp only [List.map_cons, List.map_nil, prA] at H
    refine mW ?_; clear H; intro a w H
    refine mC H (fun hb => ?_) (fun hb => ?_)
    · simp at hb
    · refine mW ?_; clear H; intro a w H
      refine mC H (fun hb => ?_) (fun hb => ?_)
      · refine mW ?_; clear H; intro a w H
        refine mS ?_; refine mD 0 [8, 9, 10] [0, 1, 2, 3] H ?_; clear H; intro gS H; refine mT ?_; clear H; intro a w H
        refine mCallT [] [] (h2) H ?_; clear H; intro a w H
        refine mT ?_; clear H; intro a w H
        refine mCallT [] [] (hlf) H ?_; clear H; intro a w H
        refine mT ?_; clear H; intro a w H
        refine v_drawNil H ?_; clear H; intro H
        refine wp_ret ?_; exact mEnd [] [] [.cell 4 27] [_] hN hR H
      · simp at hb
theorem V0.take {l : List Pr} (h : V0 l) (n : Nat) : V0 (l.take n) := fun x hx => h x (List.mem_of_mem_take hx)
theorem V0.drop {l : List Pr} (h : V0 l) (n : Nat) : V0 (l.drop n) := fun x hx => h x (List.mem_of_mem_drop hx)
theorem K32.take {l : List Pr} (h : K32 l) (n : Nat) : K32 (l.take n) := fun x hx => h x (List.mem_of_mem_take hx)
theorem K32.drop {l : List Pr} (h : K32 l) (n : Nat) : K32 (l.drop n) := fun x hx => h x (List.mem_of_mem_drop hx)
set_option maxRecDepth 20000 in
theorem nroot_v : ∀ (f d : Nat) (l : List Pr), f + d = 256 → Rise d (dgs l) → K32 l → V0 l → l.length ≤ 34359730000 →
    VC Try.prog 90 [.sl prT (l.map prA) none, .v (.int .i64 (d : Int))] [] (.ba (rootA f d (dgs l))) := by
  intro f
  induction f with
  | zero =>
    intro d l hd hr hw hv hl
    exact nroot_small 0 d l (by have := hr.sep.deep (by omega); rwa [dgs_len] at this) hw hv
  | succ f ih =>
    intro d l hd hr hw hv hl
    by_cases hs : l.length < 2
    · exact nroot_small _ d l hs hw hv
    · rw [rootA, if_neg (by rw [dgs_len]; exact hs)]
      have hxl : (l.map prA).length = l.length := List.length_map ..
      obtain ⟨e1, e2⟩ := hr.part (by omega)
      have hn := partN_le d (dgs l)
      rw [dgs_len] at hn
      have hp := npart_v l hw d (by omega) hl
      have s1 := hr.side false
      have s2 := hr.side true
      rw [e1, dgs_take] at s1
      rw [e2, dgs_drop] at s2
      rw [e1, e2, dgs_take, dgs_drop]
      have c1 := ih (d + 1) (l.take (partN d (dgs l))) (by omega) s1 (hw.take _) (hv.take _) (by rw [List.length_take]; omega)
      have c2 := ih (d + 1) (l.drop (partN d (dgs l))) (by omega) s2 (hw.drop _) (hv.drop _) (by rw [List.length_drop]; omega)
      have r1 := rootA_len f (d + 1) (dgs (l.take (partN d (dgs l))))
      have r2 := rootA_len f (d + 1) (dgs (l.drop (partN d (dgs l))))
      generalize rootA f (d + 1) (dgs (l.take (partN d (dgs l)))) = a1 at *
      generalize rootA f (d + 1) (dgs (l.drop (partN d (dgs l)))) = a2 at *
      generalize partN d (dgs l) = n at *
      have hin := inner_v a1 a2 r1 r2
      have hsl := innerH_len a1 a2
      clear ih e1 e2 s1 s2
      refine mE Try.func90 ?_; intro N w0 a w hN hR H
      have hX := @hxl
      refine mW ?_; clear H; intro a w H
      refine mC H (fun hb => ?_) (fun hb => ?_)
      · exfalso; rw [decide_eq_true_eq] at hb; omega
      · refine mW ?_; clear H; intro a w H
        refine mC H (fun hb => ?_) (fun hb => ?_)
        · exfalso; rw [decide_eq_true_eq] at hb; omega
        · refine mW ?_; clear H; intro a w H
          refine mCall [] [] (hp) H ?_; clear H; intro a w H; try refine wpList_nil ?_
          refine mW ?_; clear H; intro a w H
          clear hX; have hX := And.intro @hxl (And.intro @prs_take (@prs_drop))
          refine mS ?_; refine mD 0 [5, 11, 12, 13] [6, 7, 8, 9, 10] H ?_; clear H; intro gS H; refine mT ?_; clear H; intro a w H
          refine mCallT [] [] (c1) H ?_; clear H; intro a w H
          refine mT ?_; clear H; intro a w H
          refine mCallT [] [] (c2) H ?_; clear H; intro a w H
          refine mT ?_; clear H; intro a w H
          refine mCallT [] [] (hin) H ?_; clear H; intro a w H
          refine mT ?_; clear H; intro a w H
          refine v_drawNil H ?_; clear H; intro H
          clear hX
          refine wp_ret ?_; exact mEnd [] [] [.cell 4 27] [_] hN hR H
end Go.Proofs.Ythphhnkoilcofaa
/- node.RootAt, node.Root: any entries. -/
namespace Go.Proofs.Ythphhnkoilcofaa
open Go Go.RowKit
def endsP (l : List Pr) : Nat := com (l.getD 0 ([], [])).1 (l.getD (l.length - 1) ([], [])).1
def rootE (l : List Pr) (d : Int) : List UInt8 × Nat :=
  if d < 0 ∨ 256 < d then (z32, 2) else if errP l ≠ 0 then (z32, errP l) else if 1 < l.length ∧ (endsP (srt l) : Int) < d then (z32, 2) else (rootA (256 - d.toNat) d.toNat (dgs (srt l)), 0)
theorem ends_rise {d : Nat} (l : List Pr) (hk : K32 l) (hr : Ris l) (hd : d ≤ 256) (h : l.length < 2 ∨ d ≤ endsP l) : Rise d (dgs l) := by
  unfold Rise dgs
  rw [List.pairwise_map]
  rw [List.pairwise_iff_getElem]
  intro i j hi hj hij
  have hlt := List.pairwise_iff_getElem.1 hr i j hi hj hij
  refine ⟨?_, hlt⟩
  rcases h with h | h
  · omega
  · have h0 : l.getD 0 ([], []) = l[0]'(by omega) := by simp [List.getD_eq_getElem?_getD, show 0 < l.length by omega]
    have h1 : l.getD (l.length - 1) ([], []) = l[l.length - 1]'(by omega) := by simp [List.getD_eq_getElem?_getD, show l.length - 1 < l.length by omega]
    unfold endsP at h
    rw [h0, h1] at h
    have ha := (com_ge hd).1 h
    have le : ∀ (a b : Nat) (ha : a < l.length) (hb : b < l.length), a ≤ b → l[a].1 = l[b].1 ∨ ltB l[a].1 l[b].1 := fun a b ha hb hab => by
      by_cases e : a = b
      · subst e; exact .inl rfl
      · exact .inr (List.pairwise_iff_getElem.1 hr a b ha hb (by omega))
    have mid : ∀ p q r : List UInt8, (p = q ∨ ltB p q) → (q = r ∨ ltB q r) → agree d p r → agree d p q := fun p q r h1 h2 ha => by
      rcases h1 with rfl | ⟨c, hc, g1, g2, g3⟩
      · exact agree_refl _ _
      · rcases h2 with rfl | ⟨e, he, k1, k2, k3⟩
        · exact ha
        · intro t ht
          by_cases htc : t < c
          · exact g1 t htc
          · exfalso
            rcases Nat.lt_trichotomy c e with hl | rfl | hg
            · have := ha c (by omega); rw [g2, ← k1 c hl, g3] at this; cases this
            · rw [g3] at k2; cases k2
            · have := ha e (by omega); rw [k3, g1 e hg, k2] at this; cases this
    have a1 := mid _ _ _ (le 0 i (by omega) hi (Nat.zero_le _)) (le i (l.length - 1) hi (by omega) (by omega)) ha
    have a2 := mid _ _ _ (le 0 j (by omega) hj (Nat.zero_le _)) (le j (l.length - 1) hj (by omega) (by omega)) ha
    exact a1.symm.trans a2
theorem chkP_vals : ∀ (ks : List (List UInt8)) (l : List Pr), chkP ks l = 0 → ∀ x ∈ l, x.2.length ≤ 1024
  | _, [], _, x, hx => by cases hx
  | ks, p :: l, h, x, hx => by
    unfold chkP at h
    split at h
    · cases h
    · split at h
      · cases h
      · rcases List.mem_cons.1 hx with rfl | hx
        · omega
        · exact chkP_vals _ l h x hx
theorem errP_ok {l : List Pr} (h : errP l = 0) : l.length ≤ 4096 ∧ Dis l ∧ ∀ x ∈ l, x.2.length ≤ 1024 := by
  unfold errP at h
  split at h
  · cases h
  · exact ⟨by omega, (chkP_dis _ _ h).1, chkP_vals _ _ h⟩
set_option maxRecDepth 20000 in
set_option maxHeartbeats 1000000 in
theorem nrootAt_v (l : List Pr) (hk : K32 l) (hl : l.length ≤ 34359730000) (d : Int) : VC Try.prog 40 [.sl prT (l.map prA) none, .v (.int .i64 d)] [] (.tup [.ba (rootE l d).1, .v (.int .i64 ((rootE l d).2 : Int))]) := by
  have hs := sorted_v l hk (by omega)
  by_cases he : errP l = 0
  · obtain ⟨hle, hdis, hvals⟩ := errP_ok he
    have hr : resP l = .tup [.sl prT ((srt l).map prA) none, .v (.int .i64 0)] := by unfold resP; rw [if_pos he]
    rw [hr] at hs
    have hsl : (srt l).length = l.length := (srt_perm l).length_eq
    have hsk : K32 (srt l) := hk.perm (srt_perm l)
    have hsr := srt_ris l hk hdis
    have hsv : V0 (srt l) := fun x hx => Nat.le_trans (hvals x ((srt_perm l).mem_iff.1 hx)) (by decide)
    have hro : rootE l d = if d < 0 ∨ 256 < d then (z32, 2) else if 1 < l.length ∧ (endsP (srt l) : Int) < d then (z32, 2) else (rootA (256 - d.toNat) d.toNat (dgs (srt l)), 0) := by
      unfold rootE; rw [if_neg (show ¬ errP l ≠ 0 by omega)]
    rw [hro]
    generalize srt l = m at *
    have hml : (m.map prA).length = l.length := by rw [List.length_map, hsl]
    refine mE Try.func40 ?_; intro N w0 a w hN hR H
    refine mW ?_; clear H; intro a w H
    refine mC H (fun hb => ?_) (fun hb => ?_)
    · have hd : d < 0 ∨ 256 < d := by
        by_cases h0 : d < 0
        · exact .inl h0
        · right; simpa [h0] using hb
      rw [if_pos hd]
      refine mW ?_; clear H; intro a w H
      refine wp_ret ?_; exact mEnd [] [] [.cell 4 27, .tmp 5] [_, _] hN hR H
    · have hd : ¬ (d < 0 ∨ 256 < d) := by
        rintro (h | h)
        · simp [h] at hb
        · by_cases h0 : d < 0
          · simp [h0] at hb
          · simp [h0] at hb; omega
      rw [if_neg hd]
      clear hb
      obtain ⟨dn, rfl⟩ := Int.eq_ofNat_of_zero_le (show 0 ≤ d by omega)
      simp only [Int.toNat_natCast]
      have hroot := fun (h : l.length < 2 ∨ dn ≤ endsP m) => nroot_v (256 - dn) dn m (by omega) (ends_rise m hsk hsr (by omega) (by rw [hsl]; exact h)) hsk hsv (by omega)
      have hrl := rootA_len (256 - dn) dn (dgs m)
      replace H := mK [0, 1, 4, 5] 1 0 hN hR H
      refine mW ?_; clear H; intro a w H
      refine mCall [] [] (hs) H ?_; clear H; intro a w H; try refine wpList_nil ?_
      refine mW ?_; clear H; intro a w H
      refine mC H (fun hb => ?_) (fun hb => ?_)
      · simp at hb
      · clear hb
        replace H := mK [1, 4, 5, 6] 1 0 hN hR H
        by_cases h1 : 1 < l.length
        · have g0 := prA_get m 0 (by omega)
          have g1 := prA_get m (l.length - 1) (by omega)
          have q0 := hsk _ (List.getElem_mem (show 0 < m.length by omega))
          have q1 := hsk _ (List.getElem_mem (show l.length - 1 < m.length by omega))
          have hen : endsP m = com m[0].1 (m[l.length - 1]'(by omega)).1 := by
            have e1 : m.getD 0 ([], []) = m[0] := by simp [List.getD_eq_getElem?_getD, show 0 < m.length by omega]
            have e2 : m.getD (l.length - 1) ([], []) = m[l.length - 1]'(by omega) := by simp [List.getD_eq_getElem?_getD, show l.length - 1 < m.length by omega]
            unfold endsP
            rw [show m.length - 1 = l.length - 1 by omega, e1, e2]
          have hcm := common_v _ _ q0 q1
          rw [← hen] at hcm
          have hti : ((l.length : Int) - 1).toNat = l.length - 1 := by omega
          have hdt : decide ((1 : Int) < (l.length : Int)) = true := by simp; omega
          generalize m[0] = p0 at *
          generalize m[l.length - 1]'(by omega) = p1 at *
          obtain ⟨k0, v0⟩ := p0
          obtain ⟨k1, v1⟩ := p1
          dsimp only at g0 g1 q0 q1 hcm
          have hX := And.intro @hml (And.intro @g0 (And.intro @g1 (And.intro @hti (@hdt))))
          refine mS ?_; refine mD 0 [15] [16] H ?_; clear H; intro gS H
          refine mTN 6 hN H ?_; clear H; intro a w H; simp only [List.drop_succ_cons, List.drop_zero, List.drop_nil]
          replace H := v_knownT H 27 true (by rfl)
          simp only [unG, gdEq, Nat.reduceBEq, cond_true, cond_false] at H
          replace H := ntf H
          refine mTN 7 hN H ?_; clear H; intro a w H; simp only [List.drop_succ_cons, List.drop_zero, List.drop_nil]
          refine mTN 2 hN H ?_; clear H; intro a w H; simp only [List.drop_succ_cons, List.drop_zero, List.drop_nil]
          replace H := v_knownT H 27 true (by rfl)
          simp only [unG, gdEq, Nat.reduceBEq, cond_true, cond_false] at H
          replace H := ntf H
          refine v_guardT H (by rfl) (by rfl) (by rfl) ?_
          refine mCallT [] [] (hcm) H ?_; clear H; intro a w H
          refine mT ?_; clear H; intro a w H
          refine v_drawNil H ?_; clear H; intro H
          refine mC H (fun hb => ?_) (fun hb => ?_)
          · rw [if_pos ⟨h1, by simpa using hb⟩]
            refine mW ?_; clear H; intro a w H
            refine wp_ret ?_; exact mEnd [] [] [.cell 4 27, .tmp 5] [_, _] hN hR H
          · have hnb : ¬ ((endsP m : Int) < (dn : Int)) := by simpa using hb
            rw [if_neg (fun h => hnb h.2)]
            have hrt := hroot (.inr (by omega))
            clear hb hroot
            generalize rootA (256 - dn) dn (dgs m) = r at *
            clear hX; have hX := @hrl
            refine mW ?_; clear H; intro a w H
            refine mCall [] [] (hrt) H ?_; clear H; intro a w H; try refine wpList_nil ?_
            refine mW ?_; clear H; intro a w H
            refine wp_ret ?_; exact mEnd [] [] [.cell 4 27, .tmp 5] [_, _] hN hR H
        · rw [if_neg (fun h => h1 h.1)]
          have hrt := hroot (.inl (by omega))
          clear hroot
          generalize rootA (256 - dn) dn (dgs m) = r at *
          have hdt : decide ((1 : Int) < (l.length : Int)) = false := by simp; omega
          have hX := And.intro @hml (And.intro @hdt (@hrl))
          refine mS ?_; refine mD 0 [15] [16] H ?_; clear H; intro gS H
          refine mTN 4 hN H ?_; clear H; intro a w H; simp only [List.drop_succ_cons, List.drop_zero, List.drop_nil]
          refine mSkT (.v (.bool false)) H ?_; clear H; intro a w H
          refine mSkT (.v (.bool false)) H ?_; clear H; intro a w H
          refine mSkT (.v (.bool false)) H ?_; clear H; intro a w H
          refine mSkT (.v (.bool false)) H ?_; clear H; intro a w H
          refine mSkT (.v (.bool false)) H ?_; clear H; intro a w H
          refine mSkT (.v (.bool false)) H ?_; clear H; intro a w H
          refine mSkT (.v (.bool false)) H ?_; clear H; intro a w H
          refine mSkT (.v (.bool false)) H ?_; clear H; intro a w H
          refine mSkT (.v (.bool false)) H ?_; clear H; intro a w H
          refine mSkT (.v (.bool false)) H ?_; clear H; intro a w H
          refine mSkT (.v (.bool false)) H ?_; clear H; intro a w H
          refine mSkT (.v (.bool false)) H ?_; clear H; intro a w H
          refine mSkT (.v (.bool false)) H ?_; clear H; intro a w H
          refine mSkT (.v (.bool false)) H ?_; clear H; intro a w H
          refine mT ?_; clear H; intro a w H
          refine v_drawNil H ?_; clear H; intro H
          refine mC H (fun hb => ?_) (fun hb => ?_)
          · cases hb
          · refine mW ?_; clear H; intro a w H
            refine mCall [] [] (hrt) H ?_; clear H; intro a w H; try refine wpList_nil ?_
            refine mW ?_; clear H; intro a w H
            refine wp_ret ?_; exact mEnd [] [] [.cell 4 27, .tmp 5] [_, _] hN hR H
  · have hr : resP l = .tup [.sl prT [] none, .v (.int .i64 (errP l : Int))] := by unfold resP; rw [if_neg he]
    rw [hr] at hs
    have hro : rootE l d = if d < 0 ∨ 256 < d then (z32, 2) else (z32, errP l) := by unfold rootE; rw [if_pos (show errP l ≠ 0 from he)]
    rw [hro]
    generalize errP l = er at *
    refine mE Try.func40 ?_; intro N w0 a w hN hR H
    refine mW ?_; clear H; intro a w H
    refine mC H (fun hb => ?_) (fun hb => ?_)
    · have hd : d < 0 ∨ 256 < d := by
        by_cases h0 : d < 0
        · exact .inl h0
        · right; simpa [h0] using hb
      rw [if_pos hd]
      refine mW ?_; clear H; intro a w H
      refine wp_ret ?_; exact mEnd [] [] [.cell 4 27, .tmp 5] [_, _] hN hR H
    · have hd : ¬ (d < 0 ∨ 256 < d) := by
        rintro (h | h)
        · simp [h] at hb
        · by_cases h0 : d < 0
          · simp [h0] at hb
          · simp [h0] at hb; omega
      rw [if_neg hd]
      clear hb
      replace H := mK [0, 1, 4, 5] 1 0 hN hR H
      refine mW ?_; clear H; intro a w H
      refine mCall [] [] (hs) H ?_; clear H; intro a w H; try refine wpList_nil ?_
      refine mW ?_; clear H; intro a w H
      refine mC H (fun hb => ?_) (fun hb => ?_)
      · refine mW ?_; clear H; intro a w H
        refine wp_ret ?_; exact mEnd [] [] [.cell 4 27, .tmp 5] [_, _] hN hR H
      · simp at hb; omega
theorem nroot0_v (l : List Pr) (hk : K32 l) (hl : l.length ≤ 34359730000) : VC Try.prog 38 [.sl prT (l.map prA) none] [] (.tup [.ba (rootE l 0).1, .v (.int .i64 ((rootE l 0).2 : Int))]) := by
  have hs := nrootAt_v l hk hl 0
  have h32 : (rootE l 0).1.length = 32 := by
    unfold rootE; (repeat' split) <;> first | exact rootA_len _ _ _ | exact List.length_replicate ..
  generalize rootE l 0 = r at *
  refine mE Try.func38 ?_; intro N w0 a w hN hR H
  have hX := @h32
  refine mW ?_; clear H; intro a w H
  refine mCall [] [] (hs) H ?_; clear H; intro a w H; try refine wpList_nil ?_
  refine mW ?_; clear H; intro a w H
  refine wp_ret ?_; exact mEnd [] [] [.cell 2 27, .tmp 3] [_, _] hN hR H
end Go.Proofs.Ythphhnkoilcofaa
/- Rows of slices turned round in place; regions in every order of their loud operations. -/
namespace Go.Proofs.Ythphhnkoilcofaa
open Go Go.RowKit
abbrev OneV := { v : Value // v.oneCell' = true }
instance : Inhabited OneV := ⟨⟨.bool false, rfl⟩⟩
end Go.Proofs.Ythphhnkoilcofaa
namespace Go.Proofs.Ythphhnkoilcofaa
open Go Go.RowKit
/-- Values that lean on no cell but bytes. -/
def leafA : AV → Bool
  | .v _ => true
  | .ba _ => true
  | .bs _ none => true
  | .bc _ _ none => true
  | .ptr _ _ => true
  | .pti _ _ _ => true
  | .win _ _ _ _ => true
  | .vw _ _ _ => true
  | .pv _ _ _ _ => true
  | .mr _ => true
  | .ref (.ba _) (.ba _) => true
  | .any => true
  | _ => false
def plainA : Nat → AV → Bool
  | d + 1, .st fs => fs.all (plainA d)
  | d + 1, .tup fs => fs.all (plainA d)
  | _, a => leafA a
theorem RC.plain {g g2 : Gh} (hro : ∀ b o c, g.ro b o = some (B8 c) → g2.ro b o = some (B8 c)) (hbx : g2.bx = g.bx) : ∀ {d : Nat} {T : Ty} {a : AV} {cs : List Value}, RC g T a cs → plainA d a = true → RC g2 T a cs := by
  intro d
  have leaf : ∀ {T : Ty} {a : AV} {cs : List Value}, RC g T a cs → leafA a = true → RC g2 T a cs := by
    intro T a cs h hp
    cases h with
    | v h => exact .v h
    | ba h => exact .ba h
    | nl => simp [leafA] at hp
    | cn h hs => simp [leafA] at hp
    | bs hc hm hr ht =>
      rename_i l tok A c
      cases tok with
      | some j => simp [leafA] at hp
      | none =>
        refine .bs hc hm ?_ fun i hi => by cases hi
        rcases hr with h | ⟨b, o, hA, hj⟩
        · exact .inl h
        · exact .inr ⟨b, o, hA, fun j hj' => hro _ _ _ (hj j hj')⟩
    | sl hc hm F hr hv ht => simp [leafA] at hp
    | ptr h ho => exact .ptr (by rw [hbx]; exact h) ho
    | pti h ho hk => exact .pti (by rw [hbx]; exact h) ho hk
    | win h ho hn hc hm hA => exact .win (by rw [hbx]; exact h) ho hn hc hm hA
    | vw h hT hg hn hm hx => exact .vw (by rw [hbx]; exact h) hT hg hn hm hx
    | pv h hT hg ho hx => exact .pv (by rw [hbx]; exact h) hT hg ho hx
    | mr h hT => exact .mr (by rw [hbx]; exact h) hT
    | bc hn hm hr ht =>
      rename_i l n tok A
      cases tok with
      | some j => simp [leafA] at hp
      | none =>
        refine .bc hn hm ?_ fun i hi => by cases hi
        rcases hr with h | ⟨b, o, hA, hj⟩
        · exact .inl h
        · exact .inr ⟨b, o, hA, fun j hj' => hro _ _ _ (hj j hj')⟩
    | ref cs h hr =>
      cases h with
      | ba h =>
        rename_i n l
        refine .ref (l.map B8) (.ba h) fun j u hu => ?_
        have := hr j u hu
        simp only [List.getElem?_map, Option.map_eq_some_iff] at hu
        obtain ⟨c, _, rfl⟩ := hu
        exact hro _ _ _ this
      | _ => simp [leafA] at hp
  induction d with
  | zero => exact fun {T a cs} h hp => leaf h (by cases a <;> exact hp)
  | succ d ih =>
    intro T a cs h hp
    have key : ∀ {T : Ty} {cs : List Value} {fs : List AV}, RC g T (.st fs) cs → fs.all (plainA d) = true → RC g2 T (.st fs) cs := by
      intro T
      induction T with
      | cn T Ts _ ihs =>
        intro cs fs h hp
        cases h with
        | cn h hs =>
          simp only [List.all_cons, Bool.and_eq_true] at hp
          exact .cn (ih h hp.1) (ihs hs hp.2)
      | nl => intro cs fs h hp; cases h; exact .nl
      | _ => intro cs fs h hp; cases h
    cases a with
    | st fs => exact key h hp
    | tup fs => cases h
    | _ =>
      exact leaf h hp
theorem BC.plain {g g2 : Gh} (hro : ∀ b o c, g.ro b o = some (B8 c) → g2.ro b o = some (B8 c)) (hbx : g2.bx = g.bx) {d : Nat} {T : Ty} {a : AV} {x : Bx} (h : BC g T a x) (hp : plainA d a = true) : BC g2 T a x := by
  obtain ⟨h1, h2, h3⟩ := h.rc_of (fun _ _ e => by subst e; cases d <;> simp [plainA, leafA] at hp) (fun _ _ e => by subst e; cases d <;> simp [plainA, leafA] at hp) (fun _ _ e => by subst e; cases d <;> simp [plainA, leafA] at hp)
  exact .pl (h3.plain hro hbx hp) h1 h2
theorem RV.plain {g g2 : Gh} (hro : ∀ b o c, g.ro b o = some (B8 c) → g2.ro b o = some (B8 c)) (hbx : g2.bx = g.bx) {d : Nat} {a : AV} {u : Value} (h : RV g a u) (hp : plainA (d + 1) a = true) : RV g2 a u := by
  have one : ∀ {d : Nat} {a : AV} {u : Value}, RV1 g a u → plainA d a = true → RV1 g2 a u := fun {d a u} h hp => by
    rcases h with ⟨T, cs, h1, h2, h3⟩ | h
    · exact .inl ⟨T, cs, h1, h2.plain hro hbx hp, h3⟩
    · exact .inr (h.plain hro hbx hp)
  cases a with
  | any => trivial
  | tup az =>
    obtain ⟨vs, h1, h2, h3⟩ := h
    exact ⟨vs, h1, h2, fun i a u ha hu => one (h3 i a u ha hu) (List.all_eq_true.1 hp a (List.mem_of_getElem? ha))⟩
  | _ => exact (one (show RV1 g _ u from h) hp).rv
end Go.Proofs.Ythphhnkoilcofaa
namespace Go.Proofs.Ythphhnkoilcofaa
open Go
section
variable {P : Program} {ops : Array Oper} {Q : Exit → Act → World → Prop} {S : World → Prop} {L A : List Nat}
/-- Where an operation stands in an order of one's own. -/
def rk (ord : List Nat) (i : Nat) : Nat := ord.idxOf i
def chkO (ops : Array Oper) (ord : List Nat) : Bool :=
  ord.length == ops.size && ord.all (fun i => decide (i < ops.size)) && (List.range ops.size).all (fun i => ord.contains i) && (List.range ord.length).all (fun p => match ord[p]? with | some x => rk ord x == p | none => false) &&
    (List.range ops.size).all fun j => (match ops[j]? with | some o => o.after.all fun e => !Region.binds .any e || decide (rk ord e.on < rk ord j) | none => true)
structure OrdOk (ops : Array Oper) (ord : List Nat) : Prop where
  len : ord.length = ops.size
  lt : ∀ i ∈ ord, i < ops.size
  mem : ∀ i, i < ops.size → i ∈ ord
  pos : ∀ p (h : p < ord.length), rk ord ord[p] = p
  edge : ∀ j o, ops[j]? = some o → ∀ e ∈ o.after, Region.binds .any e = true → rk ord e.on < rk ord j
theorem chkO_ok {ops : Array Oper} {ord : List Nat} (h : chkO ops ord = true) : OrdOk ops ord := by
  simp only [chkO, Bool.and_eq_true, beq_iff_eq, List.all_eq_true, decide_eq_true_eq, List.mem_range, List.contains_eq_mem] at h
  obtain ⟨⟨⟨⟨h1, h2⟩, h3⟩, h4⟩, h5⟩ := h
  refine ⟨h1, h2, h3, fun p hp => ?_, fun j o hj e he hb => ?_⟩
  · have := h4 p hp; rw [List.getElem?_eq_getElem hp] at this; simpa using this
  · have := h5 j (Array.getElem?_eq_some_iff.1 hj).1
    rw [hj] at this
    have := (Array.all_eq_true_iff_forall_mem.1 this) e he
    simpa [hb] using this
theorem OrdOk.inj {ops : Array Oper} {ord : List Nat} (h : OrdOk ops ord) {i j : Nat} (hi : i < ops.size) (hj : j < ops.size) (e : rk ord i = rk ord j) : i = j := by
  have h1 := List.getElem_idxOf (List.idxOf_lt_length_of_mem (h.mem i hi))
  have h2 := List.getElem_idxOf (List.idxOf_lt_length_of_mem (h.mem j hj))
  unfold rk at e
  rw [← h1, ← h2]
  simp only [e]
def chkZ (ops : Array Oper) (pre : Array Nat) (ord L A : List Nat) : Bool :=
  (List.range ops.size).all fun j => (List.range ops.size).all fun i => !decide (rk ord i < rk ord j) || ((pre.getD j 0).testBit i || (!(L.contains i && L.contains j) && (!L.contains j || A.contains i) && (!L.contains i || A.contains j)) ||
    (L.contains i && L.contains j && (match ops[j]? with | some o => o.after.all fun e => !Region.binds .any e || (decide (rk ord e.on < rk ord i) || L.contains e.on) | none => true)))
/-- Two that wait for nothing: they change places, or both are loud and the later one waits for nothing but what stands ahead of the other. -/
theorem pair_Z {pre : Array Nat} {ord : List Nat} (hf : Fine ops pre [] []) (hz : chkZ ops pre ord L A = true) {listed : Array Bool} (hd : Down ops listed) {i j : Nat} (hi : i ∈ Region.ready .any ops listed) (hj : j ∈ Region.ready .any ops listed) (hij : rk ord i < rk ord j) :
    ∃ oi oj, ops[i]? = some oi ∧ ops[j]? = some oj ∧ oi.apart ops oj = true ∧ oj.apart ops oi = true ∧
      ((¬ (L.contains i = true ∧ L.contains j = true) ∧ (L.contains j = true → A.contains i = true) ∧ (L.contains i = true → A.contains j = true)) ∨
       (L.contains i = true ∧ L.contains j = true ∧ ∀ e ∈ oj.after, Region.binds .any e = true → rk ord e.on < rk ord i ∨ L.contains e.on = true)) := by
  obtain ⟨oi, oj, hoi, hoj, g1, g2, _⟩ := pair_of_ready hf hd hi hj (by rintro rfl; omega)
  refine ⟨oi, oj, hoi, hoj, g1, g2, ?_⟩
  have unl : ∀ k, listed.getD k true = false → listed.getD k false = true → False := by
    intro k h1 h2
    rcases Nat.lt_or_ge k listed.size with h' | h'
    · simp [h'] at h1 h2; rw [h1] at h2; cases h2
    · simp [Array.getElem?_eq_none h'] at h1
  obtain ⟨hiu, _⟩ := mem_ready.1 hi
  obtain ⟨_, oj', hoj', hallj⟩ := mem_ready.1 hj
  rw [hoj] at hoj'; injection hoj' with hoj'; subst hoj'
  have nij : (pre.getD j 0).testBit i = false := by
    cases ht : (pre.getD j 0).testBit i
    · rfl
    · exact (unl i hiu (pre_listed hf hd j oj hoj hallj i ht)).elim
  simp only [chkZ, List.all_eq_true, List.mem_range] at hz
  have h1 := hz j (Array.getElem?_eq_some_iff.1 hoj).1 i (Array.getElem?_eq_some_iff.1 hoi).1
  rw [nij, hoj, decide_eq_true hij] at h1
  simp only [Bool.not_true, Bool.false_or, Bool.or_eq_true, Bool.and_eq_true] at h1
  rcases h1 with ⟨⟨g1, g2⟩, g3⟩ | ⟨⟨g1, g2⟩, g3⟩
  · refine .inl ⟨fun ⟨x, y⟩ => ?_, fun x => ?_, fun x => ?_⟩
    · rw [x, y] at g1; cases g1
    · rw [x] at g2; simpa using g2
    · rw [x] at g3; simpa using g3
  · refine .inr ⟨g1, g2, fun e he hb => ?_⟩
    have := (Array.all_eq_true_iff_forall_mem.1 g3) e he
    simpa [hb] using this
theorem tOp_all {ι : Type} {p : ι → Prop} {j : Nat} {oj : Oper} {a : Act} {w : World} {K : ι → Act → World → Prop} (hi : ops[j]? = some oj) (hL : ¬ L.contains j = true) (hA : A.contains j = true) (hS : S w) (m0 : ι) (h0 : p m0) (h : ∀ m, p m → tOp P ops S L A j (K m) a w) :
    tOp P ops S L A j (fun a w => ∀ m, p m → K m a w) a w := by
  have h1 := h m0 h0
  unfold tOp at h1 ⊢
  simp only [hi] at h1 ⊢
  by_cases hw : Region.wanted oj (yielded ops a.tmps) = true
  · rw [if_pos hw, if_neg hL] at h1 ⊢
    obtain ⟨v, e1, e2, _⟩ := h1
    refine ⟨v, e1, e2, fun m hm => ?_⟩
    have h2 := h m hm
    unfold tOp at h2
    simp only [hi] at h2
    rw [if_pos hw, if_neg hL] at h2
    obtain ⟨u, f1, f2, f3⟩ := h2
    have := Vr.uniq (e2 hA w hS) (f2 hA w hS)
    subst this
    exact f3
  · rw [if_neg hw] at h1 ⊢
    intro m hm
    have h2 := h m hm
    unfold tOp at h2
    simp only [hi] at h2
    rw [if_neg hw] at h2
    exact h2
/-- A quiet operation at the head: it may come up now. -/
theorem ready_lt {listed : Array Bool} {i : Nat} (h : i ∈ Region.ready .any ops listed) : i < ops.size := by
  obtain ⟨_, o, h, _⟩ := mem_ready.1 h; exact (Array.getElem?_eq_some_iff.1 h).1
theorem tAny_quiet {pre : Array Nat} {ord : List Nat} (ho : OrdOk ops ord) (hf : Fine ops pre [] []) (hz : chkZ ops pre ord L A = true) {i : Nat} (hL : ¬ L.contains i = true) : ∀ (fuel : Nat) (listed : Array Bool) (a : Act) (w : World), Down ops listed → i ∈ Region.ready .any ops listed → S w →
    tOp P ops S L A i (tAny P ops Q S L A fuel (listed.setIfInBounds i true)) a w → tAny P ops Q S L A (fuel + 1) listed a w := by
  intro fuel
  induction fuel with
  | zero =>
    intro listed a w hd hr hS H
    refine ⟨fun h => (by rw [h] at hr; cases hr), fun j hj => ?_⟩
    by_cases hji : j = i
    · subst hji; exact H
    · have := ready_mono hj hji
      obtain ⟨a', w', h⟩ := tOp_some H
      rw [h.1] at this
      cases this
  | succ fuel ih =>
    intro listed a w hd hr hS H
    refine ⟨fun h => (by rw [h] at hr; cases hr), fun j hj => ?_⟩
    by_cases hji : j = i
    · subst hji; exact H
    · have hp : ∃ oi oj, ops[i]? = some oi ∧ ops[j]? = some oj ∧ oi.apart ops oj = true ∧ oj.apart ops oi = true ∧ ¬ (L.contains i = true ∧ L.contains j = true) ∧ (L.contains j = true → A.contains i = true) ∧ (L.contains i = true → A.contains j = true) := by
        rcases Nat.lt_or_gt_of_ne (fun e => hji (ho.inj (ready_lt hj) (ready_lt hr) e)) with h | h
        · obtain ⟨oj, oi, hoj, hoi, g1, g2, g3⟩ := pair_Z hf hz hd hj hr h
          rcases g3 with ⟨k1, k2, k3⟩ | ⟨_, k, _⟩
          · exact ⟨oi, oj, hoi, hoj, g2, g1, fun ⟨x, y⟩ => k1 ⟨y, x⟩, k3, k2⟩
          · exact absurd k hL
        · obtain ⟨oi, oj, hoi, hoj, g1, g2, g3⟩ := pair_Z hf hz hd hr hj h
          rcases g3 with ⟨k1, k2, k3⟩ | ⟨k, _⟩
          · exact ⟨oi, oj, hoi, hoj, g1, g2, k1, k2, k3⟩
          · exact absurd k hL
      obtain ⟨oi, oj, hoi, hoj, g1, g2, g3, g4, g5⟩ := hp
      have H2 : tOp P ops S L A i (tOp P ops S L A j (tAny P ops Q S L A fuel ((listed.setIfInBounds i true).setIfInBounds j true))) a w :=
        tOp_mono hS (fun a w _ h => h.2 j (ready_mono hj hji)) H
      have H3 := tOp_swap hoi hoj g1 g2 (fun cs b => hf.sel i oi cs b hoi) (fun cs b => hf.sel j oj cs b hoj) g3 g4 g5 hS H2
      refine tOp_mono hS (fun a' w' _ h => ?_) H3
      refine ih (listed.setIfInBounds j true) a' w' (down_set hd hj) (ready_mono hr (Ne.symm hji)) h.1 ?_
      rw [Array.setIfInBounds_comm _ _ hji]
      exact h.2
/-- A loud operation at the head: whichever loud one comes up first. -/
theorem tAny_loud {pre : Array Nat} {ord : List Nat} (ho : OrdOk ops ord) (hf : Fine ops pre [] []) (hz : chkZ ops pre ord L A = true) {i : Nat} (hL : L.contains i = true) : ∀ (fuel : Nat) (listed : Array Bool) (a : Act) (w : World), Down ops listed → (∀ j, j < ops.size → rk ord j < rk ord i → listed.getD j false = true) → i ∈ Region.ready .any ops listed → S w →
    (∀ m, (m ∈ Region.ready .any ops listed ∧ L.contains m = true) → tOp P ops S L A m (tAny P ops Q S L A fuel (listed.setIfInBounds m true)) a w) → tAny P ops Q S L A (fuel + 1) listed a w := by
  intro fuel
  induction fuel with
  | zero =>
    intro listed a w hd hlow hr hS H
    refine ⟨fun h => (by rw [h] at hr; cases hr), fun j hj => ?_⟩
    by_cases hji : j = i
    · subst hji; exact H j ⟨hj, hL⟩
    · have := ready_mono hj hji
      obtain ⟨a', w', h⟩ := tOp_some (H i ⟨hr, hL⟩)
      rw [h.1] at this
      cases this
  | succ fuel ih =>
    intro listed a w hd hlow hr hS H
    refine ⟨fun h => (by rw [h] at hr; cases hr), fun j hj => ?_⟩
    by_cases hLj : L.contains j = true
    · exact H j ⟨hj, hLj⟩
    · have hall : ∀ m, (m ∈ Region.ready .any ops listed ∧ L.contains m = true) → ∃ om oj, ops[m]? = some om ∧ ops[j]? = some oj ∧ om.apart ops oj = true ∧ oj.apart ops om = true ∧ A.contains j = true := fun m hm => by
        have hmj : m ≠ j := fun e => hLj (e ▸ hm.2)
        rcases Nat.lt_or_gt_of_ne (fun e => hmj (ho.inj (ready_lt hm.1) (ready_lt hj) e)) with h | h
        · obtain ⟨om, oj, k1, k2, k3, k4, k5⟩ := pair_Z hf hz hd hm.1 hj h
          rcases k5 with ⟨_, _, k7⟩ | ⟨_, k, _⟩
          · exact ⟨om, oj, k1, k2, k3, k4, k7 hm.2⟩
          · exact absurd k hLj
        · obtain ⟨oj, om, k1, k2, k3, k4, k5⟩ := pair_Z hf hz hd hj hm.1 h
          rcases k5 with ⟨_, k6, _⟩ | ⟨k, _⟩
          · exact ⟨om, oj, k2, k1, k4, k3, k6 hm.2⟩
          · exact absurd k hLj
      obtain ⟨_, oj, _, hoj, _, _, hAj⟩ := hall i ⟨hr, hL⟩
      have B : ∀ m, (m ∈ Region.ready .any ops listed ∧ L.contains m = true) → tOp P ops S L A j (fun a w => S w ∧ tOp P ops S L A m (tAny P ops Q S L A fuel ((listed.setIfInBounds m true).setIfInBounds j true)) a w) a w := fun m hm => by
        have hmj : j ≠ m := fun e => hLj (e ▸ hm.2)
        obtain ⟨om, oj', hom, hoj', g1, g2, _⟩ := hall m hm
        rw [hoj] at hoj'; injection hoj' with hoj'; subst hoj'
        have H2 : tOp P ops S L A m (tOp P ops S L A j (tAny P ops Q S L A fuel ((listed.setIfInBounds m true).setIfInBounds j true))) a w :=
          tOp_mono hS (fun a w _ h => h.2 j (ready_mono hj hmj)) (H m hm)
        exact tOp_swap hom hoj g1 g2 (fun cs b => hf.sel m om cs b hom) (fun cs b => hf.sel j oj cs b hoj) (fun ⟨_, y⟩ => hLj y) (fun y => absurd y hLj) (fun _ => hAj) hS H2
      refine tOp_mono hS (fun a' w' hS' h => ?_) (tOp_all hoj hLj hAj hS i ⟨hr, hL⟩ B)
      have hji : j ≠ i := fun e => hLj (e ▸ hL)
      refine ih (listed.setIfInBounds j true) a' w' (down_set hd hj) (fun k hks hk => by
        by_cases e : j = k
        · subst e; exact getD_set_true (hlow _ hks hk)
        · rw [getD_set_ne false e]; exact hlow k hks hk) (ready_mono hr (Ne.symm hji)) hS' fun m hm => ?_
      have hmj : j ≠ m := fun e => hLj (e ▸ hm.2)
      have hmr : m ∈ Region.ready .any ops listed := by
        by_cases hmi : m = i
        · subst hmi; exact hr
        · have hd' := down_set hd hj
          have hri := ready_mono hr (Ne.symm hji)
          rcases Nat.lt_or_gt_of_ne (fun e => hmi (ho.inj (ready_lt hm.1) (ready_lt hr) e)) with h | h
          · exfalso
            refine unlisted hm.1 ?_
            rw [getD_set_ne false hmj]
            exact hlow m (ready_lt hm.1) h
          · obtain ⟨_, om, _, hom, _, _, k5⟩ := pair_Z hf hz hd' hri hm.1 h
            rcases k5 with ⟨k, _⟩ | ⟨_, _, k⟩
            · exact absurd ⟨hL, hm.2⟩ k
            · obtain ⟨q1, om', q2, _⟩ := mem_ready.1 hm.1
              rw [hom] at q2; injection q2 with q2; subst q2
              rw [getD_set_ne true hmj] at q1
              obtain ⟨_, om', q3, q4⟩ := mem_ready.1 hm.1
              rw [hom] at q3; injection q3 with q3; subst q3
              refine mem_ready.2 ⟨q1, om, hom, fun e he hb => ?_⟩
              rcases k e he hb with k | k
              · exact hlow _ (Nat.lt_trans (hf.edge m _ hom e he hb) (ready_lt hm.1)) k
              · have q5 := q4 e he hb
                have hne : j ≠ e.on := fun hh => hLj (hh ▸ k)
                rwa [getD_set_ne _ hne] at q5
      rw [Array.setIfInBounds_comm _ _ hmj]
      exact (h m ⟨hmr, hm.2⟩).2
/-- Which loud operations may come up ahead of i: (i, m) in U; but not as long as one is open that m waits for: (m + 1000, j) in U. -/
def altZ (U : List (Nat × Nat)) (i : Nat) (rest : List Nat) : List Nat := rest.filter fun m => U.contains (i, m) && rest.all fun j => !U.contains (m + 1000, j)
/-- The walk in every order of the loud operations; U: those pairs that wait for nothing. -/
def wpZ (P : Program) (ops : Array Oper) (Q : Exit → Act → World → Prop) (S : World → Prop) (L A : List Nat) (U : List (Nat × Nat)) : Nat → List Nat → Act → World → Prop
  | 0, _, a, w => Q .normal a w
  | _ + 1, [], a, w => Q .normal a w
  | n + 1, i :: rest, a, w => if L.contains i then ∀ m ∈ i :: altZ U i rest, tOp P ops S L A m (wpZ P ops Q S L A U n ((i :: rest).erase m)) a w
      else tOp P ops S L A i (wpZ P ops Q S L A U n rest) a w
def chkU (ops : Array Oper) (pre : Array Nat) (ord L : List Nat) (U : List (Nat × Nat)) : Bool :=
  ((List.range ops.size).all fun j => (List.range ops.size).all fun i => !decide (rk ord i < rk ord j) || (pre.getD j 0).testBit i || !(L.contains i && L.contains j) || U.contains (i, j)) && U.all fun p => decide (p.1 < 1000) || (pre.getD (p.1 - 1000) 0).testBit p.2
theorem wpZ_any {pre : Array Nat} {ord : List Nat} {U : List (Nat × Nat)} (ho : OrdOk ops ord) (hf : Fine ops pre [] []) (hz : chkZ ops pre ord L A = true) (hu : chkU ops pre ord L U = true) : ∀ (n : Nat) (pend : List Nat) (listed : Array Bool) (a : Act) (w : World), pend.length = n → pend.Pairwise (rk ord · < rk ord ·) → (∀ m ∈ pend, m < ops.size) → listed.size = ops.size →
    (∀ i, i < ops.size → ∀ d, listed.getD i d = !pend.contains i) → Down ops listed → S w → wpZ P ops Q S L A U n pend a w → tAny P ops Q S L A n listed a w := by
  intro n
  induction n with
  | zero =>
    intro pend listed a w hl hp hb hsz hli hd hS h
    obtain rfl : pend = [] := List.length_eq_zero_iff.1 hl
    exact tAny_nil (fun i hi d => by rw [hli i hi d]; rfl) h
  | succ n ih =>
    intro pend listed a w hl hp hb hsz hli hd hS h
    match pend, hl with
    | i :: rest, hl =>
      have hl' : rest.length = n := by simpa using hl
      obtain ⟨hp1, hp2⟩ := List.pairwise_cons.1 hp
      have hilt := hb i List.mem_cons_self
      have hlow : ∀ j, j < ops.size → rk ord j < rk ord i → listed.getD j false = true := fun j hjs hj => by
        rw [hli j hjs false]
        simp only [Bool.not_eq_true', List.contains_eq_mem, decide_eq_false_iff_not, List.mem_cons, not_or]
        exact ⟨by rintro rfl; omega, fun e => by have := hp1 j e; omega⟩
      have hri : i ∈ Region.ready .any ops listed := by
        refine mem_ready.2 ⟨by rw [hli i hilt true]; simp, _, Array.getElem?_eq_getElem hilt, fun e he hb => hlow _ (Nat.lt_trans (hf.edge i _ (Array.getElem?_eq_getElem hilt) e he hb) hilt) (ho.edge i _ (Array.getElem?_eq_getElem hilt) e he hb)⟩
      have next : ∀ m, m ∈ Region.ready .any ops listed → m ∈ i :: rest → ∀ a w, S w → wpZ P ops Q S L A U n ((i :: rest).erase m) a w → tAny P ops Q S L A n (listed.setIfInBounds m true) a w := fun m hmr hm a w hS h => by
        refine ih _ _ a w (by rw [List.length_erase_of_mem hm, hl]; rfl) (hp.sublist List.erase_sublist) (fun x hx => hb x (List.mem_of_mem_erase hx)) (by simpa using hsz) (fun x hx d => ?_) (down_set hd hmr) hS h
        have hnd : (i :: rest).Nodup := hp.imp (fun {a b} h => by rintro rfl; omega)
        by_cases e : m = x
        · subst e
          have h1 : (listed.setIfInBounds m true).getD m d = true := by simp [hsz, hx]
          rw [h1]
          simp [List.contains_eq_mem, hnd.mem_erase_iff]
        · rw [getD_set_ne d e, hli x hx d]
          congr 1
          simp only [List.contains_eq_mem, hnd.mem_erase_iff]
          have : x ≠ m := fun h => e h.symm
          simp [this]
      unfold wpZ at h
      by_cases hL : L.contains i = true
      · rw [if_pos hL] at h
        refine tAny_loud ho hf hz hL n listed a w hd hlow hri hS fun m hm => ?_
        have hmp : m ∈ i :: rest := by
          obtain ⟨q1, om, q2, _⟩ := mem_ready.1 hm.1
          have := hli m (Array.getElem?_eq_some_iff.1 q2).1 true
          rw [q1] at this
          have hc : (i :: rest).contains m = true := by
            cases hq : (i :: rest).contains m
            · rw [hq] at this; cases this
            · rfl
          simpa [List.contains_eq_mem] using hc
        have hmc : m ∈ i :: altZ U i rest := by
          rcases List.mem_cons.1 hmp with rfl | hmr
          · exact List.mem_cons_self
          · refine List.mem_cons_of_mem _ (List.mem_filter.2 ⟨hmr, ?_⟩)
            have him := hp1 m hmr
            simp only [chkU, Bool.and_eq_true, List.all_eq_true, List.mem_range] at hu
            obtain ⟨hu, hu2⟩ := hu
            have h1 := hu m (hb m hmp) i hilt
            have h2 : (rest.all fun j => !U.contains (m + 1000, j)) = true := by
              refine List.all_eq_true.2 fun j hj => ?_
              cases hc : U.contains (m + 1000, j) with
              | false => rfl
              | true =>
                have h3 := hu2 (m + 1000, j) (by simpa [List.contains_eq_mem] using hc)
                have h4 : ¬ (m + 1000 < 1000) := by omega
                simp only [h4, decide_false, Bool.false_or, Nat.add_sub_cancel] at h3
                obtain ⟨_, om, hom, hall⟩ := mem_ready.1 hm.1
                have h5 := pre_listed hf hd m om hom hall j h3
                have hjb := hb j (List.mem_cons_of_mem _ hj)
                rw [hli j hjb false] at h5
                simp [List.contains_eq_mem, hj] at h5
            rw [decide_eq_true him] at h1
            obtain ⟨_, om, hom, hall⟩ := mem_ready.1 hm.1
            have hn : (pre.getD m 0).testBit i = false := by
              cases ht : (pre.getD m 0).testBit i
              · rfl
              · exact absurd (pre_listed hf hd m om hom hall i ht) (unlisted hri)
            rw [hn, hL, hm.2] at h1
            have h6 : U.contains (i, m) = true := by simpa using h1
            rw [h6, h2]; rfl
        exact tOp_mono hS (fun a' w' hS' hh => next m hm.1 hmp a' w' hS' hh) (h m hmc)
      · rw [if_neg hL] at h
        refine tAny_quiet ho hf hz hL n listed a w hd hri hS ?_
        refine tOp_mono hS (fun a' w' hS' hh => next i hri List.mem_cons_self a' w' hS' ?_) h
        rw [List.erase_cons_head]
        exact hh
theorem wp_region_Z {id : Nat} {a : Act} {w : World} {l : List Oper} (ord L A : List Nat) (U : List (Nat × Nat)) (S : World → Prop) (hm : P.follows .mixedOrders = true) (hc : chk l.toArray (Region.before l.toArray) [] [] = true) (hoc : chkO l.toArray ord = true) (hz : chkZ l.toArray (Region.before l.toArray) ord L A = true) (hu : chkU l.toArray (Region.before l.toArray) ord L U = true)
    (hS : S w.drew) (h : wpZ P l.toArray Q S L A U l.length ord a w.drew) : (Code.region id l.toArray true).wp P Q a w := by
  refine wp_region_any hm (wpAny_of_tAny (L := L) (A := A) (S := S) _ _ _ _ ?_)
  have hsz : l.toArray.size = l.length := by simp
  have ho := chkO_ok hoc
  have hol : ord.length = l.length := ho.len.trans hsz
  have := wpZ_any (P := P) (Q := Q) (S := S) ho (fine_of_chk hc) hz hu l.length ord (Array.replicate l.toArray.size false) a w.drew hol (List.pairwise_iff_getElem.2 fun i j hi hj hij => by rw [ho.pos i hi, ho.pos j hj]; exact hij) ho.lt (by simp)
    (fun i hi d => by
      have hm := ho.mem i hi
      simp only [Array.getD_eq_getD_getElem?, Array.getElem?_replicate, if_pos hi, List.contains_eq_mem]
      simp [hm])
    (fun j o hj hl => by
      have hjl := (Array.getElem?_eq_some_iff.1 hj).1
      simp only [Array.getD_eq_getD_getElem?, Array.getElem?_replicate, if_pos hjl] at hl
      simp at hl) hS h
  rw [hsz]
  exact this
/-- The next operations, in their order. -/
theorem wpZ_seg {U : List (Nat × Nat)} : ∀ (seg : List Oper) (i n : Nat) (rest : List Nat) (a : Act) (w : World), (∀ j, j < seg.length → L.contains (i + j) = false) → (∀ j, j < seg.length → ops[i + j]? = seg[j]?) → wpT P ops (fun _ a w => wpZ P ops Q S L A U n rest a w) S L A seg i a w →
    wpZ P ops Q S L A U (seg.length + n) (List.range' i seg.length ++ rest) a w
  | [], i, n, rest, a, w, _, _, h => by simpa [wpT] using h
  | o :: seg, i, n, rest, a, w, hL, ho, h => by
    have h0 := hL 0 (by simp)
    have o0 := ho 0 (by simp)
    rw [Nat.add_zero] at h0 o0
    have o0 : ops[i]? = some o := by simpa using o0
    rw [List.length_cons, show seg.length + 1 + n = (seg.length + n) + 1 by omega, List.range'_succ, List.cons_append]
    unfold wpZ
    rw [if_neg (by rw [h0]; exact Bool.false_ne_true)]
    have ih := fun a w hh => wpZ_seg (U := U) seg (i + 1) n rest a w (fun j hj => by have := hL (j + 1) (by simp; omega); rwa [show i + 1 + j = i + (j + 1) by omega]) (fun j hj => by have := ho (j + 1) (by simp; omega); rw [show i + 1 + j = i + (j + 1) by omega, this]; simp) hh
    unfold tOp
    simp only [o0]
    unfold wpT at h
    by_cases hw : Region.wanted o (yielded ops a.tmps) = true
    · rw [if_pos hw, if_neg (by rw [h0]; exact Bool.false_ne_true)] at h ⊢
      obtain ⟨v, e1, e2, e3⟩ := h
      exact ⟨v, e1, e2, ih _ _ e3⟩
    · rw [if_neg hw] at h ⊢
      exact ih _ _ h
theorem wpZ_run {U : List (Nat × Nat)} (k : Nat) {i n n' : Nat} {pend pend' : List Nat} {seg : List Oper} {a : Act} {w : World} (hp : pend = List.range' i k ++ pend') (hn : n = k + n') (hs : (ops.toList.drop i).take k = seg) (hk : seg.length = k) (hL : (List.range' i k).all (fun j => !L.contains j) = true)
    (h : wpT P ops (fun _ a w => wpZ P ops Q S L A U n' pend' a w) S L A seg i a w) : wpZ P ops Q S L A U n pend a w := by
  subst hp hn
  have := wpZ_seg (U := U) seg i n' pend' a w (fun j hj => by
    have := List.all_eq_true.1 hL (i + j) (List.mem_range'_1.2 ⟨by omega, by omega⟩)
    simpa using this) (fun j hj => by
    rw [← hs, List.getElem?_take, if_pos (by omega), List.getElem?_drop, Array.getElem?_toList]) h
  rw [hk] at this
  exact this
theorem wpZ_loud {U : List (Nat × Nat)} {i n : Nat} {rest : List Nat} {a : Act} {w : World} (hL : L.contains i = true) (h : ∀ m ∈ i :: altZ U i rest, tOp P ops S L A m (wpZ P ops Q S L A U n ((i :: rest).erase m)) a w) : wpZ P ops Q S L A U (n + 1) (i :: rest) a w := by
  unfold wpZ; rw [if_pos hL]; exact h
theorem wpZ_pick {U : List (Nat × Nat)} {m n : Nat} {pend pend' : List Nat} {o : Oper} {a : Act} {w : World} (he : pend.erase m = pend') (ho : (ops.toList.drop m).head? = some o) (h : wpT P ops (fun _ a w => wpZ P ops Q S L A U n pend' a w) S L A [o] m a w) : tOp P ops S L A m (wpZ P ops Q S L A U n (pend.erase m)) a w := by
  have ho : ops[m]? = some o := by rw [List.head?_drop, Array.getElem?_toList] at ho; exact ho
  rw [he]; unfold tOp; simp only [ho]; exact h
theorem all1 {p : Nat → Prop} {x : Nat} (h : p x) : ∀ m ∈ [x], p m := fun m hm => by simp at hm; subst hm; exact h
theorem wpZ_nil {U : List (Nat × Nat)} {p : List Nat} {a : Act} {w : World} (h : Q .normal a w) : wpZ P ops Q S L A U 0 p a w := h
theorem wpZ_two {U : List (Nat × Nat)} {i n : Nat} {rest cs : List Nat} {a : Act} {w : World} (hL : L.contains i = true) (hc : altZ U i rest = cs) (h : ∀ m ∈ i :: cs, tOp P ops S L A m (wpZ P ops Q S L A U n ((i :: rest).erase m)) a w) : wpZ P ops Q S L A U (n + 1) (i :: rest) a w := by
  subst hc; exact wpZ_loud hL h
theorem all2 {p : Nat → Prop} {x y : Nat} (h : p x ∧ p y) : ∀ m ∈ [x, y], p m := fun m hm => by
  simp at hm
  rcases hm with rfl | rfl
  · exact h.1
  · exact h.2
end
section
variable {P : Program} {w0 w : World} {N : Gh} {st : St} {nt : Nat} {a : Act}
/-- A region that draws its order, in every order of its loud operations. -/
theorem v_drawZ {id : Nat} {Q : Exit → Act → World → Prop} {l : List Oper} (nb : Nat) (ord L A : List Nat) (U : List (Nat × Nat)) (hm : P.follows .mixedOrders = true) (hchk : chk l.toArray (Region.before l.toArray) [] [] = true) (hoc : chkO l.toArray ord = true) (hz : chkZ l.toArray (Region.before l.toArray) ord L A = true) (hu : chkU l.toArray (Region.before l.toArray) ord L U = true) (H : Rel P w0 N nt st a w)
    (hb : (st.bx.take nb).all (fun x => low nb 0 4 x.2) = true)
    (k : ∀ gS, RelT P w0 N nt gS ⟨st.t.filter fun p => low nb 0 4 p.2.2, st.bx.take nb, st.fz, []⟩ st a w.drew → wpZ P l.toArray Q (Mem gS) L A U l.length ord a w.drew) : (Code.region id l.toArray true).wp P Q a w := by
  obtain ⟨g, HI, hF⟩ := H
  have HI' := HI.drew
  have hc := HI'.loose.cut (nr := 0) (Nat.zero_le _) (Nat.zero_le _) hb
  have hgb : ∀ (i : Nat) x, (g.cut nb 0).bx[i]? = some x → g.bx[i]? = some x := fun i x hx => by
    have : (g.bx.take nb)[i]? = some x := hx
    rw [List.getElem?_take] at this
    split at this
    · exact this
    · cases this
  have hle : (g.cut nb 0).le g := ⟨fun _ _ _ h => h, fun i x hx => ⟨x, hgb i x hx, x.same⟩, fun i r hr => by simp [Gh.cut] at hr⟩
  have hbs : Bs (g.cut nb 0) g := fun i x hx => ⟨x, hgb i x hx, rfl, rfl, rfl, rfl, rfl⟩
  have HT : RelT P w0 N nt (g.cut nb 0) ⟨st.t.filter fun p => low nb 0 4 p.2.2, st.bx.take nb, st.fz, []⟩ st a w.drew :=
    ⟨hc.mem, by simp [Gh.cut], ⟨hF.sz, hF.df, fun p hp hg => by
      simp only [List.mem_filter] at hp
      exact (hF.t p hp.1 hg).low_ (d := 3) hp.2, fun p hp hg => hF.u p (List.mem_filter.1 hp).1 hg⟩, hc.br, g, HI', hF, hle, hbs⟩
  exact wp_region_Z ord L A U (Mem (g.cut nb 0)) hm hchk hoc hz hu HT.mem (k _ HT)
end
end Go.Proofs.Ythphhnkoilcofaa
