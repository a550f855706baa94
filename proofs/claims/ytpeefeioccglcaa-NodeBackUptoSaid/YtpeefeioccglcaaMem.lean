/- Words for memory: blocks known whole, slices that are read as lists of elements, rows that a call owns; append. -/
import Derived.WalkKit
import Derived.WalkSpells
import Derived.WalkLawsBesides
import Derived.Deep.Draws
import Derived.Laws.CopyOwn
set_option linter.unusedSimpArgs false
set_option linter.unusedVariables false
namespace Go.Proofs.Ytpeefeioccglcaa
open Go Go.RowKit

/-- Block g holds just the cells cs of type t, none frozen. -/
def Blk (w : World) (g : Nat) (t : TypeId) (cs : Array Value) : Prop := w.heap[g]? = some (.cells cs t (0, 0))

section blk
variable {w w' : World} {g : Nat} {t : TypeId} {cs : Array Value}
theorem Blk.lt (h : Blk w g t cs) : g < w.heap.size := (Array.getElem?_eq_some_iff.1 h).1
theorem Blk.cell (h : Blk w g t cs) (i : Nat) : w.cell? ⟨g, i, none⟩ = cs[i]? := cell_of_row w g i cs t (0, 0) h
theorem Blk.free (h : Blk w g t cs) (i : Nat) : w.frozen? ⟨g, i, none⟩ = false := frozen_of_row w g i cs t h
theorem Blk.new (w : World) (t : TypeId) (cs : Array Value) : Blk (w.alloc (.cells cs t)) w.heap.size t cs := heap_alloc_new w _
theorem Blk.newAt (w : World) (t : TypeId) (cs : Array Value) {g : Nat} (hg : g = w.heap.size) : Blk (w.alloc (.cells cs t)) g t cs := by subst hg; exact Blk.new w t cs
theorem Blk.drew (h : Blk w g t cs) : Blk w.drew g t cs := h
theorem Blk.drewN (h : Blk w g t cs) (n : Nat) : Blk (w.drewN n) g t cs := h
theorem Blk.alloc (h : Blk w g t cs) (o : Obj) : Blk (w.alloc o) g t cs := (Below.heap_alloc w o g h.lt).trans h
theorem Blk.put (h : Blk w g t cs) (i : Nat) (u : Value) : Blk (w.setCell ⟨g, i, none⟩ u) g t (cs.setIfInBounds i u) := heap_setCell_same w g i cs t u h
theorem Blk.far (h : Blk w g t cs) {p : Addr} (hp : g ≠ p.block) (u : Value) : Blk (w.setCell p u) g t cs := (heap_setCell_other w p g u hp).trans h
theorem Blk.farAt (h : Blk w g t cs) {b i : Nat} (hp : g ≠ b) (u : Value) : Blk (w.setCell ⟨b, i, none⟩ u) g t cs := h.far (p := ⟨b, i, none⟩) hp u
theorem Blk.below {B : Nat} (h : Blk w g t cs) (hb : Below B w w') (hg : g < B) : Blk w' g t cs := (hb.block g hg).trans h
theorem Blk.grown {row : Option Nat} (h : Blk w g t cs) (hb : w.grownBy w' row) (hg : some g ≠ row) : Blk w' g t cs := (hb.block g h.lt hg).trans h
theorem Blk.row (h : Blk w g t cs) (cs' : Array Value) : Blk (w.setRow g cs') g t cs' := setRow_heap w g cs cs' t (0, 0) h
theorem Blk.rowFar (h : Blk w g t cs) {k : Nat} (hk : g ≠ k) (cs' : Array Value) : Blk (w.setRow k cs') g t cs := (setRow_other w k g cs' hk).trans h
theorem Blk.uniq {t' : TypeId} {cs' : Array Value} (h : Blk w g t cs) (h' : Blk w g t' cs') : t = t' ∧ cs = cs' := by
  unfold Blk at h h'; rw [h] at h'; injection h' with h'; injection h' with a b; exact ⟨b, a⟩
theorem Blk.apart {g' : Nat} {t' : TypeId} {cs' : Array Value} (h : Blk w g t cs) (h' : Blk w g' t' cs') (hne : t ≠ t') : g ≠ g' := by
  rintro rfl; exact hne (h.uniq h').1
end blk

/-- An element type of slices: its number, cells, bytes; how an element lies in cells. -/
structure El (α : Type) where
  ty : TypeId
  size : Nat
  bytes : Nat
  enc : α → List Value
  zero : α
  pos : 0 < size
  len : ∀ x, (enc x).length = size
  one : ∀ x, ∀ u ∈ enc x, u.oneCell' = true

/-- The program's table says so. -/
def El.fits {α : Type} (E : El α) (P : Program) : Prop :=
  (P.info? E.ty).map (fun i => (i.zero.map fun z => z.cells.toList, i.size, i.bytes)) = some (some (E.enc E.zero), E.size, E.bytes)

section el
variable {α : Type} (E : El α)
def El.all (xs : List α) : List Value := xs.flatMap E.enc
theorem El.all_nil : E.all [] = [] := rfl
theorem El.all_cons (x : α) (xs : List α) : E.all (x :: xs) = E.enc x ++ E.all xs := by simp [El.all]
theorem El.all_append (xs ys : List α) : E.all (xs ++ ys) = E.all xs ++ E.all ys := by simp [El.all]
theorem El.all_length (xs : List α) : (E.all xs).length = xs.length * E.size := by
  induction xs with
  | nil => simp [El.all]
  | cons x xs ih => rw [El.all_cons, List.length_append, ih, E.len, List.length_cons, Nat.add_mul]; omega
theorem El.all_one (xs : List α) : ∀ u ∈ E.all xs, u.oneCell' = true := by
  intro u hu; simp only [El.all, List.mem_flatMap] at hu; obtain ⟨x, _, hx⟩ := hu; exact E.one x u hx
theorem El.all_take (xs : List α) (k : Nat) : (E.all xs).take (k * E.size) = E.all (xs.take k) := by
  induction xs generalizing k with
  | nil => simp [El.all]
  | cons x xs ih =>
    cases k with
    | zero => simp [El.all]
    | succ k =>
      rw [El.all_cons, List.take_succ_cons, El.all_cons, List.take_append, E.len]
      have h1 : (k + 1) * E.size = k * E.size + E.size := by rw [Nat.add_mul]; omega
      rw [h1, show k * E.size + E.size - E.size = k * E.size by omega, ih, List.take_of_length_le (by rw [E.len]; omega)]
theorem El.all_drop (xs : List α) (k : Nat) : (E.all xs).drop (k * E.size) = E.all (xs.drop k) := by
  induction xs generalizing k with
  | nil => simp [El.all]
  | cons x xs ih =>
    cases k with
    | zero => simp [El.all]
    | succ k =>
      rw [El.all_cons, List.drop_succ_cons, List.drop_append, E.len]
      have h1 : (k + 1) * E.size = k * E.size + E.size := by rw [Nat.add_mul]; omega
      rw [h1, show k * E.size + E.size - E.size = k * E.size by omega, ih, List.drop_of_length_le (by rw [E.len]; omega), List.nil_append]
theorem El.all_replicate (n : Nat) : E.all (List.replicate n E.zero) = (List.replicate n (E.enc E.zero)).flatten := by
  simp [El.all, List.flatMap, List.map_replicate]
theorem El.all_inj_len {xs ys : List α} (h : (E.all xs).length = (E.all ys).length) : xs.length = ys.length := by
  rw [El.all_length, El.all_length] at h; exact Nat.eq_of_mul_eq_mul_right E.pos h

/-- What is read of a slice: xs, below block B. -/
def Rd (w : World) (B : Nat) (A : Option Addr) (xs : List α) : Prop :=
  xs = [] ∨ ∃ g o, A = some ⟨g, o, none⟩ ∧ g < B ∧ ∀ j u, (E.all xs)[j]? = some u → w.cell? ⟨g, o + j, none⟩ = some u

/-- A row that is owned from block base on: xs, and sp behind it in its spare room. -/
def Own (w : World) (base : Nat) (v : Value) (xs sp : List α) : Prop :=
  (v = .slice none 0 0 ∧ xs = [] ∧ sp = []) ∨
  ∃ g, base ≤ g ∧ v = .slice (some ⟨g, 0, none⟩) xs.length (xs.length + sp.length) ∧ Blk w g E.ty (E.all (xs ++ sp)).toArray ∧ xs.length + sp.length ≤ maxLen
end el

theorem below_putAt {B : Nat} {a w : World} (h : Below B a w) {b i : Nat} (hp : B ≤ b) (u : Value) : Below B a (w.setCell ⟨b, i, none⟩ u) := h.setCell (p := ⟨b, i, none⟩) hp u
theorem below_drewN {B : Nat} {a w : World} (h : Below B a w) (n : Nat) : Below B a (w.drewN n) := ⟨h.os, h.tape, h.output, h.size, h.block⟩
section rd
variable {α : Type} {E : El α} {w w' : World} {B B' : Nat} {A : Option Addr} {xs sp : List α} {base : Nat} {v : Value}
theorem Rd.nil (w : World) (B : Nat) (A : Option Addr) : Rd E w B A [] := .inl rfl
theorem Rd.keep (h : Rd E w B A xs) (hk : ∀ k, k < B → w'.heap[k]? = w.heap[k]?) : Rd E w' B A xs := by
  rcases h with h | ⟨g, o, hA, hg, hc⟩
  · exact .inl h
  · exact .inr ⟨g, o, hA, hg, fun j u hu => (World.cell?_of_block (a := ⟨g, o + j, none⟩) (hk g hg)).trans (hc j u hu)⟩
theorem Rd.below (h : Rd E w B A xs) (hb : Below B w w') : Rd E w' B A xs := h.keep hb.block
theorem Rd.more (h : Rd E w B A xs) (hB : B ≤ B') : Rd E w B' A xs := by
  rcases h with h | ⟨g, o, hA, hg, hc⟩
  · exact .inl h
  · exact .inr ⟨g, o, hA, by omega, hc⟩
theorem Rd.belowMore (h : Rd E w B A xs) (hb : Below B w w') (hB : B ≤ B') : Rd E w' B' A xs := (h.below hb).more hB
theorem Rd.drew (h : Rd E w B A xs) : Rd E w.drew B A xs := h
theorem Rd.drewN (h : Rd E w B A xs) (n : Nat) : Rd E (w.drewN n) B A xs := h
theorem Rd.alloc (h : Rd E w B A xs) (hB : B ≤ w.heap.size) (o : Obj) : Rd E (w.alloc o) B A xs := h.keep fun k hk => Below.heap_alloc w o k (by omega)
theorem Rd.put (h : Rd E w B A xs) {p : Addr} (hp : B ≤ p.block) (u : Value) : Rd E (w.setCell p u) B A xs := h.keep fun k hk => heap_setCell_other w p k u (by omega)
theorem Rd.row (h : Rd E w B A xs) {g : Nat} (hp : B ≤ g) (cs : Array Value) : Rd E (w.setRow g cs) B A xs := h.keep fun k hk => setRow_other w g k cs (by omega)
theorem Rd.grown (h : Rd E w B A xs) {row : Option Nat} (hg : w.grownBy w' row) (hB : B ≤ w.heap.size) (hr : ∀ k, row = some k → B ≤ k) : Rd E w' B A xs :=
  h.keep fun k hk => hg.block k (by omega) (fun e => by have := hr k e.symm; omega)
theorem Rd.of_blk {g : Nat} {t : TypeId} {cs : Array Value} (h : Blk w g t cs) (hg : g < B) (o : Nat) (hx : ∀ j u, (E.all xs)[j]? = some u → cs[o + j]? = some u) : Rd E w B (some ⟨g, o, none⟩) xs :=
  .inr ⟨g, o, rfl, hg, fun j u hu => (h.cell _).trans (hx j u hu)⟩
theorem Rd.cut (h : Rd E w B A xs) {k cap : Nat} (hc : xs.length ≤ cap) :
    Rd E w B (if cap = k then A else A.map (·.add (k * E.size))) (xs.drop k) := by
  rcases h with h | ⟨g, o, rfl, hg, hc'⟩
  · subst h; exact .inl (by simp)
  · by_cases hk : cap = k
    · exact .inl (List.drop_of_length_le (by omega))
    · rw [if_neg hk]
      refine .inr ⟨g, o + k * E.size, ?_, hg, fun j u hu => ?_⟩
      · simp only [Option.map_some, Addr.add]; split <;> simp_all
      · rw [← E.all_drop, List.getElem?_drop] at hu
        rw [Nat.add_assoc]; exact hc' _ u hu
theorem Rd.take (h : Rd E w B A xs) (k : Nat) : Rd E w B A (xs.take k) := by
  rcases h with h | ⟨g, o, rfl, hg, hc'⟩
  · subst h; exact .inl (by simp)
  · refine .inr ⟨g, o, rfl, hg, fun j u hu => ?_⟩
    rw [← E.all_take, List.getElem?_take] at hu
    split at hu
    · exact hc' _ u hu
    · cases hu
/-- An element's cells, where there is one. -/
theorem Rd.at_ (h : Rd E w B A xs) {k : Nat} (hk : k < xs.length) : ∃ g o, A = some ⟨g, o, none⟩ ∧ g < B ∧ ∀ j u, (E.enc xs[k])[j]? = some u → w.cell? ⟨g, o + k * E.size + j, none⟩ = some u := by
  rcases h with h | ⟨g, o, rfl, hg, hc⟩
  · subst h; simp at hk
  · refine ⟨g, o, rfl, hg, fun j u hu => ?_⟩
    rw [Nat.add_assoc]
    refine hc _ u ?_
    have hj : j < E.size := by rw [← E.len xs[k]]; exact (List.getElem?_eq_some_iff.1 hu).1
    have h1 := E.all_drop xs k
    rw [List.drop_eq_getElem_cons hk, E.all_cons] at h1
    have h2 : ((E.all xs).drop (k * E.size))[j]? = some u := by rw [h1, List.getElem?_append_left (by rw [E.len]; exact hj)]; exact hu
    rwa [List.getElem?_drop] at h2

theorem Own.nil (w : World) (base : Nat) : Own E w base (.slice none 0 0) [] [] := .inl ⟨rfl, rfl, rfl⟩
theorem Own.keep (h : Own E w base v xs sp) (hk : ∀ g, v.ownBlock = some g → w'.heap[g]? = w.heap[g]?) : Own E w' base v xs sp := by
  rcases h with h | ⟨g, hb, rfl, hblk, hm⟩
  · exact .inl h
  · exact .inr ⟨g, hb, rfl, (hk g rfl).trans hblk, hm⟩
theorem Own.lt (h : Own E w base v xs sp) {g : Nat} (hg : v.ownBlock = some g) : base ≤ g ∧ g < w.heap.size := by
  rcases h with ⟨rfl, _⟩ | ⟨g', hb, rfl, hblk, hm⟩
  · simp [Value.ownBlock] at hg
  · simp [Value.ownBlock] at hg; subst hg; exact ⟨hb, hblk.lt⟩
theorem Own.below {C : Nat} (h : Own E w base v xs sp) (hb : Below C w w') (hC : ∀ g, v.ownBlock = some g → g < C) : Own E w' base v xs sp := h.keep fun g hg => hb.block g (hC g hg)
theorem Own.belowSize (h : Own E w base v xs sp) (hb : Below w.heap.size w w') : Own E w' base v xs sp := h.below hb fun _ hg => (h.lt hg).2
theorem Own.drew (h : Own E w base v xs sp) : Own E w.drew base v xs sp := h
theorem Own.drewN (h : Own E w base v xs sp) (n : Nat) : Own E (w.drewN n) base v xs sp := h
theorem Own.alloc (h : Own E w base v xs sp) (o : Obj) : Own E (w.alloc o) base v xs sp := h.keep fun g hg => Below.heap_alloc w o g (h.lt hg).2
theorem Own.put (h : Own E w base v xs sp) {p : Addr} (hp : v.ownBlock ≠ some p.block) (u : Value) : Own E (w.setCell p u) base v xs sp := h.keep fun g hg => heap_setCell_other w p g u (fun e => hp (by rw [hg, e]))
theorem Rd.putAt (h : Rd E w B A xs) {b i : Nat} (hp : B ≤ b) (u : Value) : Rd E (w.setCell ⟨b, i, none⟩ u) B A xs := h.put (p := ⟨b, i, none⟩) hp u
theorem Own.putAt (h : Own E w base v xs sp) {b i : Nat} (hp : v.ownBlock ≠ some b) (u : Value) : Own E (w.setCell ⟨b, i, none⟩ u) base v xs sp := h.put (p := ⟨b, i, none⟩) hp u
theorem Own.row (h : Own E w base v xs sp) {k : Nat} (hp : v.ownBlock ≠ some k) (cs : Array Value) : Own E (w.setRow k cs) base v xs sp := h.keep fun g hg => setRow_other w k g cs (fun e => hp (by rw [hg, e]))
theorem Own.grown {row : Option Nat} (h : Own E w base v xs sp) (hg : w.grownBy w' row) (hne : v.ownBlock = none ∨ v.ownBlock ≠ row) : Own E w' base v xs sp :=
  h.keep fun g hg' => hg.block g (h.lt hg').2 (by rcases hne with hn | hn; (· rw [hn] at hg'; cases hg'); (· rw [← hg']; exact hn))
theorem Own.more {base' : Nat} (h : Own E w base v xs sp) (hb : base' ≤ base) : Own E w base' v xs sp := by
  rcases h with h | ⟨g, hb', rfl, hblk, hm⟩
  · exact .inl h
  · exact .inr ⟨g, by omega, rfl, hblk, hm⟩
/-- The value's shape. -/
theorem Own.form (h : Own E w base v xs sp) : ∃ A, v = .slice A xs.length (xs.length + sp.length) ∧ xs.length + sp.length ≤ maxLen := by
  rcases h with ⟨rfl, rfl, rfl⟩ | ⟨g, hb', rfl, hblk, hm⟩
  · exact ⟨none, rfl, by simp [maxLen]⟩
  · exact ⟨_, rfl, hm⟩
theorem Own.shape (h : Own E w base v xs sp) {n : Nat} (hn : xs.length = n) : ∃ A c, v = .slice A n c ∧ n ≤ c ∧ c ≤ maxLen := by
  subst hn; obtain ⟨A, rfl, hm⟩ := h.form; exact ⟨A, _, rfl, by omega, hm⟩
theorem Own.shapePos (h : Own E w base v xs sp) {n : Nat} (hn : xs.length = n) (h0 : 0 < n) : ∃ g c, v = .slice (some ⟨g, 0, none⟩) n c ∧ n ≤ c ∧ c ≤ maxLen ∧ base ≤ g ∧ g < w.heap.size := by
  subst hn
  rcases h with ⟨_, rfl, _⟩ | ⟨g, hb', rfl, hblk, hm⟩
  · simp at h0
  · exact ⟨g, _, rfl, by omega, hm, hb', hblk.lt⟩
theorem Blk.own {g : Nat} {t : TypeId} {cs : Array Value} (h : Blk w g t cs) (hg : w.grownBy w' v.ownBlock) (ho : Own E w base v xs sp) (hlt : g < base) : Blk w' g t cs :=
  h.grown hg fun e => by have := (ho.lt e.symm).1; omega
theorem Own.rd {A : Option Addr} {n c : Nat} (h : Own E w base (.slice A n c) xs sp) : Rd E w w.heap.size A xs := by
  rcases h with ⟨_, rfl, _⟩ | ⟨g, hb', hv, hblk, hm⟩
  · exact .inl rfl
  · injection hv with hA; subst hA
    refine .inr ⟨g, 0, rfl, hblk.lt, fun j u hu => ?_⟩
    rw [hblk.cell, Nat.zero_add, E.all_append]
    have hj := (List.getElem?_eq_some_iff.1 hu).1
    simp only [List.getElem?_toArray]
    rw [List.getElem?_append_left hj]; exact hu
theorem Own.len_ {A : Option Addr} {n c : Nat} (h : Own E w base (.slice A n c) xs sp) : n = xs.length ∧ c = xs.length + sp.length := by
  obtain ⟨A', hv, _⟩ := h.form
  injection hv with a b c; exact ⟨b, c⟩
end rd

/-- The length in a slot. -/
def slen : Value → Nat | .slice _ n _ => n | _ => 0
theorem zeroCells_flatten (z : Array Value) (n : Nat) : (Builtin.zeroCells z n).toList = (List.replicate n z.toList).flatten := by
  unfold Builtin.zeroCells
  rw [Array.toList_map, Array.toList_range]
  induction n with
  | zero => simp
  | succ n ih =>
    rw [Nat.add_mul, Nat.one_mul, List.range_add, List.map_append, ih, List.replicate_succ', List.flatten_append]
    congr 1
    apply List.ext_getElem
    · simp
    · intro i h1 h2
      simp only [List.map_map, List.getElem_map, List.getElem_range, Function.comp, List.flatten_cons, List.flatten_nil, List.append_nil, Array.getElem_toList]
      have hi : i < z.size := by simpa using h1
      have : (n * z.size + i) % z.size = i := by rw [Nat.mul_comm, Nat.mul_add_mod]; exact Nat.mod_eq_of_lt hi
      rw [this]
      simp [hi]

section append
variable {α : Type} {E : El α} {P : Program} {w : World} {base : Nat} {v : Value} {xs sp ys : List α}
/-- append onto an owned row, whatever the source. -/
theorem run_append (hE : E.fits P) (t ty : TypeId) (ht : P.underlying t = some (.slice E.ty)) (hown : Own E w base v xs sp)
    {B : Nat} {A : Option Addr} {m : Nat} (c : Nat) (hr : Rd E w B A ys) (hm : ys.length = m)
    (h63 : xs.length + m ≤ maxLen) (hbytes : (xs.length + m) * E.bytes ≤ 140737488355328) (hbase : base ≤ w.heap.size) :
    ∃ v' w' sp', (Builtin.append_ #[t, t] ty #[v, .slice A m c]).run P w = .ok v' w' ∧ Own E w' base v' (xs ++ ys) sp' ∧ w.grownBy w' v.ownBlock ∧
      (v'.ownBlock = v.ownBlock ∨ v'.ownBlock = some w.heap.size) ∧ (∀ k, sp = List.replicate k E.zero → ∃ k', sp' = List.replicate k' E.zero) ∧ (v'.ownBlock = v.ownBlock ∨ w.grownBy w' none) := by
  subst hm
  unfold El.fits at hE
  cases hi : P.info? E.ty with
  | none => rw [hi] at hE; cases hE
  | some i =>
  rw [hi] at hE
  simp only [Option.map_some, Option.some.injEq, Prod.mk.injEq] at hE
  obtain ⟨hz0, hsize, hby⟩ := hE
  cases hz : i.zero with
  | none => rw [hz] at hz0; cases hz0
  | some z =>
  rw [hz] at hz0
  simp only [Option.map_some, Option.some.injEq] at hz0
  have hzs : z.cells.size = i.size := by rw [hsize, ← E.len E.zero, ← hz0]; simp
  have hlen : (E.all ys).length = ys.length * i.size := by rw [E.all_length, hsize]
  have hsmall : ((xs.length + ys.length : Nat) : Int) ≤ 9223372036854775807 := by simp only [maxLen] at h63; omega
  -- the new row
  have grown : ∀ (old : Nat), old < xs.length + ys.length → ∀ row : Option Nat,
      Own E (w.drew.alloc (.cells ((E.all xs).toArray ++ (E.all ys).toArray ++ Builtin.zeroCells z.cells (grownCap w (xs.length + ys.length) old E.ty - (xs.length + ys.length))) E.ty)) base
        (.slice (some ⟨w.heap.size, 0, none⟩) (xs.length + ys.length) (grownCap w (xs.length + ys.length) old E.ty)) (xs ++ ys) (List.replicate (grownCap w (xs.length + ys.length) old E.ty - (xs.length + ys.length)) E.zero) ∧
      w.grownBy (w.drew.alloc (.cells ((E.all xs).toArray ++ (E.all ys).toArray ++ Builtin.zeroCells z.cells (grownCap w (xs.length + ys.length) old E.ty - (xs.length + ys.length))) E.ty)) row := by
    intro old ho row
    have hge := grownCap_ge w (xs.length + ys.length) old E.ty
    have hcm := grownCap_le_maxLen w (xs.length + ys.length) old E.ty h63
    refine ⟨.inr ⟨w.heap.size, hbase, ?_, ?_, ?_⟩, ⟨rfl, rfl, rfl, by simp, fun k hk _ => Below.heap_alloc w.drew _ k hk⟩⟩
    · rw [List.length_append, List.length_replicate, show xs.length + ys.length + (grownCap w (xs.length + ys.length) old E.ty - (xs.length + ys.length)) = grownCap w (xs.length + ys.length) old E.ty by omega]
    · have hb := Blk.new w.drew E.ty ((E.all xs).toArray ++ (E.all ys).toArray ++ Builtin.zeroCells z.cells (grownCap w (xs.length + ys.length) old E.ty - (xs.length + ys.length)))
      have he : (E.all xs).toArray ++ (E.all ys).toArray ++ Builtin.zeroCells z.cells (grownCap w (xs.length + ys.length) old E.ty - (xs.length + ys.length)) =
          (E.all (xs ++ ys ++ List.replicate (grownCap w (xs.length + ys.length) old E.ty - (xs.length + ys.length)) E.zero)).toArray := by
        apply Array.toList_inj.1
        simp only [Array.toList_append, E.all_append, E.all_replicate, zeroCells_flatten, hz0]
      rw [← he]; exact hb
    · rw [List.length_append, List.length_replicate]; omega
  by_cases hys : ys = []
  · -- nothing is appended
    subst hys
    have hrun : (Builtin.append_ #[t, t] ty #[v, .slice A 0 c]).run P w = .ok v w := by
      rcases hown with ⟨rfl, rfl, rfl⟩ | ⟨g, hb', rfl, hblk, hmx⟩
      · cases A <;> simp [Builtin.append_, run_underlying ht, sizeOf, typeInfo, hi, Builtin.lenOf, Builtin.firstCells, loadCells, loadCellsFrom]
      · cases A <;> simp [Builtin.append_, run_underlying ht, sizeOf, typeInfo, hi, Builtin.lenOf, Builtin.firstCells, loadCells, loadCellsFrom, storeCells]
    exact ⟨v, w, sp, by simpa using hrun, by simpa using hown, ⟨rfl, rfl, rfl, Nat.le_refl _, fun _ _ _ => rfl⟩, .inl rfl, fun k hk => ⟨k, hk⟩, .inl rfl⟩
  · have hpos : 0 < ys.length := List.length_pos_iff.2 hys
    rcases hr with hr | ⟨g2, o2, rfl, hg2, hc2⟩
    · exact absurd hr hys
    have hnews : ∀ j u, (E.all ys)[j]? = some u → w.cell? ((⟨g2, o2, none⟩ : Addr).add j) = some u := by
      intro j u hu
      have : (⟨g2, o2, none⟩ : Addr).add j = ⟨g2, o2 + j, none⟩ := by unfold Addr.add; split <;> simp_all
      rw [this]; exact hc2 j u hu
    rcases hown with ⟨rfl, rfl, rfl⟩ | ⟨g, hb', rfl, hblk, hmx⟩
    · have hr := run_append_nil (P := P) w t ty E.ty i z ht hi hz ⟨g2, o2, none⟩ ys.length c (E.all ys) hlen hnews hpos (by simpa using hsmall) (by rw [hby]; simp only [List.length_nil, Nat.zero_add] at hbytes; omega)
      have hgr := grown 0 (by simp; omega) (Value.ownBlock (.slice none 0 0))
      have hgn := (grown 0 (by simp; omega) none).2
      simp only [List.length_nil, Nat.zero_add, List.nil_append, El.all_nil, Array.empty_append] at hgr hgn ⊢
      exact ⟨_, _, _, hr, hgr.1, hgr.2, .inr rfl, fun _ _ => ⟨_, rfl⟩, .inr hgn⟩
    · by_cases hroom : xs.length + ys.length ≤ xs.length + sp.length
      · have hfit : xs.length * i.size + (E.all ys).length ≤ (E.all (xs ++ sp)).toArray.size := by
          simp only [List.size_toArray, E.all_length, List.length_append, hsize, Nat.add_mul]
          have := Nat.mul_le_mul_right E.size (show ys.length ≤ sp.length by omega)
          omega
        have hr := run_append_room (P := P) w t ty E.ty i ht hi g xs.length (xs.length + sp.length) _ hblk ⟨g2, o2, none⟩ ys.length c (E.all ys) hlen hnews (E.all_one ys) hroom hfit
        have hrow : ((E.all (xs ++ sp)).toArray.toList.take (xs.length * i.size) ++ E.all ys ++ (E.all (xs ++ sp)).toArray.toList.drop (xs.length * i.size + (E.all ys).length)) = E.all (xs ++ ys ++ sp.drop ys.length) := by
          simp only [hsize, E.all_length, ← Nat.add_mul]
          rw [E.all_take, E.all_drop, E.all_append, E.all_append]
          congr 2
          · simp
          · rw [List.drop_append]; simp

        rw [hrow] at hr
        refine ⟨_, _, sp.drop ys.length, hr, .inr ⟨g, hb', ?_, hblk.row _, ?_⟩, ⟨rfl, rfl, rfl, by simp, fun k _ hk => setRow_other w g k _ (fun e => hk (by simp [Value.ownBlock, e]))⟩, .inl rfl, fun k hk => ⟨k - ys.length, by rw [hk, List.drop_replicate]⟩, .inl rfl⟩
        · rw [List.length_append, List.length_drop, show xs.length + ys.length + (sp.length - ys.length) = xs.length + sp.length by omega]
        · rw [List.length_append, List.length_drop]; omega
      · have holds : ∀ j u, (E.all xs)[j]? = some u → w.cell? ((⟨g, 0, none⟩ : Addr).add j) = some u := by
          intro j u hu
          have : (⟨g, 0, none⟩ : Addr).add j = ⟨g, j, none⟩ := by unfold Addr.add; split <;> simp_all
          rw [this, hblk.cell, E.all_append]
          simp only [List.getElem?_toArray]
          rw [List.getElem?_append_left (List.getElem?_eq_some_iff.1 hu).1]; exact hu
        have hr := run_append_grow (P := P) w t ty E.ty i z ht hi hz ⟨g, 0, none⟩ xs.length (xs.length + sp.length) (E.all xs) (by rw [E.all_length, hsize]) holds ⟨g2, o2, none⟩ ys.length c (E.all ys) hlen hnews
          (by omega) hsmall (growslice_fits (by omega) (by rw [hby]; exact hbytes))
        have hgn := (grown (xs.length + sp.length) (by omega) none).2
        have hgr := grown (xs.length + sp.length) (by omega) (Value.ownBlock (.slice (some ⟨g, 0, none⟩) xs.length (xs.length + sp.length)))
        exact ⟨_, _, _, hr, hgr.1, hgr.2, .inr rfl, fun _ _ => ⟨_, rfl⟩, .inr hgn⟩

theorem wp_app {o : Oper} {a : Act} {K : Act → World → Prop} {Q : Exit → Act → World → Prop} (hE : E.fits P) (s x : Operand) (t : TypeId)
    (ho : o.op = .call { callee := .builtin .append, args := #[s, x], argTypes := #[t, t] }) (ht : P.underlying t = some (.slice E.ty))
    (hs : a.eval s = v) (hown : Own E w base v xs sp) {B : Nat} {A : Option Addr} {m c : Nat} (hx : a.eval x = .slice A m c) (hr : Rd E w B A ys) (hm : ys.length = m)
    (h63 : xs.length + m ≤ maxLen) (hbytes : (xs.length + m) * E.bytes ≤ 140737488355328) (hbase : base ≤ w.heap.size)
    (h : ∀ v' w' sp', Own E w' base v' (xs ++ ys) sp' → w.grownBy w' v.ownBlock → (v'.ownBlock = v.ownBlock ∨ v'.ownBlock = some w.heap.size) → K (a.put o.dst v') w') : o.wp P a w K Q := by
  obtain ⟨v', w', sp', hrun, h2, h3, h4, _, _⟩ := run_append hE t o.type ht hown c hr hm h63 hbytes hbase
  unfold Oper.wp execOp
  simp only [ho, resolve, invoke, builtin, Sem.run_bind, Sem.run_pure, Result.andThen_ok, List.map_toArray, List.map_cons, List.map_nil, hs, hx, hrun]
  exact h v' w' sp' h2 h3 h4

theorem wpList_app {ops : Array Oper} {rest : List Oper} {o : Oper} {a : Act} {Q : Exit → Act → World → Prop} (hgd : o.guard = none) (hE : E.fits P) (s x : Operand) (t : TypeId)
    (ho : o.op = .call { callee := .builtin .append, args := #[s, x], argTypes := #[t, t] }) (ht : P.underlying t = some (.slice E.ty))
    (hs : a.eval s = v) (hown : Own E w base v xs sp) {B : Nat} {A : Option Addr} {m c : Nat} (hx : a.eval x = .slice A m c) (hr : Rd E w B A ys) (hm : ys.length = m)
    (h63 : xs.length + m ≤ maxLen) (hbytes : (xs.length + m) * E.bytes ≤ 140737488355328) (hbase : base ≤ w.heap.size)
    (h : ∀ v' w' sp', Own E w' base v' (xs ++ ys) sp' → w.grownBy w' v.ownBlock → (v'.ownBlock = v.ownBlock ∨ v'.ownBlock = some w.heap.size) → wpList P ops Q rest (a.put o.dst v') w') : wpList P ops Q (o :: rest) a w :=
  wpList_plain hgd fun _ hK => wp_app hE s x t ho ht hs hown hx hr hm h63 hbytes hbase fun v' w' sp' h2 h3 h4 => hK _ _ (h v' w' sp' h2 h3 h4)
end append
end Go.Proofs.Ytpeefeioccglcaa
