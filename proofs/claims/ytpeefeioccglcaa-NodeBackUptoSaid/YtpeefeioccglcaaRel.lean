/- What is known of memory and of a frame, as one relation; operands. -/
import Derived.Test.YtpeefeioccglcaaVal
set_option linter.unusedSimpArgs false
set_option linter.unusedVariables false
namespace Go.Proofs.Ytpeefeioccglcaa
open Go Go.RowKit
/-- All old blocks stand but those of N. -/
structure Kept (w w' : World) (N : Nat → Prop) : Prop where
  os : w'.os = w.os
  tape : w'.tape = w.tape
  output : w'.output = w.output
  size : w.heap.size ≤ w'.heap.size
  block : ∀ k, k < w.heap.size → ¬ N k → w'.heap[k]? = w.heap[k]?
theorem Kept.refl (w : World) (N : Nat → Prop) : Kept w w N := ⟨rfl, rfl, rfl, Nat.le_refl _, fun _ _ _ => rfl⟩
theorem Kept.trans {a b c : World} {N M : Nat → Prop} (h : Kept a b N) (k : Kept b c M) (hM : ∀ i, i < a.heap.size → M i → N i) : Kept a c N :=
  ⟨k.os.trans h.os, k.tape.trans h.tape, k.output.trans h.output, Nat.le_trans h.size k.size, fun i hi hn => (k.block i (Nat.lt_of_lt_of_le hi h.size) (fun hm => hn (hM i hi hm))).trans (h.block i hi hn)⟩
theorem Kept.drew {a b : World} {N : Nat → Prop} (h : Kept a b N) : Kept a b.drew N := ⟨h.os, h.tape, h.output, h.size, h.block⟩
theorem Kept.of_below {a b : World} {N : Nat → Prop} (h : Below a.heap.size a b) : Kept a b N := ⟨h.os, h.tape, h.output, h.size, fun k hk _ => h.block k hk⟩
theorem Kept.of_grown {a b : World} {N : Nat → Prop} {row : Option Nat} (h : a.grownBy b row) (hN : ∀ k, row = some k → N k) : Kept a b N := ⟨h.os, h.tape, h.output, h.size, fun k hk hn => h.block k hk (fun e => hn (hN k e.symm))⟩
theorem Kept.put {a b : World} {N : Nat → Prop} (h : Kept a b N) {g : Nat} (i : Nat) (u : Value) (hg : N g) : Kept a (b.setCell ⟨g, i, none⟩ u) N :=
  ⟨h.os, h.tape, h.output, by rw [World.size_setCell]; exact h.size, fun k hk hn => (heap_setCell_other b ⟨g, i, none⟩ k u (fun e => hn (by rw [e]; exact hg))).trans (h.block k hk hn)⟩
theorem Kept.row {a b : World} {N : Nat → Prop} (h : Kept a b N) {g : Nat} (cs : Array Value) (hg : a.heap.size ≤ g ∨ N g) : Kept a (b.setRow g cs) N :=
  ⟨h.os, h.tape, h.output, by rw [size_setRow]; exact h.size, fun k hk hn => (setRow_other b g k cs (fun e => by subst e; rcases hg with hg | hg; omega; exact hn hg)).trans (h.block k hk hn)⟩
theorem Kept.alloc {a b : World} {N : Nat → Prop} (h : Kept a b N) (o : Obj) : Kept a (b.alloc o) N :=
  ⟨h.os, h.tape, h.output, by rw [World.size_alloc]; exact Nat.le_succ_of_le h.size, fun k hk hn => (Below.heap_alloc b o k (Nat.lt_of_lt_of_le hk h.size)).trans (h.block k hk hn)⟩
theorem Kept.below {a b : World} {N : Nat → Prop} {B : Nat} (h : Kept a b N) (hB : B ≤ a.heap.size) (hN : ∀ k, k < B → ¬ N k) : Below B a b := ⟨h.os, h.tape, h.output, h.size, fun k hk => h.block k (by omega) (hN k hk)⟩
theorem Kept.none {a b : World} (h : Kept a b fun _ => False) : Below a.heap.size a b := h.below (Nat.le_refl _) fun _ _ => id
theorem Blk.kept {w w' : World} {g : Nat} {t : TypeId} {cs : Array Value} {N : Nat → Prop} (h : Blk w g t cs) (k : Kept w w' N) (hN : ¬ N g) : Blk w' g t cs := (k.block g h.lt hN).trans h
theorem Own.kept {α : Type} {E : El α} {w w' : World} {base : Nat} {v : Value} {xs sp : List α} {N : Nat → Prop} (h : Own E w base v xs sp) (k : Kept w w' N) (hN : ∀ g, v.ownBlock = some g → ¬ N g) : Own E w' base v xs sp :=
  h.keep fun g hg => k.block g (h.lt hg).2 (hN g hg)
theorem Own.slice {α : Type} {E : El α} {w : World} {base : Nat} {v : Value} {xs sp : List α} (h : Own E w base v xs sp) : ∃ A n c, v = .slice A n c := by
  obtain ⟨A, hv, _⟩ := h.form; exact ⟨A, _, _, hv⟩
theorem Blk.heap {w W : World} {g : Nat} {t : TypeId} {cs : Array Value} (h : Blk w g t cs) (e : W.heap = w.heap) : Blk W g t cs := by unfold Blk at *; rw [e]; exact h

def noughts (r : Rw) : List Value := (List.replicate r.m r.zero).flatten
structure Row (w : World) (r : Rw) : Prop where
  pos : 0 < r.es
  zl : r.zero.length = r.es
  one : ∀ u ∈ r.cx ++ r.zero, u.oneCell' = true
  len : r.cx.length = r.n * r.es
  at_ : (r.v = .slice none 0 0 ∧ r.n = 0 ∧ r.m = 0) ∨ ∃ k, r.v = .slice (some ⟨k, 0, none⟩) r.n (r.n + r.m) ∧ Blk w k r.tid (r.cx ++ noughts r).toArray ∧ r.n + r.m ≤ maxLen
structure Mem (g : Gh) (w : World) : Prop where
  ro : ∀ b o u, g.ro b o = some u → w.cell? ⟨b, o, none⟩ = some u
  bx : ∀ (i : Nat) (x : Bx), g.bx[i]? = some x → Blk w x.blk x.tid x.cells.toArray
  rw : ∀ (i : Nat) (r : Rw), g.rw[i]? = some r → Row w r
  fro : ∀ (i : Nat) (x : Bx), g.bx[i]? = some x → x.fz = true → ∀ o u, x.cells[o]? = some u → g.ro x.blk o = some u
  bro : ∀ (i : Nat) (x : Bx), g.bx[i]? = some x → x.fz = false → ∀ o, g.ro x.blk o = none
  bb : ∀ (i j : Nat) (x y : Bx), g.bx[i]? = some x → g.bx[j]? = some y → x.blk = y.blk → i = j
  rro : ∀ (i : Nat) (r : Rw) (k : Nat), g.rw[i]? = some r → r.v.ownBlock = some k → ∀ o, r.n * r.es ≤ o → g.ro k o = none
  rwo : ∀ (i : Nat) (r : Rw) (k : Nat), g.rw[i]? = some r → r.v.ownBlock = some k → ∀ o u, r.cx[o]? = some u → g.ro k o = some u
  rb : ∀ (i j : Nat) (x : Bx) (r : Rw), g.bx[i]? = some x → g.rw[j]? = some r → r.v.ownBlock ≠ some x.blk
  rr : ∀ (i j : Nat) (r s : Rw) (k : Nat), g.rw[i]? = some r → g.rw[j]? = some s → r.v.ownBlock = some k → s.v.ownBlock = some k → i = j
/-- The blocks of boxes and rows that were passed. -/
def Gh.has (N : Gh) (b : Nat) : Prop := (∃ x ∈ N.bx, x.blk = b) ∨ ∃ r ∈ N.rw, r.v.ownBlock = some b
structure Fr (w0 : World) (N g : Gh) (w : World) : Prop where
  kept : Kept w0 w N.has
  bx : ∀ (i : Nat) (x : Bx), g.bx[i]? = some x → w0.heap.size ≤ x.blk ∨ ∃ y, N.bx[i]? = some y ∧ y.blk = x.blk
  rw : ∀ (i : Nat) (r : Rw) (k : Nat), g.rw[i]? = some r → r.v.ownBlock = some k → w0.heap.size ≤ k ∨ ∃ s, N.rw[i]? = some s ∧ s.v.ownBlock = some k
  ro : ∀ b, b < w0.heap.size → ¬ N.has b → ∀ o, g.ro b o = N.ro b o
  le : N.le g
def RV1 (g : Gh) (a : AV) (v : Value) : Prop := (∃ T cs, T.agg = true ∧ RC g T a cs ∧ v = .agg cs.toArray) ∨ RC g .sc a [v]
def RV (g : Gh) : AV → Value → Prop
  | .any, _ => True
  | .tup az, v => ∃ vs : List Value, v = .tuple vs.toArray ∧ vs.length = az.length ∧ ∀ (i : Nat) a u, az[i]? = some a → vs[i]? = some u → RV1 g a u
  | a, v => RV1 g a v
theorem RV1.mono {g g' : Gh} (hg : g.le g') {a : AV} {v : Value} (h : RV1 g a v) : RV1 g' a v := by
  rcases h with ⟨T, cs, h1, h2, h3⟩ | h
  · exact .inl ⟨T, cs, h1, h2.mono hg, h3⟩
  · exact .inr (h.mono hg)
theorem RV.mono {g g' : Gh} (hg : g.le g') {a : AV} {v : Value} (h : RV g a v) : RV g' a v := by
  cases a with
  | any => trivial
  | tup az => obtain ⟨vs, h1, h2, h3⟩ := h; exact ⟨vs, h1, h2, fun i a u ha hu => (h3 i a u ha hu).mono hg⟩
  | _ => exact RV1.mono hg h
theorem RV1.rv {g : Gh} {a : AV} {v : Value} (h : RV1 g a v) : RV g a v := by
  cases a with
  | any => trivial
  | tup az => rcases h with ⟨T, cs, _, h, _⟩ | h <;> cases h
  | _ => exact h
abbrev Gd := Option (Nat × Bool)
/-- A frame as it is known: slots (some under a guard), boxes, rows. -/
structure St where
  t : List (Nat × Gd × AV)
  bx : List (Ty × AV)
  fz : List Nat
  rw : List (TypeId × Nat)
def gholds (a : Act) : Gd → Prop
  | none => True
  | some (k, b) => a.tmps.getD k undef = .bool b
structure FR (g : Gh) (nt : Nat) (st : St) (a : Act) : Prop where
  sz : a.tmps.size = nt
  df : a.defers = []
  t : ∀ p ∈ st.t, gholds a p.2.1 → RV g p.2.2 (a.tmps.getD p.1 undef)
structure BR (g : Gh) (bx : List (Ty × AV)) : Prop where
  len : g.bx.length = bx.length
  at_ : ∀ (i : Nat) T a, bx[i]? = some (T, a) → ∃ x, g.bx[i]? = some x ∧ x.ty = T ∧ RC g T a x.cells
/-- What is known of memory. -/
def zeroOf (P : Program) (t : TypeId) : List Value := match P.info? t with
  | some i => (match i.zero with | some z => z.cells.toList | none => [])
  | none => []
structure Inv (P : Program) (w0 : World) (N g : Gh) (bx : List (Ty × AV)) (fz : List Nat) (rw : List (TypeId × Nat)) (w : World) : Prop where
  mem : Mem g w
  fr : Fr w0 N g w
  br : BR g bx
  fz : ∀ (i : Nat) (x : Bx), g.bx[i]? = some x → x.fz = true → i ∈ fz
  wr : g.rw.map (fun r => (r.tid, r.n)) = rw
  wz : ∀ r ∈ g.rw, r.es = P.cellsOf r.tid ∧ r.zero = zeroOf P r.tid
def Rel (P : Program) (w0 : World) (N : Gh) (nt : Nat) (st : St) (a : Act) (w : World) : Prop :=
  ∃ g, Inv P w0 N g st.bx st.fz st.rw w ∧ FR g nt st a

/-- What an operand is known to be, under a guard. -/
def find (d : Nat) : List (Nat × Gd × AV) → Option (Gd × AV)
  | [] => none
  | (k, x) :: l => if k = d then some x else find d l
def St.tmp (st : St) (c : Gd) (d : Nat) : AV :=
  match find d st.t with
  | some (none, a) => a
  | some (some k, a) => if c = some k then a else .any
  | none => .any
def St.ev (st : St) (c : Gd) : Operand → AV
  | .const (.agg _) => .any
  | .const (.tuple _) => .any
  | .const v => .v v
  | .tmp d => st.tmp c d
  | _ => .any
theorem find_mem {d : Nat} {x : Gd × AV} : ∀ {l : List (Nat × Gd × AV)}, find d l = some x → (d, x) ∈ l
  | (k, y) :: l, h => by
    unfold find at h
    split at h
    · rename_i e; subst e; injection h with h; subst h; exact List.mem_cons_self
    · exact List.mem_cons_of_mem _ (find_mem h)
theorem RC.rvp {g : Gh} {a : AV} {u : Value} (h : RC g .sc a [u]) : RV g a u := (show RV1 g a u from .inr h).rv
theorem RV.v_of {g : Gh} {v : Value} (h : v.oneCell' = true) : RV g (.v v) v := (.inr (.v h) : RV1 g (.v v) v)
theorem tmp_sound {g : Gh} {nt : Nat} {st : St} {a : Act} (hF : FR g nt st a) {c : Gd} (hc : gholds a c) (d : Nat) : RV g (st.tmp c d) (a.tmps.getD d undef) := by
  unfold St.tmp
  split
  · rename_i y hf; exact hF.t _ (find_mem hf) trivial
  · rename_i k y hf
    split
    · rename_i e; subst e; exact hF.t _ (find_mem hf) hc
    · trivial
  · trivial
theorem ev_sound {g : Gh} {nt : Nat} {st : St} {a : Act} (hF : FR g nt st a) {c : Gd} (hc : gholds a c) (x : Operand) : RV g (st.ev c x) (a.eval x) := by
  cases x with
  | tmp d => exact tmp_sound hF hc d
  | const v => cases v <;> first | trivial | exact RV.v_of rfl
  | global g => trivial
  | func f => trivial
theorem RV.v_inv {g : Gh} {x u : Value} (h : RV g (.v x) u) : u = x := by
  rcases (show RV1 g (.v x) u from h) with ⟨T, cs, h1, h2, _⟩ | h
  · cases h2; simp [Ty.agg] at h1
  · cases h; rfl
theorem RV.bs_inv {g : Gh} {l : List UInt8} {tok : Option Nat} {u : Value} (h : RV g (.bs l tok) u) : RC g .sc (.bs l tok) [u] := by
  rcases (show RV1 g (.bs l tok) u from h) with ⟨T, cs, h1, h2, _⟩ | h
  · cases h2; simp [Ty.agg] at h1
  · exact h
theorem RV.sl_inv {g : Gh} {T : Ty} {es : List AV} {tok : Option Nat} {u : Value} (h : RV g (.sl T es tok) u) : RC g .sc (.sl T es tok) [u] := by
  rcases (show RV1 g (.sl T es tok) u from h) with ⟨T, cs, h1, h2, _⟩ | h
  · cases h2; simp [Ty.agg] at h1
  · exact h
theorem RV.ptr_inv {g : Gh} {i : Nat} {p : List Nat} {u : Value} (h : RV g (.ptr i p) u) : RC g .sc (.ptr i p) [u] := by
  rcases (show RV1 g (.ptr i p) u from h) with ⟨T, cs, h1, h2, _⟩ | h
  · cases h2; simp [Ty.agg] at h1
  · exact h
theorem RV.pti_inv {g : Gh} {i k : Nat} {p : List Nat} {u : Value} (h : RV g (.pti i p k) u) : RC g .sc (.pti i p k) [u] := by
  rcases (show RV1 g (.pti i p k) u from h) with ⟨T, cs, h1, h2, _⟩ | h
  · cases h2; simp [Ty.agg] at h1
  · exact h
theorem RV.win_inv {g : Gh} {i o n : Nat} {p : List Nat} {u : Value} (h : RV g (.win i p o n) u) : RC g .sc (.win i p o n) [u] := by
  rcases (show RV1 g (.win i p o n) u from h) with ⟨T, cs, h1, h2, _⟩ | h
  · cases h2; simp [Ty.agg] at h1
  · exact h
theorem RV.bc_inv {g : Gh} {l : List UInt8} {n : Nat} {tok : Option Nat} {u : Value} (h : RV g (.bc l n tok) u) : RC g .sc (.bc l n tok) [u] := by
  rcases (show RV1 g (.bc l n tok) u from h) with ⟨T, cs, h1, h2, _⟩ | h
  · cases h2; simp [Ty.agg] at h1
  · exact h
theorem RV.ref_inv {g : Gh} {T : Ty} {a : AV} {u : Value} (h : RV g (.ref T a) u) : RC g .sc (.ref T a) [u] := by
  rcases (show RV1 g (.ref T a) u from h) with ⟨T, cs, h1, h2, _⟩ | h
  · cases h2; simp [Ty.agg] at h1
  · exact h
theorem RV.ba_inv {g : Gh} {l : List UInt8} {u : Value} (h : RV g (.ba l) u) : u = .agg (l.map B8).toArray := by
  rcases (show RV1 g (.ba l) u from h) with ⟨T, cs, h1, h2, h3⟩ | h
  · cases h2; exact h3
  · cases h
theorem RV.st_inv {g : Gh} {fs : List AV} {u : Value} (h : RV g (.st fs) u) : ∃ T cs, T.agg = true ∧ RC g T (.st fs) cs ∧ u = .agg cs.toArray := by
  rcases (show RV1 g (.st fs) u from h) with h | h
  · exact h
  · cases h
end Go.Proofs.Ytpeefeioccglcaa
