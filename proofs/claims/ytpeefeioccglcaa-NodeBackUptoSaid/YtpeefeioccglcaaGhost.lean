/- What is known of memory, when memory is made, written, frozen. -/
import Derived.Test.YtpeefeioccglcaaRel
set_option linter.unusedSimpArgs false
set_option linter.unusedVariables false
namespace Go.Proofs.Ytpeefeioccglcaa
open Go Go.RowKit
section
variable {P : Program} {w0 w : World} {N : Gh} {g : Gh} {bx : List (Ty × AV)} {fz : List Nat} {rw_ : List (TypeId × Nat)}
theorem Mem.lt (h : Mem g w) {b o : Nat} {u : Value} (hr : g.ro b o = some u) : b < w.heap.size := by
  have := h.ro b o u hr
  unfold World.cell? at this
  cases hb : w.heap[b]? with
  | none => simp [hb] at this
  | some x => exact (Array.getElem?_eq_some_iff.1 hb).1
theorem Mem.ro_new (h : Mem g w) (o : Nat) : g.ro w.heap.size o = none := by
  cases hr : g.ro w.heap.size o with
  | none => rfl
  | some u => exact absurd (h.lt hr) (Nat.lt_irrefl _)
theorem Row.lt {r : Rw} (h : Row w r) {k : Nat} (hk : r.v.ownBlock = some k) : k < w.heap.size := by
  rcases h.at_ with ⟨e, _⟩ | ⟨j, e, hb, _⟩
  · rw [e] at hk; simp [Value.ownBlock] at hk
  · rw [e] at hk; simp [Value.ownBlock] at hk; subst hk; exact hb.lt
theorem Row.keep {r : Rw} {w' : World} (h : Row w r) (hk : ∀ k, r.v.ownBlock = some k → w'.heap[k]? = w.heap[k]?) : Row w' r := by
  refine ⟨h.pos, h.zl, h.one, h.len, ?_⟩
  rcases h.at_ with e | ⟨k, e, hb, hm⟩
  · exact .inl e
  · exact .inr ⟨k, e, (hk k (by rw [e]; rfl)).trans hb, hm⟩
/-- A step of the world that leaves all blocks of the ghost's. -/
theorem Inv.keep {w' : World} (h : Inv P w0 N g bx fz rw_ w) (hk : ∀ k, k < w.heap.size → w'.heap[k]? = w.heap[k]?) (hs : w.heap.size ≤ w'.heap.size) (ho : w'.os = w.os) (ht : w'.tape = w.tape) (hp : w'.output = w.output) : Inv P w0 N g bx fz rw_ w' where
  mem := {
    ro := fun b o u hr => (World.cell?_of_block (a := ⟨b, o, none⟩) (hk b (h.mem.lt hr))).trans (h.mem.ro b o u hr)
    bx := fun i x hx => (hk _ (h.mem.bx i x hx).lt).trans (h.mem.bx i x hx)
    rw := fun i r hr => (h.mem.rw i r hr).keep fun k hk' => hk k ((h.mem.rw i r hr).lt hk')
    fro := h.mem.fro, bro := h.mem.bro, bb := h.mem.bb, rro := h.mem.rro, rwo := h.mem.rwo, rb := h.mem.rb, rr := h.mem.rr }
  fr := ⟨h.fr.kept.trans (M := fun _ => False) ⟨ho, ht, hp, hs, fun k hk' _ => hk k hk'⟩ (fun _ _ => False.elim), h.fr.bx, h.fr.rw, h.fr.ro, h.fr.le⟩
  br := h.br
  fz := h.fz
  wr := h.wr
  wz := h.wz
theorem Inv.drew (h : Inv P w0 N g bx fz rw_ w) : Inv P w0 N g bx fz rw_ w.drew := h.keep (fun _ _ => rfl) (Nat.le_refl _) rfl rfl rfl
theorem getElem?_snoc {α : Type} {l : List α} {x y : α} {i : Nat} (h : (l ++ [x])[i]? = some y) : l[i]? = some y ∨ (i = l.length ∧ y = x) := by
  rcases Nat.lt_trichotomy i l.length with h1 | h1 | h1
  · rw [List.getElem?_append_left h1] at h; exact .inl h
  · subst h1; rw [List.getElem?_append_right (Nat.le_refl _), Nat.sub_self] at h; simp at h; exact .inr ⟨rfl, h.symm⟩
  · rw [List.getElem?_append_right (by omega)] at h
    obtain ⟨k, hk⟩ : ∃ k, i - l.length = k + 1 := ⟨i - l.length - 1, by omega⟩
    rw [hk] at h; simp at h
/-- A new box. -/
theorem Inv.box (h : Inv P w0 N g bx fz rw_ w) {T : Ty} {a : AV} {cs : List Value} (hr : RC g T a cs) (tid : TypeId) :
    ∃ g', g.lex g' ∧ Inv P w0 N g' (bx ++ [(T, a)]) fz rw_ (w.alloc (.cells cs.toArray tid)) ∧ RV g' (.ptr bx.length []) (.pointer (some ⟨w.heap.size, 0, none⟩)) := by
  let x : Bx := ⟨w.heap.size, tid, T, cs, false⟩
  let g' : Gh := { g with bx := g.bx ++ [x] }
  have hle : g.le g' := ⟨fun _ _ _ h => h, fun i y hy => ⟨y, by show (g.bx ++ [x])[i]? = some y; rw [List.getElem?_append_left (List.getElem?_eq_some_iff.1 hy).1]; exact hy, rfl, rfl⟩, fun _ r h => ⟨r, h, rfl, rfl, rfl, Nat.le_refl _, fun _ => rfl⟩⟩
  have hnew : g'.bx[bx.length]? = some x := by show (g.bx ++ [x])[bx.length]? = some x; rw [← h.br.len]; simp
  have hk := h.keep (w' := w.alloc (.cells cs.toArray tid)) (fun k hk => Below.heap_alloc w _ k hk) (by simp) rfl rfl rfl
  have old : ∀ i y, g'.bx[i]? = some y → g.bx[i]? = some y ∨ (i = g.bx.length ∧ y = x) := fun i y hy => getElem?_snoc hy
  have hbs : Bs g g' := fun i y hy => ⟨y, by show (g.bx ++ [x])[i]? = some y; rw [List.getElem?_append_left (List.getElem?_eq_some_iff.1 hy).1]; exact hy, rfl, rfl, rfl⟩
  refine ⟨g', ⟨hle, hbs⟩, ⟨⟨hk.mem.ro, fun i y hy => ?_, hk.mem.rw, fun i y hy hf => ?_, fun i y hy hf => ?_, fun i j y z hy hz he => ?_, hk.mem.rro, hk.mem.rwo, fun i j y r hy hr2 => ?_, hk.mem.rr⟩, ⟨hk.fr.kept, fun i y hy => ?_, hk.fr.rw, hk.fr.ro, h.fr.le.trans hle⟩, ⟨?_, fun i T' a' hi => ?_⟩, fun i y hy hf => ?_, h.wr, h.wz⟩, (RC.ptr hnew (show T.loc [] = some (0, T) from by simp [Ty.loc])).rvp⟩
  · rcases old i y hy with h1 | ⟨_, rfl⟩
    · exact hk.mem.bx i y h1
    · exact Blk.new w tid cs.toArray
  · rcases old i y hy with h1 | ⟨_, rfl⟩
    · exact h.mem.fro i y h1 hf
    · cases hf
  · rcases old i y hy with h1 | ⟨_, rfl⟩
    · exact h.mem.bro i y h1 hf
    · exact h.mem.ro_new
  · rcases old i y hy with h1 | ⟨e1, rfl⟩ <;> rcases old j z hz with h2 | ⟨e2, rfl⟩
    · exact h.mem.bb i j y z h1 h2 he
    · have := (h.mem.bx i y h1).lt; have e3 : y.blk = w.heap.size := he; omega
    · have := (h.mem.bx j z h2).lt; have e3 : w.heap.size = z.blk := he; omega
    · omega
  · rcases old i y hy with h1 | ⟨e1, rfl⟩
    · exact h.mem.rb i j y r h1 hr2
    · intro e; have := (h.mem.rw j r hr2).lt e; exact Nat.lt_irrefl _ this
  · rcases old i y hy with h1 | ⟨e1, rfl⟩
    · exact h.fr.bx i y h1
    · exact .inl h.fr.kept.size
  · show (g.bx ++ [x]).length = _; simp [h.br.len]
  · rcases getElem?_snoc hi with h1 | ⟨e1, e2⟩
    · obtain ⟨y, hy, h2, h3⟩ := h.br.at_ i T' a' h1
      exact ⟨y, by show (g.bx ++ [x])[i]? = some y; rw [List.getElem?_append_left (List.getElem?_eq_some_iff.1 hy).1]; exact hy, h2, h3.mono hle⟩
    · injection e2 with e2 e3; subst e1 e2 e3
      exact ⟨x, hnew, rfl, hr.mono hle⟩
  · rcases old i y hy with h1 | ⟨e1, rfl⟩
    · exact h.fz i y h1 hf
    · cases hf
theorem getElem?_set_cases {α : Type} {l : List α} {i j : Nat} {x y : α} (h : (l.set i x)[j]? = some y) : (j = i ∧ y = x ∧ i < l.length) ∨ (j ≠ i ∧ l[j]? = some y) := by
  rw [List.getElem?_set] at h
  by_cases e : i = j
  · subst e
    rw [if_pos rfl] at h
    by_cases hl : i < l.length
    · rw [if_pos hl] at h; injection h with h; exact .inl ⟨rfl, h.symm, hl⟩
    · rw [if_neg hl] at h; cases h
  · rw [if_neg e] at h; exact .inr ⟨fun e' => e e'.symm, h⟩
/-- A box is written. -/
theorem Inv.set (h : Inv P w0 N g bx fz rw_ w) {i : Nat} {x : Bx} (hx : g.bx[i]? = some x) (hfz : i ∉ fz) {a : AV} {cs : List Value} (hr : RC g x.ty a cs) :
    ∃ g', g.le g' ∧ Inv P w0 N g' (bx.set i (x.ty, a)) fz rw_ (w.setRow x.blk cs.toArray) := by
  have hil : i < g.bx.length := (List.getElem?_eq_some_iff.1 hx).1
  have hxf : x.fz = false := by cases hf : x.fz with | false => rfl | true => exact absurd (h.fz i x hx hf) hfz
  let x' : Bx := { x with cells := cs }
  let g' : Gh := { g with bx := g.bx.set i x' }
  have old : ∀ j y, g'.bx[j]? = some y → (j = i ∧ y = x') ∨ (j ≠ i ∧ g.bx[j]? = some y) := fun j y hy => by
    rcases getElem?_set_cases hy with ⟨h1, h2, _⟩ | h1
    · exact .inl ⟨h1, h2⟩
    · exact .inr h1
  have hle : g.le g' := ⟨fun _ _ _ h => h, fun j y hy => by
    by_cases e : j = i
    · subst e; rw [hx] at hy; injection hy with hy; subst hy
      exact ⟨x', by show (g.bx.set j x')[j]? = some x'; rw [List.getElem?_set]; simp [hil], rfl, rfl⟩
    · exact ⟨y, by show (g.bx.set i x')[j]? = some y; rw [List.getElem?_set, if_neg (fun e' => e e'.symm)]; exact hy, rfl, rfl⟩, fun _ r h => ⟨r, h, rfl, rfl, rfl, Nat.le_refl _, fun _ => rfl⟩⟩
  have hne : ∀ k, k ≠ x.blk → (w.setRow x.blk cs.toArray).heap[k]? = w.heap[k]? := fun k hk => setRow_other w x.blk k _ hk
  refine ⟨g', hle, ⟨⟨fun b o u hr' => ?_, fun j y hy => ?_, fun j r hr' => ?_, fun j y hy hf => ?_, fun j y hy hf => ?_, fun j k y z hy hz he => ?_, h.mem.rro, h.mem.rwo, fun j k y r hy hr' => ?_, h.mem.rr⟩, ⟨?_, fun j y hy => ?_, h.fr.rw, h.fr.ro, h.fr.le.trans hle⟩, ⟨?_, fun j T' a' hi => ?_⟩, fun j y hy hf => ?_, h.wr, h.wz⟩⟩
  · have hb : b ≠ x.blk := fun e => by have := h.mem.bro i x hx hxf o; rw [← e] at this; rw [this] at hr'; cases hr'
    exact (World.cell?_of_block (a := ⟨b, o, none⟩) (hne b hb)).trans (h.mem.ro b o u hr')
  · rcases old j y hy with ⟨e, rfl⟩ | ⟨e, h1⟩
    · exact (h.mem.bx i x hx).row cs.toArray
    · exact (hne _ fun e' => e (h.mem.bb j i y x h1 hx e')).trans (h.mem.bx j y h1)
  · exact (h.mem.rw j r hr').keep fun k hk => hne k fun e => h.mem.rb i j x r hx hr' (by rw [hk, e])
  · rcases old j y hy with ⟨e, rfl⟩ | ⟨e, h1⟩
    · rw [show x'.fz = x.fz from rfl, hxf] at hf; cases hf
    · exact h.mem.fro j y h1 hf
  · rcases old j y hy with ⟨e, rfl⟩ | ⟨e, h1⟩
    · exact h.mem.bro i x hx hxf
    · exact h.mem.bro j y h1 hf
  · rcases old j y hy with ⟨e, rfl⟩ | ⟨e, h1⟩ <;> rcases old k z hz with ⟨e2, rfl⟩ | ⟨e2, h2⟩
    · omega
    · exact absurd (h.mem.bb i k x z hx h2 he) (fun e' => e2 e'.symm)
    · exact absurd (h.mem.bb j i y x h1 hx he) e
    · exact h.mem.bb j k y z h1 h2 he
  · rcases old j y hy with ⟨e, rfl⟩ | ⟨e, h1⟩
    · exact h.mem.rb i k x r hx hr'
    · exact h.mem.rb j k y r h1 hr'
  · exact h.fr.kept.row _ ((h.fr.bx i x hx).imp id fun ⟨y, h1, h2⟩ => .inl ⟨y, List.mem_of_getElem? h1, h2⟩)
  · rcases old j y hy with ⟨e, rfl⟩ | ⟨e, h1⟩
    · subst e; exact h.fr.bx j x hx
    · exact h.fr.bx j y h1
  · show (g.bx.set i x').length = _; simp [h.br.len]
  · rcases getElem?_set_cases hi with ⟨e1, e2, _⟩ | ⟨e1, h1⟩
    · injection e2 with e2 e3; subst e1 e2 e3
      exact ⟨x', by show (g.bx.set j x')[j]? = some x'; rw [List.getElem?_set]; simp [hil], rfl, hr.mono hle⟩
    · obtain ⟨y, hy, h2, h3⟩ := h.br.at_ j T' a' h1
      exact ⟨y, by show (g.bx.set i x')[j]? = some y; rw [List.getElem?_set, if_neg (fun e' => e1 e'.symm)]; exact hy, h2, h3.mono hle⟩
  · rcases old j y hy with ⟨e, rfl⟩ | ⟨e, h1⟩
    · subst e; exact h.fz j x hx hf
    · exact h.fz j y h1 hf
/-- A box is frozen: what it holds stays. -/
theorem Inv.freeze (h : Inv P w0 N g bx fz rw_ w) {i : Nat} {x : Bx} (hx : g.bx[i]? = some x) (hNi : N.bx.length ≤ i) :
    ∃ g', g.lex g' ∧ Inv P w0 N g' bx (i :: fz) rw_ w ∧ (∃ x', g'.bx[i]? = some x' ∧ x'.blk = x.blk ∧ x'.cells = x.cells ∧ x'.ty = x.ty) ∧ ∀ o u, x.cells[o]? = some u → g'.ro x.blk o = some u := by
  cases hxf : x.fz with
  | true => exact ⟨g, Gh.lex.refl g, ⟨h.mem, h.fr, h.br, fun j y hy hf => List.mem_cons_of_mem _ (h.fz j y hy hf), h.wr, h.wz⟩, ⟨x, hx, rfl, rfl, rfl⟩, h.mem.fro i x hx hxf⟩
  | false =>
  have hil : i < g.bx.length := (List.getElem?_eq_some_iff.1 hx).1
  have hnone := h.mem.bro i x hx hxf
  let x' : Bx := { x with fz := true }
  let g' : Gh := { g with ro := fun b o => if b = x.blk then x.cells[o]? else g.ro b o, bx := g.bx.set i x' }
  have hnew : g'.bx[i]? = some x' := by show (g.bx.set i x')[i]? = some x'; rw [List.getElem?_set]; simp [hil]
  have old : ∀ j y, g'.bx[j]? = some y → (j = i ∧ y = x') ∨ (j ≠ i ∧ g.bx[j]? = some y) := fun j y hy => by
    rcases getElem?_set_cases hy with ⟨h1, h2, _⟩ | h1
    · exact .inl ⟨h1, h2⟩
    · exact .inr h1
  have roo : ∀ b, b ≠ x.blk → ∀ o, g'.ro b o = g.ro b o := fun b hb o => by show (if b = x.blk then _ else _) = _; rw [if_neg hb]
  have ros : ∀ o, g'.ro x.blk o = x.cells[o]? := fun o => by show (if x.blk = x.blk then _ else _) = _; rw [if_pos rfl]
  have hle : g.le g' := ⟨fun b o u hu => by
      by_cases e : b = x.blk
      · subst e; rw [hnone] at hu; cases hu
      · rw [roo b e]; exact hu, fun j y hy => by
    by_cases e : j = i
    · subst e; rw [hx] at hy; injection hy with hy; subst hy
      exact ⟨x', hnew, rfl, rfl⟩
    · exact ⟨y, by show (g.bx.set i x')[j]? = some y; rw [List.getElem?_set, if_neg (fun e' => e e'.symm)]; exact hy, rfl, rfl⟩, fun _ r h => ⟨r, h, rfl, rfl, rfl, Nat.le_refl _, fun _ => rfl⟩⟩
  have hbs : Bs g g' := fun j y hy => by
    by_cases e : j = i
    · subst e; rw [hx] at hy; injection hy with hy; subst hy; exact ⟨x', hnew, rfl, rfl, rfl⟩
    · exact ⟨y, by show (g.bx.set i x')[j]? = some y; rw [List.getElem?_set, if_neg (fun e' => e e'.symm)]; exact hy, rfl, rfl, rfl⟩
  refine ⟨g', ⟨hle, hbs⟩, ⟨⟨fun b o u hr' => ?_, fun j y hy => ?_, h.mem.rw, fun j y hy hf => ?_, fun j y hy hf => ?_, fun j k y z hy hz he => ?_, fun j r k hr' hk o ho => ?_, fun j r k hr' hk o u hu => hle.ro _ _ _ (h.mem.rwo j r k hr' hk o u hu), fun j k y r hy hr' => ?_, h.mem.rr⟩, ⟨h.fr.kept, fun j y hy => ?_, h.fr.rw, fun b hb hn o => ?_, h.fr.le.trans hle⟩, ⟨?_, fun j T' a' hi => ?_⟩, fun j y hy hf => ?_, h.wr, h.wz⟩, ⟨x', hnew, rfl, rfl, rfl⟩, fun o u hu => by rw [ros]; exact hu⟩
  · by_cases e : b = x.blk
    · subst e; rw [ros] at hr'; rw [(h.mem.bx i x hx).cell]; simpa using hr'
    · rw [roo b e] at hr'; exact h.mem.ro b o u hr'
  · rcases old j y hy with ⟨e, rfl⟩ | ⟨e, h1⟩
    · exact h.mem.bx i x hx
    · exact h.mem.bx j y h1
  · rcases old j y hy with ⟨e, rfl⟩ | ⟨e, h1⟩
    · intro o u hu; rw [show x'.blk = x.blk from rfl, ros]; exact hu
    · intro o u hu; rw [roo _ fun e' => e (h.mem.bb j i y x h1 hx e')]; exact h.mem.fro j y h1 hf o u hu
  · rcases old j y hy with ⟨e, rfl⟩ | ⟨e, h1⟩
    · cases hf
    · intro o; rw [roo _ fun e' => e (h.mem.bb j i y x h1 hx e')]; exact h.mem.bro j y h1 hf o
  · rcases old j y hy with ⟨e, rfl⟩ | ⟨e, h1⟩ <;> rcases old k z hz with ⟨e2, rfl⟩ | ⟨e2, h2⟩
    · omega
    · exact absurd (h.mem.bb i k x z hx h2 he) (fun e' => e2 e'.symm)
    · exact absurd (h.mem.bb j i y x h1 hx he) e
    · exact h.mem.bb j k y z h1 h2 he
  · rw [roo k fun e => h.mem.rb i j x r hx hr' (by rw [hk, e])]; exact h.mem.rro j r k hr' hk o ho
  · rcases old j y hy with ⟨e, rfl⟩ | ⟨e, h1⟩
    · exact h.mem.rb i k x r hx hr'
    · exact h.mem.rb j k y r h1 hr'
  · rcases old j y hy with ⟨e, rfl⟩ | ⟨e, h1⟩
    · subst e; exact h.fr.bx j x hx
    · exact h.fr.bx j y h1
  · rw [roo b fun e => by
      subst e
      rcases h.fr.bx i x hx with h1 | ⟨y, h1, _⟩
      · omega
      · rw [List.getElem?_eq_none hNi] at h1; cases h1]
    exact h.fr.ro b hb hn o
  · show (g.bx.set i x').length = _; simp [h.br.len]
  · obtain ⟨y, hy, h2, h3⟩ := h.br.at_ j T' a' hi
    by_cases e : j = i
    · subst e; rw [hx] at hy; injection hy with hy; subst hy
      exact ⟨x', hnew, h2, h3.mono hle⟩
    · exact ⟨y, by show (g.bx.set i x')[j]? = some y; rw [List.getElem?_set, if_neg (fun e' => e e'.symm)]; exact hy, h2, h3.mono hle⟩
  · rcases old j y hy with ⟨e, rfl⟩ | ⟨e, h1⟩
    · subst e; exact List.mem_cons_self
    · exact List.mem_cons_of_mem _ (h.fz j y h1 hf)
/-- A new row. -/
theorem Inv.row (h : Inv P w0 N g bx fz rw_ w) {r : Rw} (hR : Row (w.alloc (.cells (r.cx ++ noughts r).toArray r.tid)) r) (hv : r.v = .slice (some ⟨w.heap.size, 0, none⟩) r.n (r.n + r.m)) (hz : r.es = P.cellsOf r.tid ∧ r.zero = zeroOf P r.tid) :
    ∃ g', g.lex g' ∧ Inv P w0 N g' bx fz (rw_ ++ [(r.tid, r.n)]) (w.alloc (.cells (r.cx ++ noughts r).toArray r.tid)) ∧ g'.rw[rw_.length]? = some r ∧ ∀ j u, r.cx[j]? = some u → g'.ro w.heap.size j = some u := by
  let g' : Gh := { g with ro := fun b o => if b = w.heap.size then r.cx[o]? else g.ro b o, rw := g.rw ++ [r] }
  have hlen : g.rw.length = rw_.length := by rw [← h.wr]; simp
  have hnew : g'.rw[rw_.length]? = some r := by show (g.rw ++ [r])[rw_.length]? = some r; rw [← hlen]; simp
  have hro := h.mem.ro_new
  have roo : ∀ b, b ≠ w.heap.size → ∀ o, g'.ro b o = g.ro b o := fun b hb o => by show (if b = w.heap.size then _ else _) = _; rw [if_neg hb]
  have ros : ∀ o, g'.ro w.heap.size o = r.cx[o]? := fun o => by show (if w.heap.size = w.heap.size then _ else _) = _; rw [if_pos rfl]
  have hle : g.le g' := ⟨fun b o u hu => by rw [roo b fun e => by subst e; exact absurd (h.mem.lt hu) (Nat.lt_irrefl _)]; exact hu, fun _ y hy => ⟨y, hy, rfl, rfl⟩,
    fun i s hs => ⟨s, by show (g.rw ++ [r])[i]? = some s; rw [List.getElem?_append_left (List.getElem?_eq_some_iff.1 hs).1]; exact hs, rfl, rfl, rfl, Nat.le_refl _, fun _ => rfl⟩⟩
  have hk := h.keep (w' := w.alloc (.cells (r.cx ++ noughts r).toArray r.tid)) (fun k hk => Below.heap_alloc w _ k hk) (by simp) rfl rfl rfl
  have old : ∀ i s, g'.rw[i]? = some s → g.rw[i]? = some s ∨ (i = g.rw.length ∧ s = r) := fun i s hs => getElem?_snoc hs
  have hob : r.v.ownBlock = some w.heap.size := by rw [hv]; rfl
  refine ⟨g', ⟨hle, fun i x hx => ⟨x, hx, rfl, rfl, rfl⟩⟩, ⟨⟨fun b o u hu => ?_, hk.mem.bx, fun i s hs => ?_, fun i y hy hf o u hu => hle.ro _ _ _ (h.mem.fro i y hy hf o u hu), fun i y hy hf o => ?_, h.mem.bb, fun i s k hs hk' o ho => ?_, fun i s k hs hk' o u hu => (by
      rcases old i s hs with h1 | ⟨_, rfl⟩
      · exact hle.ro _ _ _ (h.mem.rwo i s k h1 hk' o u hu)
      · rw [hob] at hk'; injection hk' with hk'; subst hk'; rw [ros]; exact hu), fun i j y s hy hs => ?_, fun i j s t k hs ht hsk htk => ?_⟩,
    ⟨hk.fr.kept, h.fr.bx, fun i s k hs hsk => ?_, fun b hb hn o => ?_, h.fr.le.trans hle⟩, ⟨h.br.len, fun i T a hi => ?_⟩, h.fz, ?_, fun s hs => ?_⟩, hnew, fun j u hu => by rw [ros]; exact hu⟩
  · by_cases e : b = w.heap.size
    · subst e
      rw [ros] at hu
      rw [(Blk.new w r.tid (r.cx ++ noughts r).toArray).cell, List.getElem?_toArray, List.getElem?_append_left (List.getElem?_eq_some_iff.1 hu).1]; exact hu
    · rw [roo b e] at hu; exact hk.mem.ro b o u hu
  · rcases old i s hs with h1 | ⟨_, rfl⟩
    · exact hk.mem.rw i s h1
    · exact hR
  · rw [roo _ fun e => by have := (h.mem.bx i y hy).lt; omega]; exact h.mem.bro i y hy hf o
  · rcases old i s hs with h1 | ⟨_, rfl⟩
    · rw [roo k fun e => by have := (h.mem.rw i s h1).lt hk'; omega]; exact h.mem.rro i s k h1 hk' o ho
    · rw [hob] at hk'; injection hk' with hk'; subst hk'
      rw [ros, List.getElem?_eq_none]; rw [hR.len]; exact ho
  · rcases old j s hs with h1 | ⟨_, rfl⟩
    · exact h.mem.rb i j y s hy h1
    · rw [hob]; intro e; injection e with e; have := (h.mem.bx i y hy).lt; omega
  · rcases old i s hs with h1 | ⟨e1, rfl⟩ <;> rcases old j t ht with h2 | ⟨e2, rfl⟩
    · exact h.mem.rr i j s t k h1 h2 hsk htk
    · rw [hob] at htk; injection htk with htk; have := (h.mem.rw i s h1).lt hsk; omega
    · rw [hob] at hsk; injection hsk with hsk; have := (h.mem.rw j t h2).lt htk; omega
    · omega
  · rcases old i s hs with h1 | ⟨e1, rfl⟩
    · exact h.fr.rw i s k h1 hsk
    · rw [hob] at hsk; injection hsk with hsk; rw [← hsk]; exact .inl h.fr.kept.size
  · rw [roo b fun e => by have := h.fr.kept.size; omega]; exact h.fr.ro b hb hn o
  · obtain ⟨y, hy, h2, h3⟩ := h.br.at_ i T a hi
    exact ⟨y, hy, h2, h3.mono hle⟩
  · show (g.rw ++ [r]).map (fun r => (r.tid, r.n)) = _; simp [h.wr]
  · rcases List.mem_append.1 (show s ∈ g.rw ++ [r] from hs) with h1 | h1
    · exact h.wz s h1
    · simp at h1; subst h1; exact hz
/-- A row that is none yet. -/
theorem Inv.rowNil (h : Inv P w0 N g bx fz rw_ w) {r : Rw} (hR : Row w r) (hv : r.v = .slice none 0 0) (hn : r.n = 0) (hz : r.es = P.cellsOf r.tid ∧ r.zero = zeroOf P r.tid) :
    ∃ g', g.lex g' ∧ Inv P w0 N g' bx fz (rw_ ++ [(r.tid, r.n)]) w ∧ g'.rw[rw_.length]? = some r := by
  let g' : Gh := { g with rw := g.rw ++ [r] }
  have hlen : g.rw.length = rw_.length := by rw [← h.wr]; simp
  have hnew : g'.rw[rw_.length]? = some r := by show (g.rw ++ [r])[rw_.length]? = some r; rw [← hlen]; simp
  have hle : g.le g' := ⟨fun b o u hu => hu, fun _ y hy => ⟨y, hy, rfl, rfl⟩,
    fun i s hs => ⟨s, by show (g.rw ++ [r])[i]? = some s; rw [List.getElem?_append_left (List.getElem?_eq_some_iff.1 hs).1]; exact hs, rfl, rfl, rfl, Nat.le_refl _, fun _ => rfl⟩⟩
  have old : ∀ i s, g'.rw[i]? = some s → g.rw[i]? = some s ∨ (i = g.rw.length ∧ s = r) := fun i s hs => getElem?_snoc hs
  have hob : r.v.ownBlock = none := by rw [hv]; rfl
  refine ⟨g', ⟨hle, fun i x hx => ⟨x, hx, rfl, rfl, rfl⟩⟩, ⟨⟨h.mem.ro, h.mem.bx, fun i s hs => ?_, h.mem.fro, h.mem.bro, h.mem.bb, fun i s k hs hk' o ho => ?_, fun i s k hs hk' o u hu => (by
      rcases old i s hs with h1 | ⟨_, rfl⟩
      · exact h.mem.rwo i s k h1 hk' o u hu
      · rw [hob] at hk'; cases hk'), fun i j y s hy hs => ?_, fun i j s t k hs ht hsk htk => ?_⟩,
    ⟨h.fr.kept, h.fr.bx, fun i s k hs hsk => ?_, h.fr.ro, h.fr.le.trans hle⟩, ⟨h.br.len, fun i T a hi => ?_⟩, h.fz, ?_, fun s hs => ?_⟩, hnew⟩
  · rcases old i s hs with h1 | ⟨_, rfl⟩
    · exact h.mem.rw i s h1
    · exact hR
  · rcases old i s hs with h1 | ⟨_, rfl⟩
    · exact h.mem.rro i s k h1 hk' o ho
    · rw [hob] at hk'; cases hk'
  · rcases old j s hs with h1 | ⟨_, rfl⟩
    · exact h.mem.rb i j y s hy h1
    · rw [hob]; intro e; cases e
  · rcases old i s hs with h1 | ⟨e1, rfl⟩
    · rcases old j t ht with h2 | ⟨e2, rfl⟩
      · exact h.mem.rr i j s t k h1 h2 hsk htk
      · rw [hob] at htk; cases htk
    · rw [hob] at hsk; cases hsk
  · rcases old i s hs with h1 | ⟨e1, rfl⟩
    · exact h.fr.rw i s k h1 hsk
    · rw [hob] at hsk; cases hsk
  · obtain ⟨y, hy, h2, h3⟩ := h.br.at_ i T a hi
    exact ⟨y, hy, h2, h3.mono hle⟩
  · show (g.rw ++ [r]).map (fun r => (r.tid, r.n)) = _; simp [h.wr]
  · rcases List.mem_append.1 (show s ∈ g.rw ++ [r] from hs) with h1 | h1
    · exact h.wz s h1
    · simp at h1; subst h1; exact hz
/-- A row has grown. -/
theorem Inv.grow (h : Inv P w0 N g bx fz rw_ w) {i : Nat} {r r' : Rw} {w' : World} (hr : g.rw[i]? = some r) (hR : Row w' r') (ht : r'.tid = r.tid) (he : r'.es = r.es) (hz : r'.zero = r.zero) {ys : List Value} (hc : r'.cx = r.cx ++ ys) (hlt : r.n < r'.n)
    (hg : w.grownBy w' r.v.ownBlock) (ho : r'.v.ownBlock = r.v.ownBlock ∨ r'.v.ownBlock = some w.heap.size) (hgn : r'.v.ownBlock = r.v.ownBlock ∨ w.grownBy w' none) :
    ∃ g', g.lex g' ∧ Inv P w0 N g' bx fz (rw_.set i (r'.tid, r'.n)) w' ∧ g'.rw[i]? = some r' ∧ ∀ k, r'.v.ownBlock = some k → ∀ j u, r'.cx[j]? = some u → g'.ro k j = some u := by
  have hil : i < g.rw.length := (List.getElem?_eq_some_iff.1 hr).1
  have hrow := h.mem.rw i r hr
  let g' : Gh := { g with ro := fun b o => if r'.v.ownBlock = some b then r'.cx[o]? else g.ro b o, rw := g.rw.set i r' }
  have hnew : g'.rw[i]? = some r' := by show (g.rw.set i r')[i]? = some r'; rw [List.getElem?_set]; simp [hil]
  have roo : ∀ b, r'.v.ownBlock ≠ some b → ∀ o, g'.ro b o = g.ro b o := fun b hb o => by show (if _ then _ else _) = _; rw [if_neg hb]
  have ros : ∀ b, r'.v.ownBlock = some b → ∀ o, g'.ro b o = r'.cx[o]? := fun b hb o => by show (if _ then _ else _) = _; rw [if_pos hb]
  have rold : ∀ b o u, r'.v.ownBlock = some b → g.ro b o = some u → r'.cx[o]? = some u := by
    intro b o u hb hu
    rcases ho with ho | ho
    · rw [ho] at hb
      have hlt2 : o < r.cx.length := by
        rw [hrow.len]
        rcases Nat.lt_or_ge o (r.n * r.es) with h1 | h1
        · exact h1
        · rw [h.mem.rro i r b hr hb o h1] at hu; cases hu
      have hcell := h.mem.ro b o u hu
      rcases hrow.at_ with ⟨e, _⟩ | ⟨k, e, hb2, _⟩
      · rw [e] at hb; simp [Value.ownBlock] at hb
      · rw [e] at hb; simp [Value.ownBlock] at hb; subst hb
        rw [hb2.cell, List.getElem?_toArray, List.getElem?_append_left hlt2] at hcell
        rw [hc, List.getElem?_append_left hlt2]; exact hcell
    · rw [ho] at hb; injection hb with hb; subst hb
      exact absurd (h.mem.lt hu) (Nat.lt_irrefl _)
  have old : ∀ j s, g'.rw[j]? = some s → (j = i ∧ s = r') ∨ (j ≠ i ∧ g.rw[j]? = some s) := fun j s hs => by
    rcases getElem?_set_cases hs with ⟨h1, h2, _⟩ | h1
    · exact .inl ⟨h1, h2⟩
    · exact .inr h1
  have hle : g.le g' := ⟨fun b o u hu => by
      by_cases e : r'.v.ownBlock = some b
      · rw [ros b e]; exact rold b o u e hu
      · rw [roo b e]; exact hu, fun _ y hy => ⟨y, hy, rfl, rfl⟩, fun j s hs => by
    by_cases e : j = i
    · subst e; rw [hr] at hs; injection hs with hs; subst hs
      exact ⟨r', hnew, ht, he, hz, Nat.le_of_lt hlt, fun e => by omega⟩
    · exact ⟨s, by show (g.rw.set i r')[j]? = some s; rw [List.getElem?_set, if_neg (fun e' => e e'.symm)]; exact hs, rfl, rfl, rfl, Nat.le_refl _, fun _ => rfl⟩⟩
  have hob : ∀ k, r'.v.ownBlock = some k → r.v.ownBlock = some k ∨ k = w.heap.size := fun k hk => by
    rcases ho with ho | ho
    · rw [ho] at hk; exact .inl hk
    · rw [ho] at hk; injection hk with hk; exact .inr hk.symm
  have hbk : ∀ k, k < w.heap.size → r.v.ownBlock ≠ some k → w'.heap[k]? = w.heap[k]? := fun k hk hne => hg.block k hk fun e => hne e.symm
  refine ⟨g', ⟨hle, fun i x hx => ⟨x, hx, rfl, rfl, rfl⟩⟩, ⟨⟨fun b o u hu => ?_, fun j y hy => ?_, fun j s hs => ?_, fun j y hy hf o u hu => hle.ro _ _ _ (h.mem.fro j y hy hf o u hu), fun j y hy hf o => ?_, h.mem.bb, fun j s k hs hk' o ho' => ?_, fun j s k hs hk' o u hu => (by
      rcases old j s hs with ⟨e, rfl⟩ | ⟨e, h1⟩
      · rw [ros k hk']; exact hu
      · exact hle.ro _ _ _ (h.mem.rwo j s k h1 hk' o u hu)), fun j k y s hy hs => ?_, fun j l s t k hs ht' hsk htk => ?_⟩,
    ⟨h.fr.kept.trans (M := fun k => r.v.ownBlock = some k) (Kept.of_grown hg fun k hk => hk) (fun k hk hk' => by
      rcases h.fr.rw i r k hr hk' with h1 | ⟨s, h1, h2⟩
      · omega
      · exact .inr ⟨s, List.mem_of_getElem? h1, h2⟩), h.fr.bx, fun j s k hs hsk => ?_, fun b hb hn o => ?_, h.fr.le.trans hle⟩, ⟨h.br.len, fun j T a hi => ?_⟩, h.fz, ?_, fun s hs => ?_⟩, hnew, fun k hk j u hu => by rw [ros k hk]; exact hu⟩
  · by_cases e : r'.v.ownBlock = some b
    · rw [ros b e] at hu
      rcases hR.at_ with ⟨e', _⟩ | ⟨k, e', hb2, _⟩
      · rw [e'] at e; simp [Value.ownBlock] at e
      · rw [e'] at e; simp [Value.ownBlock] at e; subst e
        rw [hb2.cell, List.getElem?_toArray, List.getElem?_append_left (List.getElem?_eq_some_iff.1 hu).1]; exact hu
    · rw [roo b e] at hu
      by_cases e2 : r.v.ownBlock = some b
      · -- the elder block, left behind
        have hcell := h.mem.ro b o u hu
        · have hb := h.mem.lt hu
          have hcell' : w'.heap[b]? = w.heap[b]? := by
            rcases hgn with h1 | h1
            · exact absurd (h1.trans e2) e
            · exact h1.block b hb (fun e => by cases e)
          exact (World.cell?_of_block (a := ⟨b, o, none⟩) hcell').trans hcell
      · exact (World.cell?_of_block (a := ⟨b, o, none⟩) (hbk b (h.mem.lt hu) e2)).trans (h.mem.ro b o u hu)
  · have := h.mem.bx j y hy
    exact (hbk _ this.lt (fun e => h.mem.rb j i y r hy hr e)).trans this
  · rcases old j s hs with ⟨e, rfl⟩ | ⟨e, h1⟩
    · exact hR
    · exact (h.mem.rw j s h1).keep fun k hk => hbk k ((h.mem.rw j s h1).lt hk) fun e' => e (h.mem.rr j i s r k h1 hr hk e')
  · by_cases e : r'.v.ownBlock = some y.blk
    · rcases hob _ e with h1 | h1
      · exact absurd h1 (h.mem.rb j i y r hy hr)
      · have := (h.mem.bx j y hy).lt; omega
    · rw [roo _ e]; exact h.mem.bro j y hy hf o
  · rcases old j s hs with ⟨e, rfl⟩ | ⟨e, h1⟩
    · rw [ros k hk', List.getElem?_eq_none]; rw [hR.len]; exact ho'
    · rw [roo k fun e' => by
        rcases hob _ e' with h2 | h2
        · exact e (h.mem.rr j i s r k h1 hr hk' h2)
        · have := (h.mem.rw j s h1).lt hk'; omega]
      exact h.mem.rro j s k h1 hk' o ho'
  · rcases old k s hs with ⟨e, rfl⟩ | ⟨e, h1⟩
    · intro e'
      rcases hob _ e' with h2 | h2
      · exact h.mem.rb j i y r hy hr h2
      · have := (h.mem.bx j y hy).lt; omega
    · exact h.mem.rb j k y s hy h1
  · rcases old j s hs with ⟨e, rfl⟩ | ⟨e, h1⟩ <;> rcases old l t ht' with ⟨e2, rfl⟩ | ⟨e2, h2⟩
    · omega
    · rcases hob _ hsk with h3 | h3
      · exact absurd (h.mem.rr i l r t k hr h2 h3 htk) (fun e' => e2 e'.symm)
      · have := (h.mem.rw l t h2).lt htk; omega
    · rcases hob _ htk with h3 | h3
      · exact absurd (h.mem.rr j i s r k h1 hr hsk h3) e
      · have := (h.mem.rw j s h1).lt hsk; omega
    · exact h.mem.rr j l s t k h1 h2 hsk htk
  · rcases old j s hs with ⟨e, rfl⟩ | ⟨e, h1⟩
    · rcases hob _ hsk with h3 | h3
      · subst e; exact h.fr.rw j r k hr h3
      · rw [h3]; exact .inl h.fr.kept.size
    · exact h.fr.rw j s k h1 hsk
  · rw [roo b fun e' => by
      rcases hob _ e' with h3 | h3
      · rcases h.fr.rw i r b hr h3 with h4 | ⟨s, h4, h5⟩
        · omega
        · exact hn (.inr ⟨s, List.mem_of_getElem? h4, h5⟩)
      · have := h.fr.kept.size; omega]
    exact h.fr.ro b hb hn o
  · obtain ⟨y, hy, h2, h3⟩ := h.br.at_ j T a hi
    exact ⟨y, hy, h2, h3.mono hle⟩
  · show (g.rw.set i r').map (fun r => (r.tid, r.n)) = _
    rw [List.map_set, ← h.wr]
  · rcases List.mem_or_eq_of_mem_set (show s ∈ g.rw.set i r' from hs) with h1 | rfl
    · exact h.wz s h1
    · have := h.wz r (List.mem_of_getElem? hr); rw [ht, he, hz]; exact this
end
end Go.Proofs.Ytpeefeioccglcaa
