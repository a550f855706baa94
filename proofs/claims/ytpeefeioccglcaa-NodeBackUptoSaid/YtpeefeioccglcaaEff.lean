/- Operations that make or write memory: append. -/
import Derived.Test.YtpeefeioccglcaaBuild
import Derived.Test.YtpeefeioccglcaaGhost
set_option linter.unusedSimpArgs false
set_option linter.unusedVariables false
namespace Go.Proofs.Ytpeefeioccglcaa
open Go Go.RowKit
abbrev Chunk (es : Nat) := {cs : List Value // cs.length = es ∧ ∀ u ∈ cs, u.oneCell' = true}
def chunkE (es : Nat) (h : 0 < es) (tid : TypeId) (bytes : Nat) (zero : Chunk es) : El (Chunk es) where
  ty := tid
  size := es
  bytes := bytes
  enc := (·.1)
  zero := zero
  pos := h
  len x := x.2.1
  one x := x.2.2
theorem chunks (es : Nat) (h : 0 < es) (tid bytes : Nat) (zero : Chunk es) : ∀ (n : Nat) (cx : List Value), cx.length = n * es → (∀ u ∈ cx, u.oneCell' = true) → ∃ xs : List (Chunk es), xs.length = n ∧ (chunkE es h tid bytes zero).all xs = cx := by
  intro n
  induction n with
  | zero => intro cx hl _; rw [Nat.zero_mul] at hl; exact ⟨[], rfl, by rw [List.length_eq_zero_iff.1 hl]; rfl⟩
  | succ n ih =>
    intro cx hl h1
    rw [Nat.add_mul, Nat.one_mul] at hl
    obtain ⟨xs, h2, h3⟩ := ih (cx.drop es) (by rw [List.length_drop]; omega) (fun u hu => h1 u (List.mem_of_mem_drop hu))
    refine ⟨⟨cx.take es, by rw [List.length_take]; omega, fun u hu => h1 u (List.mem_of_mem_take hu)⟩ :: xs, by rw [List.length_cons, h2], ?_⟩
    rw [El.all_cons, h3]; exact List.take_append_drop es cx
section
variable {P : Program} {w : World}
theorem Row.fits {r : Rw} (hrow : Row w r) (hz : r.es = P.cellsOf r.tid ∧ r.zero = zeroOf P r.tid) {inf : TypeInfo} (hi : P.info? r.tid = some inf) {z : Value} (hzv : inf.zero = some z) :
    ∃ E : El (Chunk r.es), E.fits P ∧ E.ty = r.tid ∧ E.size = r.es ∧ E.bytes = inf.bytes ∧ E.enc E.zero = r.zero ∧ ∀ n (cx : List Value), cx.length = n * r.es → (∀ u ∈ cx, u.oneCell' = true) → ∃ xs : List (Chunk r.es), xs.length = n ∧ E.all xs = cx := by
  have h1 : r.zero = z.cells.toList := by rw [hz.2]; simp [zeroOf, hi, hzv]
  have h2 : inf.size = r.es := by rw [hz.1]; simp [Program.cellsOf, hi]
  refine ⟨chunkE r.es hrow.pos r.tid inf.bytes ⟨r.zero, hrow.zl, fun u hu => hrow.one u (List.mem_append_right _ hu)⟩, ?_, rfl, rfl, rfl, rfl, fun n cx => chunks r.es hrow.pos r.tid inf.bytes _ n cx⟩
  unfold El.fits
  simp [chunkE, hi, hzv, h1, h2]
theorem Row.own {r : Rw} (hrow : Row w r) {E : El (Chunk r.es)} (hty : E.ty = r.tid) (hsz : E.size = r.es) (hzz : E.enc E.zero = r.zero) {xs : List (Chunk r.es)} (hxl : xs.length = r.n) (hxc : E.all xs = r.cx) : Own E w 0 r.v xs (List.replicate r.m E.zero) := by
  rcases hrow.at_ with ⟨e1, e2, e3⟩ | ⟨k, e1, hb, hm⟩
  · rw [e2] at hxl; exact .inl ⟨e1, List.length_eq_zero_iff.1 hxl, by rw [e3]; rfl⟩
  · refine .inr ⟨k, Nat.zero_le _, ?_, ?_, ?_⟩
    · rw [e1, hxl, List.length_replicate]
    · rw [El.all_append, hxc, El.all_replicate, hzz, hty]; exact hb
    · rw [hxl, List.length_replicate]; exact hm
/-- append onto a row. -/
theorem run_appendR {r : Rw} (hrow : Row w r) (hz : r.es = P.cellsOf r.tid ∧ r.zero = zeroOf P r.tid) {inf : TypeInfo} (hi : P.info? r.tid = some inf) {z : Value} (hzv : inf.zero = some z) {t : TypeId} (ht : P.underlying t = some (.slice r.tid)) (ty : TypeId)
    {m : Nat} {ys : List Value} (hl : ys.length = m * r.es) (h1 : ∀ u ∈ ys, u.oneCell' = true) {A : Option Addr} (c : Nat) (hsrc : m = 0 ∨ ∃ b o, A = some ⟨b, o, none⟩ ∧ ∀ j u, ys[j]? = some u → w.cell? ⟨b, o + j, none⟩ = some u)
    (b1 : r.n + m ≤ maxLen) (b2 : (r.n + m) * inf.bytes ≤ 140737488355328) :
    ∃ (r' : Rw) (w' : World), (Builtin.append_ #[t, t] ty #[r.v, .slice A m c]).run P w = .ok r'.v w' ∧ Row w' r' ∧ r'.tid = r.tid ∧ r'.es = r.es ∧ r'.zero = r.zero ∧ r'.cx = r.cx ++ ys ∧ r'.n = r.n + m ∧
      w.grownBy w' r.v.ownBlock ∧ (r'.v.ownBlock = r.v.ownBlock ∨ r'.v.ownBlock = some w.heap.size) ∧ (r'.v.ownBlock = r.v.ownBlock ∨ w.grownBy w' none) := by
  obtain ⟨E, hE, hty, hsz, hby, hzz, hch⟩ := hrow.fits hz hi hzv
  obtain ⟨xs, hxl, hxc⟩ := hch r.n r.cx hrow.len (fun u hu => hrow.one u (List.mem_append_left _ hu))
  obtain ⟨zs, hzl, hzc⟩ := hch m ys hl h1
  have hown := hrow.own hty hsz hzz hxl hxc
  have hrd : Rd E w w.heap.size A zs := by
    rcases hsrc with h | ⟨b, o, hA, hcell⟩
    · exact .inl (List.length_eq_zero_iff.1 (hzl.trans h))
    · cases hm : m with
      | zero => exact .inl (List.length_eq_zero_iff.1 (hzl.trans hm))
      | succ m' =>
        refine .inr ⟨b, o, hA, ?_, fun j u hu => hcell j u (by rw [hzc] at hu; exact hu)⟩
        have hpos : 0 < ys.length := by rw [hl, hm]; exact Nat.mul_pos (Nat.succ_pos _) hrow.pos
        have := hcell 0 _ (List.getElem?_eq_getElem hpos)
        unfold World.cell? at this
        cases hb : w.heap[b]? with
        | none => simp [hb] at this
        | some x => exact (Array.getElem?_eq_some_iff.1 hb).1
  obtain ⟨v', w', sp', hrun, h2, h3, h4, h5, h6⟩ := run_append hE t ty (by rw [hty]; exact ht) hown c hrd hzl (by rw [hxl]; exact b1) (by rw [hxl, hby]; exact b2) (Nat.zero_le _)
  obtain ⟨k', hk'⟩ := h5 _ rfl
  subst hk'
  refine ⟨{ r with v := v', n := r.n + m, cx := r.cx ++ ys, m := k' }, w', hrun, ⟨hrow.pos, hrow.zl, ?_, ?_, ?_⟩, rfl, rfl, rfl, rfl, rfl, h3, h4, h6⟩
  · intro u hu
    simp only [List.mem_append] at hu
    rcases hu with (hu | hu) | hu
    · exact hrow.one u (List.mem_append_left _ hu)
    · exact h1 u hu
    · exact hrow.one u (List.mem_append_right _ hu)
  · show (r.cx ++ ys).length = (r.n + m) * r.es
    rw [List.length_append, hrow.len, hl, Nat.add_mul]
  · rcases h2 with ⟨e1, e2, e3⟩ | ⟨k, _, e1, hb, hm⟩
    · have : xs.length + zs.length = 0 := by rw [← List.length_append, e2]; rfl
      exact .inl ⟨e1, by show r.n + m = 0; omega, by have := congrArg List.length e3; simpa using this⟩
    · refine .inr ⟨k, ?_, ?_, ?_⟩
      · rw [e1, List.length_append, hxl, hzl, List.length_replicate]
      · rw [El.all_append, El.all_append, hxc, hzc, El.all_replicate, hzz, hty] at hb; exact hb
      · rw [List.length_append, hxl, hzl, List.length_replicate] at hm; exact hm
/-- append of nothing. -/
theorem run_append_nought {r : Rw} (hrow : Row w r) {inf : TypeInfo} (hi : P.info? r.tid = some inf) {t : TypeId} (ht : P.underlying t = some (.slice r.tid)) (ty : TypeId) (A : Option Addr) (c : Nat) :
    (Builtin.append_ #[t, t] ty #[r.v, .slice A 0 c]).run P w = .ok r.v w := by
  rcases hrow.at_ with ⟨e1, e2, e3⟩ | ⟨k, e1, hb, hm⟩
  · rw [e1]; cases A <;> simp [Builtin.append_, run_underlying ht, sizeOf, typeInfo, hi, Builtin.lenOf, Builtin.firstCells, loadCells, loadCellsFrom]
  · rw [e1]; cases A <;> simp [Builtin.append_, run_underlying ht, sizeOf, typeInfo, hi, Builtin.lenOf, Builtin.firstCells, loadCells, loadCellsFrom, storeCells]
end
end Go.Proofs.Ytpeefeioccglcaa
