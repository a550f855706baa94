/- A part of a block that is known whole: loaded and stored as one value (an array, a struct). -/
import Derived.Test.YtpeefeioccglcaaMem
import Derived.Test.YtpeefeioccglcaaReg
import Derived.Deep.MidRow
set_option linter.unusedSimpArgs false
set_option linter.unusedVariables false
namespace Go.Proofs.Ytpeefeioccglcaa
open Go Go.RowKit
section
variable {P : Program}

theorem addr_add (g o j : Nat) : (⟨g, o, none⟩ : Addr).add j = ⟨g, o + j, none⟩ := by unfold Addr.add; split <;> simp_all

/-- Is it a struct or an array? -/
def aggB (d : Option TypeDesc) : Bool := match d with | some (.struct _) | some (.array _ _) => true | _ => false

theorem run_ld {w : World} {g : Nat} {t : TypeId} {cs : Array Value} (hb : Blk w g t cs) {pre mid post : List Value} (hcs : cs.toList = pre ++ mid ++ post) (ty : TypeId)
    (hd : aggB (P.underlying ty) = true) (hi : (P.info? ty).map (·.size) = some mid.length) :
    (loadVar ty ⟨g, pre.length, none⟩).run P w = .ok (.agg mid.toArray) w := by
  have hl : (loadCells ⟨g, pre.length, none⟩ mid.length).run P w = .ok mid.toArray w :=
    run_loadCells_list (P := P) w ⟨g, pre.length, none⟩ mid (fun j v hv => by
      rw [addr_add, hb.cell, ← Array.getElem?_toList, hcs, List.append_assoc, List.getElem?_append_right (by omega)]
      rw [show pre.length + j - pre.length = j by omega, List.getElem?_append_left (List.getElem?_eq_some_iff.1 hv).1]
      exact hv)
  cases hq : P.info? ty with
  | none => simp [hq] at hi
  | some i =>
    have hs : i.size = mid.length := by simpa [hq] using hi
    cases hu : P.underlying ty with
    | none => rw [hu] at hd; cases hd
    | some d =>
      rw [hu] at hd
      have hagg : (isAgg ty).run P w = .ok true w := by
        unfold isAgg
        rw [Sem.run_bind, run_underlying hu w]
        cases d <;> simp_all [aggB]
      simp [loadVar, Sem.run_bind, hagg, sizeOf, typeInfo, hq, hs, hl]

theorem wp_ld {o : Oper} {a : Act} {w : World} {K : Act → World → Prop} {Q : Exit → Act → World → Prop} (ty : TypeId) (x : Operand) (ho : o.op = .load ty x)
    {g : Nat} {t : TypeId} {cs : Array Value} (hb : Blk w g t cs) {pre mid post : List Value} (hcs : cs.toList = pre ++ mid ++ post) {off : Nat} (hoff : pre.length = off) (hx : a.eval x = .pointer (some ⟨g, off, none⟩))
    (hd : aggB (P.underlying ty) = true) (hi : (P.info? ty).map (·.size) = some mid.length) (h : K (a.put o.dst (.agg mid.toArray)) w) : o.wp P a w K Q := by
  subst hoff
  unfold Oper.wp execOp
  simp only [ho, hx, Instr.loadAt, Instr.sureAddr, Sem.run_bind, Sem.run_pure, Result.andThen_ok, run_ld hb hcs ty hd hi]
  exact h

theorem wpList_ld {ops : Array Oper} {rest : List Oper} {o : Oper} {a : Act} {w : World} {Q : Exit → Act → World → Prop} (hgd : o.guard = none) (ty : TypeId) (x : Operand) (ho : o.op = .load ty x)
    {g : Nat} {t : TypeId} {cs : Array Value} (hb : Blk w g t cs) {pre mid post : List Value} (hcs : cs.toList = pre ++ mid ++ post) {off : Nat} (hoff : pre.length = off) (hx : a.eval x = .pointer (some ⟨g, off, none⟩))
    (hd : aggB (P.underlying ty) = true) (hi : (P.info? ty).map (·.size) = some mid.length) (h : wpList P ops Q rest (a.put o.dst (.agg mid.toArray)) w) : wpList P ops Q (o :: rest) a w :=
  wpList_plain hgd fun _ hK => wp_ld ty x ho hb hcs hoff hx hd hi (hK _ _ h)

theorem run_st {w : World} {g : Nat} {t : TypeId} {cs : Array Value} (hb : Blk w g t cs) {pre mid post news : List Value} (hcs : cs.toList = pre ++ mid ++ post) (ty : TypeId)
    (hi : (P.info? ty).map (·.size) = some news.length) (hl : news.length = mid.length) (h1 : ∀ v ∈ news, v.oneCell' = true) :
    (storeVar ty ⟨g, pre.length, none⟩ (.agg news.toArray)).run P w = .ok () (w.setRow g (pre ++ news ++ post).toArray) := by
  have hsz : cs.size = (pre ++ mid ++ post).length := by rw [← hcs]; simp
  have hst := run_storeCells_at P g pre.length t news 0 cs w hb (by simp only [List.length_append] at hsz; omega) h1
  have hrow : (cs.toList.take (pre.length + 0) ++ news ++ cs.toList.drop (pre.length + 0 + news.length)) = pre ++ news ++ post := by
    rw [hcs, hl, Nat.add_zero, List.append_assoc pre mid post, List.take_left, ← List.append_assoc, ← List.length_append, List.drop_left]
  rw [hrow] at hst
  cases hq : P.info? ty with
  | none => simp [hq] at hi
  | some i =>
    have hs : news.length = i.size := by simp [hq] at hi; omega
    simp [storeVar, sizeOf, typeInfo, hq, Value.cells, hs, hst]

theorem wp_st {o : Oper} {a : Act} {w : World} {K : Act → World → Prop} {Q : Exit → Act → World → Prop} (ty : TypeId) (x y : Operand) (ho : o.op = .store ty x y)
    {g : Nat} {t : TypeId} {cs : Array Value} (hb : Blk w g t cs) {pre mid post news : List Value} (hcs : cs.toList = pre ++ mid ++ post) {off : Nat} (hoff : pre.length = off) (hx : a.eval x = .pointer (some ⟨g, off, none⟩))
    (hy : a.eval y = .agg news.toArray) (hi : (P.info? ty).map (·.size) = some news.length) (hl : news.length = mid.length) (h1 : ∀ v ∈ news, v.oneCell' = true)
    (h : K (a.put o.dst undef) (w.setRow g (pre ++ news ++ post).toArray)) : o.wp P a w K Q := by
  subst hoff
  unfold Oper.wp execOp
  simp only [ho, hx, hy, Instr.storeAt, Instr.sureAddr, Sem.run_bind, Sem.run_pure, Result.andThen_ok, run_st hb hcs ty hi hl h1]
  exact h

theorem wpList_st {ops : Array Oper} {rest : List Oper} {o : Oper} {a : Act} {w : World} {Q : Exit → Act → World → Prop} (hgd : o.guard = none) (ty : TypeId) (x y : Operand) (ho : o.op = .store ty x y)
    {g : Nat} {t : TypeId} {cs : Array Value} (hb : Blk w g t cs) {pre mid post news : List Value} (hcs : cs.toList = pre ++ mid ++ post) {off : Nat} (hoff : pre.length = off) (hx : a.eval x = .pointer (some ⟨g, off, none⟩))
    (hy : a.eval y = .agg news.toArray) (hi : (P.info? ty).map (·.size) = some news.length) (hl : news.length = mid.length) (h1 : ∀ v ∈ news, v.oneCell' = true)
    (h : wpList P ops Q rest (a.put o.dst undef) (w.setRow g (pre ++ news ++ post).toArray)) : wpList P ops Q (o :: rest) a w :=
  wpList_plain hgd fun _ hK => wp_st ty x y ho hb hcs hoff hx hy hi hl h1 (hK _ _ h)

/-- An operation whose run is known. -/
theorem wpList_run {ops : Array Oper} {rest : List Oper} {o : Oper} {a : Act} {w : World} {Q : Exit → Act → World → Prop} (hgd : o.guard = none) (v : Value)
    (hr : (execOp a.eval o).run P w = .ok (.value v) w) (h : wpList P ops Q rest (a.put o.dst v) w) : wpList P ops Q (o :: rest) a w :=
  wpList_plain hgd fun _ hK => by unfold Oper.wp; rw [hr]; exact hK _ _ h
theorem wpList_build {ops : Array Oper} {rest : List Oper} {o : Oper} {a : Act} {w : World} {Q : Exit → Act → World → Prop} (hgd : o.guard = none) (ty : TypeId) (ps : Array (Nat × Operand)) (_ho : o.op = .build ty ps) (v : Value)
    (hr : ∀ w, (execOp a.eval o).run P w = .ok (.value v) w) (h : wpList P ops Q rest (a.put o.dst v) w) : wpList P ops Q (o :: rest) a w :=
  wpList_run hgd v (hr w) h
/-- Of the world at hand some facts are kept, the rest is forgotten. -/
theorem wpList_forget {ops : Array Oper} {rest : List Oper} {a : Act} {w : World} {Q : Exit → Act → World → Prop} (F : World → Prop) (hF : F w) (h : ∀ w, F w → wpList P ops Q rest a w) : wpList P ops Q rest a w := h w hF
theorem code_forget {c : Code} {a : Act} {w : World} {Q : Exit → Act → World → Prop} (F : World → Prop) (hF : F w) (h : ∀ w, F w → c.wp P Q a w) : c.wp P Q a w := h w hF
/-- The whole block. -/
theorem wpList_ldAll {ops : Array Oper} {rest : List Oper} {o : Oper} {a : Act} {w : World} {Q : Exit → Act → World → Prop} (hgd : o.guard = none) (ty : TypeId) (x : Operand) (ho : o.op = .load ty x)
    {g : Nat} {t : TypeId} {mid : List Value} (hb : Blk w g t mid.toArray) (hx : a.eval x = .pointer (some ⟨g, 0, none⟩))
    (hd : aggB (P.underlying ty) = true) (hi : (P.info? ty).map (·.size) = some mid.length) (h : wpList P ops Q rest (a.put o.dst (.agg mid.toArray)) w) : wpList P ops Q (o :: rest) a w :=
  wpList_ld hgd ty x ho hb (pre := []) (mid := mid) (post := []) (by simp) rfl hx hd hi h
theorem wp_stAll {o : Oper} {a : Act} {w : World} {K : Act → World → Prop} {Q : Exit → Act → World → Prop} (ty : TypeId) (x y : Operand) (ho : o.op = .store ty x y)
    {g : Nat} {t : TypeId} {cs : Array Value} {news : List Value} (hb : Blk w g t cs) (hx : a.eval x = .pointer (some ⟨g, 0, none⟩)) (hy : a.eval y = .agg news.toArray)
    (hi : (P.info? ty).map (·.size) = some news.length) (hl : cs.size = news.length) (h1 : ∀ v ∈ news, v.oneCell' = true)
    (h : K (a.put o.dst undef) (w.setRow g news.toArray)) : o.wp P a w K Q :=
  wp_st ty x y ho hb (pre := []) (mid := cs.toList) (post := []) (by simp) rfl hx hy hi (by simpa using hl.symm) h1 (by simpa using h)
theorem wpList_stAll {ops : Array Oper} {rest : List Oper} {o : Oper} {a : Act} {w : World} {Q : Exit → Act → World → Prop} (hgd : o.guard = none) (ty : TypeId) (x y : Operand) (ho : o.op = .store ty x y)
    {g : Nat} {t : TypeId} {cs : Array Value} {news : List Value} (hb : Blk w g t cs) (hx : a.eval x = .pointer (some ⟨g, 0, none⟩)) (hy : a.eval y = .agg news.toArray)
    (hi : (P.info? ty).map (·.size) = some news.length) (hl : cs.size = news.length) (h1 : ∀ v ∈ news, v.oneCell' = true)
    (h : wpList P ops Q rest (a.put o.dst undef) (w.setRow g news.toArray)) : wpList P ops Q (o :: rest) a w :=
  wpList_st hgd ty x y ho hb (pre := []) (mid := cs.toList) (post := []) (by simp) rfl hx hy hi (by simpa using hl.symm) h1 (by simpa using h)

/-- In a region that draws its order: a whole block is loaded. -/
theorem wpT_ld {ops : Array Oper} {Q : Exit → Act → World → Prop} {S : World → Prop} {L A : List Nat} {o : Oper} {l : List Oper} {k : Nat} {a : Act} {w : World} (hw : Region.wanted o (yielded ops a.tmps) = true) (hl : L.contains k = false) (ty : TypeId) (x : Operand) (ho : o.op = .load ty x)
    {g : Nat} {t : TypeId} {cs : Array Value} {pre mid post : List Value} (hcs : cs.toList = pre ++ mid ++ post) {off : Nat} (hoff : pre.length = off) (hb : Blk w g t cs) (hS : A.contains k = true → ∀ w', S w' → Blk w' g t cs) (hx : a.eval x = .pointer (some ⟨g, off, none⟩))
    (hd : aggB (P.underlying ty) = true) (hi : (P.info? ty).map (·.size) = some mid.length) (h : wpT P ops Q S L A l (k + 1) (a.put o.dst (.agg mid.toArray)) w) : wpT P ops Q S L A (o :: l) k a w := by
  subst hoff
  have hr : ∀ w', Blk w' g t cs → Vr P o a w' (.agg mid.toArray) := by
    intro w' hb'
    unfold Vr execOp
    simp only [ho, hx, Instr.loadAt, Instr.sureAddr, Sem.run_bind, Sem.run_pure, Result.andThen_ok, run_ld hb' hcs ty hd hi]
  unfold wpT
  rw [if_pos hw, if_neg (by rw [hl]; exact Bool.false_ne_true)]
  exact ⟨_, (hr w hb).qr, fun hA w' hw' => hr w' (hS hA w' hw'), h⟩
theorem wpT_ldAll {ops : Array Oper} {Q : Exit → Act → World → Prop} {S : World → Prop} {L A : List Nat} {o : Oper} {l : List Oper} {k : Nat} {a : Act} {w : World} (hw : Region.wanted o (yielded ops a.tmps) = true) (hl : L.contains k = false) (ha : A.contains k = false) (ty : TypeId) (x : Operand) (ho : o.op = .load ty x)
    {g : Nat} {t : TypeId} {mid : List Value} (hb : Blk w g t mid.toArray) (hx : a.eval x = .pointer (some ⟨g, 0, none⟩))
    (hd : aggB (P.underlying ty) = true) (hi : (P.info? ty).map (·.size) = some mid.length) (h : wpT P ops Q S L A l (k + 1) (a.put o.dst (.agg mid.toArray)) w) : wpT P ops Q S L A (o :: l) k a w :=
  wpT_ld hw hl ty x ho (pre := []) (mid := mid) (post := []) (by simp) rfl hb (fun hA => by rw [ha] at hA; cases hA) hx hd hi h
theorem results_ldAll {fn : Func} {p : Tmp} {ty : TypeId} (hr : fn.results = #[.cell p ty]) (tmps : Array Value) {w : World} {g : Nat} {t : TypeId} {mid : List Value} (hb : Blk w g t mid.toArray)
    (hp : tmps.getD p undef = .pointer (some ⟨g, 0, none⟩)) (hd : aggB (P.underlying ty) = true) (hi : (P.info? ty).map (·.size) = some mid.length) :
    (results fn tmps).run P w = .ok (.agg mid.toArray) w := by
  have hp' : tmps[p]?.getD undef = .pointer (some ⟨g, 0, none⟩) := by simpa using hp
  have := run_ld (P := P) hb (pre := []) (mid := mid) (post := []) (by simp) ty hd hi
  simp only [List.length_nil] at this
  simp [results, hr, hp', asAddr, this]

theorem one_map {α : Type} (f : α → Value) (l : List α) (h : ∀ x, (f x).oneCell' = true) : ∀ v ∈ l.map f, v.oneCell' = true := by
  intro v hv; obtain ⟨x, _, rfl⟩ := List.mem_map.1 hv; exact h x

theorem Below.row {B : Nat} {a w : World} (h : Below B a w) {g : Nat} (hg : B ≤ g) (cs : Array Value) : Below B a (w.setRow g cs) := below_setRow h hg cs
end
end Go.Proofs.Ytpeefeioccglcaa
