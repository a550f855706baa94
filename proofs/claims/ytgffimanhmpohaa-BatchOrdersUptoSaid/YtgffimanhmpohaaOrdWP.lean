/- The types of the program, as they lie in memory. By program (gen_tab.py). -/
import Derived.Test.YtgffimanhmpohaaA4
import Derived.DeepKeys3
import Derived.Test.YtgffimanhmpohaaA1
import Derived.BigQuiet
import Derived.BigRegion
import Derived.Deep.Draws
import Derived.Deep.LoopGhost
import Derived.Outline
import Derived.Lib.Hide
import Derived.Laws.BitsAllLaws
import Derived.Lib.Bytealg
import Derived.Laws.Externs
import Derived.Lib.BitFns
import Derived.Shelf.SlSortCmp.WholeK
import Derived.Shelf.SlSortCmp.QuietGrown
import Derived.Shelf.SlSortCmp.NoneTotal
set_option linter.unusedSimpArgs false
set_option linter.unusedVariables false
namespace Go.Proofs.Ytgffimanhmpohaa
open Go Go.RowKit
abbrev ti22 : TI := ⟨.slc 65, .sc, (.v (.slice none 0 0)), 24⟩
abbrev ti23 : TI := ⟨.slc 37, .sc, (.v (.slice none 0 0)), 24⟩
abbrev ti34 : TI := ⟨.arr 32 5, (.ba 32), (.ba (List.replicate 32 0)), 32⟩
abbrev ti35 : TI := ⟨.slc 5, .sc, (.v (.slice none 0 0)), 24⟩
abbrev ti37 : TI := ⟨.rcd [(0, 34), (32, 4), (33, 35)], (.cn (.ba 32) (.cn .sc (.cn .sc (.nl)))), (.st [(.ba (List.replicate 32 0)), (.v (.bool false)), (.v (.slice none 0 0))]), 64⟩
abbrev ti65 : TI := ⟨.rcd [(0, 34), (32, 35)], (.cn (.ba 32) (.cn .sc (.nl))), (.st [(.ba (List.replicate 32 0)), (.v (.slice none 0 0))]), 56⟩
def tab : Tab := [
(2, ⟨.int .i64, .sc, (.v (.int .i64 0)), 8⟩),
(3, ⟨.int .i64, .sc, (.v (.int .i64 0)), 8⟩),
(4, ⟨.bool, .sc, (.v (.bool false)), 1⟩),
(5, ⟨.int .u8, .sc, (.v (.int .u8 0)), 1⟩),
(9, ⟨.str, .sc, (.v (.string ⟨#[]⟩)), 16⟩),
(21, ⟨.int .i32, .sc, (.v (.int .i32 0)), 4⟩),
(22, ⟨.slc 65, .sc, (.v (.slice none 0 0)), 24⟩),
(23, ⟨.slc 37, .sc, (.v (.slice none 0 0)), 24⟩),
(30, ⟨.slc 35, .sc, (.v (.slice none 0 0)), 24⟩),
(32, ⟨.slc 22, .sc, (.v (.slice none 0 0)), 24⟩),
(33, ⟨.arr 32 5, (.ba 32), (.ba (List.replicate 32 0)), 32⟩),
(34, ⟨.arr 32 5, (.ba 32), (.ba (List.replicate 32 0)), 32⟩),
(35, ⟨.slc 5, .sc, (.v (.slice none 0 0)), 24⟩),
(36, ⟨.rcd [(0, 34), (32, 4), (33, 35)], (.cn (.ba 32) (.cn .sc (.cn .sc (.nl)))), (.st [(.ba (List.replicate 32 0)), (.v (.bool false)), (.v (.slice none 0 0))]), 64⟩),
(37, ⟨.rcd [(0, 34), (32, 4), (33, 35)], (.cn (.ba 32) (.cn .sc (.cn .sc (.nl)))), (.st [(.ba (List.replicate 32 0)), (.v (.bool false)), (.v (.slice none 0 0))]), 64⟩),
(40, ⟨.slc 71, .sc, (.v (.slice none 0 0)), 24⟩),
(43, ⟨.int .i64, .sc, (.v (.int .i64 0)), 8⟩),
(64, ⟨.rcd [(0, 34), (32, 35)], (.cn (.ba 32) (.cn .sc (.nl))), (.st [(.ba (List.replicate 32 0)), (.v (.slice none 0 0))]), 56⟩),
(65, ⟨.rcd [(0, 34), (32, 35)], (.cn (.ba 32) (.cn .sc (.nl))), (.st [(.ba (List.replicate 32 0)), (.v (.slice none 0 0))]), 56⟩),
(68, ⟨.slc 9, .sc, (.v (.slice none 0 0)), 24⟩),
(70, ⟨.rcd [(0, 34), (32, 4), (33, 35), (34, 4), (35, 35)], (.cn (.ba 32) (.cn .sc (.cn .sc (.cn .sc (.cn .sc (.nl)))))), (.st [(.ba (List.replicate 32 0)), (.v (.bool false)), (.v (.slice none 0 0)), (.v (.bool false)), (.v (.slice none 0 0))]), 96⟩),
(71, ⟨.rcd [(0, 34), (32, 4), (33, 35), (34, 4), (35, 35)], (.cn (.ba 32) (.cn .sc (.cn .sc (.cn .sc (.cn .sc (.nl)))))), (.st [(.ba (List.replicate 32 0)), (.v (.bool false)), (.v (.slice none 0 0)), (.v (.bool false)), (.v (.slice none 0 0))]), 96⟩),
(85, ⟨.slc 40, .sc, (.v (.slice none 0 0)), 24⟩),
(99, ⟨.int .u64, .sc, (.v (.int .u64 0)), 8⟩),
(109, ⟨.int .u32, .sc, (.v (.int .u32 0)), 4⟩),
(111, ⟨.int .u64, .sc, (.v (.int .u64 0)), 8⟩),
(113, ⟨.int .i64, .sc, (.v (.int .i64 0)), 8⟩),
(121, ⟨.int .i64, .sc, (.v (.int .i64 0)), 8⟩),
(127, ⟨.int .u64, .sc, (.v (.int .u64 0)), 8⟩),
(131, ⟨.ptr 3, .sc, (.v (.pointer none)), 8⟩),
(133, ⟨.int .u64, .sc, (.v (.int .u64 0)), 8⟩),
(136, ⟨.ptr 127, .sc, (.v (.pointer none)), 8⟩),
(139, ⟨.ptr 133, .sc, (.v (.pointer none)), 8⟩),
(150, ⟨.ptr 5, .sc, (.v (.pointer none)), 8⟩)]
set_option maxRecDepth 100000 in
theorem tab_ok : tab.ok Try.prog := tab_of (by kernel_rfl) (by kernel_rfl)
end Go.Proofs.Ytgffimanhmpohaa
/- A5: Con3 Draw Con4 Con5. -/
/- Tests, stretches with at least one step; rows that are none yet. -/
namespace Go.Proofs.Ytgffimanhmpohaa
open Go Go.RowKit
theorem wrapu8 (n : Int) : IntKind.u8.wrap n = n % 256 := by simp [IntKind.wrap, IntKind.bits, IntKind.signed]
theorem wrapu16 (n : Int) : IntKind.u16.wrap n = n % 65536 := by simp [IntKind.wrap, IntKind.bits, IntKind.signed]
theorem wrapu32 (n : Int) : IntKind.u32.wrap n = n % 4294967296 := by simp [IntKind.wrap, IntKind.bits, IntKind.signed]
theorem wrapu64 (n : Int) : IntKind.u64.wrap n = n % 18446744073709551616 := by simp [IntKind.wrap, IntKind.bits, IntKind.signed]
section
variable {α : Type} (x : α)
theorem rep1 : List.replicate 1 x = [x] := rfl
theorem rep2 : List.replicate 2 x = [x, x] := rfl
theorem rep3 : List.replicate 3 x = [x, x, x] := rfl
theorem rep4 : List.replicate 4 x = [x, x, x, x] := rfl
theorem rep5 : List.replicate 5 x = [x, x, x, x, x] := rfl
end
/-- bytes, each a slice -/
def bss (ls : List (List UInt8)) : List AV := ls.map fun l => .bs l none
section
variable {P : Program} {τ : Tab} {w0 w : World} {N : Gh} {g : Gh} {st st' st1 : St} {nt : Nat} {a : Act}
theorem v_cond {Q : Exit → Act → World → Prop} {c : Operand} {x y : Code} {b : Bool} (H : Rel P w0 N nt st a w) (hc : st.ev none c = .v (.bool b))
    (h1 : b = true → x.wp P Q a w) (h2 : b = false → y.wp P Q a w) : (Code.cond c x y).wp P Q a w := by
  obtain ⟨g, HI, hF⟩ := H
  have := ev_sound hF (c := none) trivial c
  rw [hc] at this
  exact wp_cond_split this.v_inv h1 h2
theorem hNq {q : Nat} (h : N.bx.length ≤ q) : ∀ k, some q = some k → N.bx.length ≤ k := fun k e => by injection e with e; subst e; exact h
theorem vrun_conds {md : Option Nat} {ops : Array Oper} : ∀ (l : List Oper) (st : St) (c : Prop), (vrun τ md nt ops l st c).2.1 → c := by
  intro l
  induction l with
  | nil => intro st c h; exact h
  | cons o l ih =>
    intro st c h
    unfold vrun at h
    split at h
    · exact (ih _ _ h).1
    · exact h
theorem v_more {ops : Array Oper} {Q : Exit → Act → World → Prop} {q : Nat} {o : Oper} {l l' : List Oper} {c1 c' : Prop} (hτ : τ.ok P) (hN : N.bx.length ≤ q) (H : Rel P w0 N nt st a w) (h0 : vstep τ (some q) nt ops o st = some (st1, c1)) (h : vrun τ (some q) nt ops l st1 c1 = (st', c', l')) (hc : c')
    (k : ∀ a w, Rel P w0 N nt st' a w → wpList P ops Q l' a w) : wpList P ops Q (o :: l) a w := by
  have hc1 : c1 := by have := vrun_conds (τ := τ) (nt := nt) (md := some q) (ops := ops) l st1 c1; rw [h] at this; exact this hc
  exact vstep_wpList hτ (hNq hN) h0 hc1 H fun a w H' => vrun_wpList hτ (hNq hN) l st1 c1 c' l' h hc a w H' k
theorem v_steps {ops : Array Oper} {Q : Exit → Act → World → Prop} {q : Nat} {l : List Oper} {c' : Prop} (n : Nat) (hτ : τ.ok P) (hN : N.bx.length ≤ q) (H : Rel P w0 N nt st a w) (h : vrun τ (some q) nt ops (l.take n) st True = (st', c', [])) (hc : c')
    (k : ∀ a w, Rel P w0 N nt st' a w → wpList P ops Q (l.drop n) a w) : wpList P ops Q l a w := by
  have key : ∀ (l1 l2 : List Oper) (st : St) (c : Prop), vrun τ (some q) nt ops l1 st c = (st', c', []) → c' → ∀ a w, Rel P w0 N nt st a w → (∀ a w, Rel P w0 N nt st' a w → wpList P ops Q l2 a w) → wpList P ops Q (l1 ++ l2) a w := by
    intro l1 l2
    induction l1 with
    | nil => intro st c h _ a w H k; simp only [vrun, Prod.mk.injEq] at h; obtain ⟨rfl, rfl, _⟩ := h; exact k _ _ H
    | cons o l1 ih =>
      intro st c h hc a w H k
      unfold vrun at h
      split at h
      · rename_i st1 cd1 hs
        have hc1 : cd1 := by have := vrun_conds (τ := τ) (nt := nt) (md := some q) (ops := ops) l1 st1 (c ∧ cd1); rw [h] at this; exact (this hc).2
        exact vstep_wpList hτ (hNq hN) hs hc1 H fun a w H' => ih st1 _ h hc a w H' k
      · simp at h
  have := key (l.take n) (l.drop n) st True h hc a w H k
  rwa [List.take_append_drop] at this
def nilT (d : Nat) (b : AV) : List (Nat × Gd × AV) → List (Nat × Gd × AV)
  | [] => []
  | (k, x) :: l => if k = d then (d, none, b) :: l else (k, x) :: nilT d b l
theorem nilT_mem {d : Nat} {b : AV} {p : Nat × Gd × AV} : ∀ {l : List (Nat × Gd × AV)}, p ∈ nilT d b l → p = (d, none, b) ∨ p ∈ l
  | q :: l, h => by
    unfold nilT at h
    split at h
    · rcases List.mem_cons.1 h with h | h
      · exact .inl h
      · exact .inr (List.mem_cons_of_mem _ h)
    · rcases List.mem_cons.1 h with h | h
      · exact .inr (by rw [h]; exact List.mem_cons_self)
      · rcases nilT_mem h with h | h
        · exact .inl h
        · exact .inr (List.mem_cons_of_mem _ h)
theorem v_nilE (hτ : τ.ok P) (H : Rel P w0 N nt st a w) (d e : Nat) {j : TI} (T : Ty) (hj : Tab.get e τ = some j) (hs : 0 < j.ty.size) (hd : find d st.t = some (none, .v (.slice none 0 0))) :
    Rel P w0 N nt ⟨nilT d (.sl T [] (some st.rw.length)) st.t, st.bx, st.fz, st.rw ++ [(e, 0)]⟩ a w := by
  obtain ⟨g, HI, hF⟩ := H
  have hok := Tab.get_ok hτ hj
  obtain ⟨g1, l1, I1, h1⟩ := HI.rowNil (nilRow hok hs w) rfl rfl ⟨hok.cells.symm, rfl⟩
  refine ⟨g1, I1, (hF.mono l1.1).sz, hF.df, fun p hp hg => ?_, fun p hp hg => by rcases nilT_mem hp with h | h; (subst h; exact absurd trivial hg); exact hF.u p h hg⟩
  have hv : RV g1 (.sl T [] (some st.rw.length)) (a.tmps.getD d undef) := by
    have := (hF.t _ (find_mem hd) trivial).v_inv
    rw [this]
    exact (RC.sl (g := g1) (T := T) (es := []) (A := none) (c := 0) (by simp) (by simp [maxLen]) (fun _ => []) (.inl rfl) (fun k hk => absurd hk (by simp)) fun i hi => by injection hi with hi; subst hi; exact ⟨_, h1, by simp, fun _ => ⟨rfl, rfl⟩⟩).rv1
  have key : ∀ l : List (Nat × Gd × AV), p ∈ nilT d (.sl T [] (some st.rw.length)) l → p = (d, none, .sl T [] (some st.rw.length)) ∨ p ∈ l := by
    intro l
    induction l with
    | nil => intro h; cases h
    | cons q l ih =>
      intro h
      unfold nilT at h
      split at h
      · rcases List.mem_cons.1 h with h | h
        · exact .inl h
        · exact .inr (List.mem_cons_of_mem _ h)
      · rcases List.mem_cons.1 h with h | h
        · exact .inr (by rw [h]; exact List.mem_cons_self)
        · rcases ih h with h | h
          · exact .inl h
          · exact .inr (List.mem_cons_of_mem _ h)
  rcases key _ hp with h | h
  · subst h; exact hv
  · exact (hF.mono l1.1).t p h hg
end
end Go.Proofs.Ytgffimanhmpohaa

/- Regions that draw their order, on what is known. -/
namespace Go.Proofs.Ytgffimanhmpohaa
open Go Go.RowKit
def hasAny : Nat → AV → Bool
  | _, .any => true
  | d + 1, .st fs => fs.any (hasAny d)
  | _, _ => false
def qopN (τ : Tab) (st : St) (c : Gd) (o : Op) : QR :=
  match qop2 τ st c o with
  | some (r, cd) => if hasAny 3 r then none else some (r, cd)
  | none => none
theorem qopN_some {τ : Tab} {st : St} {c : Gd} {o : Op} {x : AV × Prop} (h : qopN τ st c o = some x) : qop2 τ st c o = some x := by
  unfold qopN at h
  split at h
  · rename_i hq
    split at h
    · cases h
    · rw [hq]; exact h
  · cases h
def qopA (τ : Tab) (st : St) (c : Gd) (o : Op) : QR :=
  match o with
  | .build t ps => qopN τ st c (.build t ps)
  | o => qop2 τ st c o
theorem qopA_some {τ : Tab} {st : St} {c : Gd} {o : Op} {x : AV × Prop} (h : qopA τ st c o = some x) : qop2 τ st c o = some x := by
  unfold qopA at h
  split at h
  · exact qopN_some h
  · exact h
def St.lose (st : St) (dst : Option Tmp) : St :=
  match dst with
  | none => st
  | some d => { st with t := dropT d st.t }
def isSlc : Op → Bool
  | .slice _ _ _ _ _ => true
  | _ => false
def loudOk (md : Option Nat) (sq : St) (o : Op) : Bool := !isSto o || sq.bx.isEmpty
def stillE (τ : Tab) (md : Option Nat) (st : St) (c : Gd) (o : Op) : ER :=
  match (match o with
    | .slice t x lo hi none => (match md, isNoneG c with
      | some q0, true => frzE τ q0 st t (st.ev c x) (lo.map (st.ev c)) (hi.map (st.ev c))
      | _, _ => none)
    | _ => none) with
  | some r => some r
  | none => (match qop2 τ st c o with
    | some (r, cd) => some (st, r, cd)
    | none => none)
def vstepT (τ : Tab) (md : Option Nat) (nt : Nat) (ops : Array Oper) (L A : List Nat) (k : Nat) (o : Oper) (sq st : St) : Option (St × St × Prop) :=
  match gdOf ops o with
  | none => none
  | some c =>
    if okDst nt c o.dst then
      (if L.contains k then
        (if isNoneG c && loudOk md sq o.op then (match orE (eop τ none st c o.op) (if sq.bx.isEmpty then eopV τ st c o.op else none) with
          | some (st', r, cd) => some (sq.lose o.dst, st'.put o.dst c r, cd)
          | none => (match qop2 τ st c o.op with
            | some (r, cd) => some (sq.lose o.dst, st.put o.dst c r, gcond st c cd)
            | none => none)) else none)
      else
        (if A.contains k then (match qopA τ sq c o.op with
          | some (r, cd) => some (sq.put o.dst c r, st.put o.dst c r, gcond sq c cd)
          | none => (match (if memless o.op then qop2 τ st c o.op else none) with
            | some (r, cd) => some (sq.lose o.dst, st.put o.dst c r, gcond st c cd)
            | none => none))
        else (match stillE τ md st c o.op with
          | some (st', r, cd) => (match qopN τ sq c o.op with
            | some (r', cd') => (if md.isSome && isSlc o.op then some (sq.lose o.dst, st'.put o.dst c r, gcond st c cd) else some (sq.put o.dst c r', st.put o.dst c r', gcond sq c cd'))
            | none => some (sq.lose o.dst, st'.put o.dst c r, gcond st c cd))
          | none => none)))
    else none
def vrunT (τ : Tab) (md : Option Nat) (nt : Nat) (ops : Array Oper) (L A : List Nat) : List Oper → Nat → St → St → Prop → St × St × Prop × List Oper × Nat
  | [], k, sq, st, c => (sq, st, c, [], k)
  | o :: l, k, sq, st, c =>
    match vstepT τ md nt ops L A k o sq st with
    | some (sq', st', cd) => vrunT τ md nt ops L A l (k + 1) sq' st' (c ∧ cd)
    | none => (sq, st, c, o :: l, k)
section
variable {P : Program} {τ : Tab} {w0 w : World} {N : Gh} {g gS : Gh} {st st' sq sq' : St} {nt : Nat} {a : Act} {r : AV} {cd : Prop}
structure RelT (P : Program) (w0 : World) (N : Gh) (nt : Nat) (gS : Gh) (sq st : St) (a : Act) (w : World) : Prop where
  mem : Mem gS w
  rows : gS.rw = []
  fr : FR gS nt sq a
  br : BR gS sq.bx
  rel : ∃ g, Inv P w0 N g st.bx st.fz st.rw w ∧ FR g nt st a ∧ gS.le g ∧ Bs gS g
theorem RelT.still {H : RelT P w0 N nt gS sq st a w} : Mem gS w := H.mem
theorem MemS {w' : World} (h : Mem gS w) (hr : gS.rw = []) (HI : Inv P w0 N g st.bx st.fz st.rw w') (hl : gS.le g) (hb : Bs gS g) : Mem gS w' := by
  have no : ∀ {i : Nat} {x : Rw}, gS.rw[i]? = some x → False := fun {i x} h => by rw [hr] at h; simp at h
  exact ⟨fun b o u hu => HI.mem.ro _ _ _ (hl.ro _ _ _ hu), fun i x hx hxo => (by
      obtain ⟨y, h1, h2, h3, h4, h5, h6⟩ := hb i x hx
      have := HI.mem.bx i y h1 (h5.trans hxo)
      exact ⟨fun e => (by have h7 := this.c (h6.trans e); rw [h2, h3, h4] at h7; exact h7), fun m e => (by have h7 := this.m m (h6.trans e); rw [h2] at h7; exact h7)⟩), h.offc, h.mpc,
    fun i x h => (no h).elim, h.fro, h.bro, h.bb, h.rro, h.rwo, h.rb, h.rr⟩
theorem FR.lose {dst : Option Tmp} (hF : FR g nt st a) (v : Value) : FR g nt (st.lose dst) (a.put dst v) := by
  cases dst with
  | none => exact hF
  | some d =>
    refine ⟨by simp [Act.put, hF.sz], hF.df, fun p hp hgp => ?_, fun p hp hgp => ?_⟩
    rotate_left
    · obtain ⟨h1, h2, h3⟩ := dropT_mem hp
      rw [getD_put h2]
      refine hF.u p h1 fun hc => hgp ?_
      cases hq : p.2.1 with
      | none => trivial
      | some k => obtain ⟨j, b⟩ := k; rw [hq] at hc; show (a.put (some d) v).tmps.getD j undef = .bool b; rw [getD_put (h3 j b hq)]; exact hc
    obtain ⟨h1, h2, h3⟩ := dropT_mem hp
    rw [getD_put h2]
    refine hF.t p h1 ?_
    cases hc : p.2.1 with
    | none => trivial
    | some k =>
      obtain ⟨j, b⟩ := k
      rw [hc] at hgp
      have : (a.put (some d) v).tmps.getD j undef = .bool b := hgp
      rw [getD_put (h3 j b hc)] at this
      exact this
theorem lose_bx (st : St) (dst : Option Tmp) : (st.lose dst).bx = st.bx := by cases dst <;> rfl
theorem put_bx (st : St) (dst : Option Tmp) (c : Gd) (r : AV) : (st.put dst c r).bx = st.bx ∧ (st.put dst c r).fz = st.fz ∧ (st.put dst c r).rw = st.rw := by cases dst <;> exact ⟨rfl, rfl, rfl⟩
/-- What an operation that leaves the world comes to. -/
theorem stillE_sound (hτ : τ.ok P) {md : Option Nat} (hN : ∀ q, md = some q → N.bx.length ≤ q) (HI : Inv P w0 N g st.bx st.fz st.rw w) (hF : FR g nt st a) {c : Gd} (hg : gholds a c) {o : Oper} (h : stillE τ md st c o.op = some (st', r, cd)) (hc : cd) :
    ∃ g' z, g.lex g' ∧ Inv P w0 N g' st'.bx st'.fz st'.rw w ∧ st'.t = st.t ∧ (execOp a.eval o).run P w = .ok (.value z) w ∧ RV g' r z := by
  unfold stillE at h
  split at h
  · rename_i q hq
    injection h with h; subst h
    split at hq
    · rename_i t x lo hi ho
      split at hq
      · rename_i q0 _
        have E := fun x => ev_sound hF hg x
        have RO_ : ∀ x : Option Operand, RO g (x.map (st.ev c)) (x.map a.eval) := fun x => by cases x with | none => trivial | some x => exact E x
        have hq' : frzE τ q0 st t (st.ev c x) (lo.map (st.ev c)) (hi.map (st.ev c)) = some (st', r, cd) := hq
        obtain ⟨g', z, h1, h2, h3, h4, h5⟩ := frzE_still hτ HI (hN _ rfl) hq' hc (E x) (RO_ lo) (RO_ hi)
        exact ⟨g', z, h1, h2, h3, by unfold execOp; rw [ho]; simp [h4], h5⟩
      · cases hq
    · cases hq
  · split at h
    · rename_i r0 cd0 hq
      obtain ⟨rfl, rfl, rfl⟩ := ER.inj h
      obtain ⟨z, h1, h2⟩ := qop2_sound (P := P) hτ hF HI.br hg hq hc
      exact ⟨g, z, Gh.lex.refl g, HI, rfl, h2 w HI.mem, h1⟩
    · cases h
theorem stillE_st {md : Option Nat} {q : Nat × Bool} {o : Op} (h : stillE τ md st (some q) o = some (st', r, cd)) : st' = st := by
  unfold stillE at h
  split at h
  · rename_i x hx
    split at hx
    · simp [isNoneG] at hx
    · cases hx
  · split at h
    · exact (ER.inj h).1.symm
    · cases h
theorem qop2_memless (hτ : τ.ok P) (hF : FR g nt st a) (hB : BR g st.bx) {c : Gd} (hg : gholds a c) {o : Oper} (hm : memless o.op = true) (h : qop2 τ st c o.op = some (r, cd)) (hc : cd) :
    ∃ z, RV g r z ∧ ∀ w, (execOp a.eval o).run P w = .ok (.value z) w := by
  unfold qop2 at h
  split at h
  · rename_i t ps ho
    obtain ⟨z, h1, h2⟩ := buildq_sound (P := P) hτ hF hg h hc
    exact ⟨z, h1, fun w => by unfold execOp; rw [ho]; simp [h2 w]⟩
  · obtain ⟨z, h1, h2⟩ := qop_sound (P := P) hτ hF hB hg h hc
    exact ⟨z, h1, fun w => h2 w (.inl hm)⟩
theorem vstepT_wpT {ops : Array Oper} {Q : Exit → Act → World → Prop} {L A : List Nat} {rest : List Oper} {k : Nat} {o : Oper} {md : Option Nat} (hτ : τ.ok P) (hN : ∀ q, md = some q → N.bx.length ≤ q) (h : vstepT τ md nt ops L A k o sq st = some (sq', st', cd)) (hc : cd)
    (H : RelT P w0 N nt gS sq st a w) (kk : ∀ a w, RelT P w0 N nt gS sq' st' a w → wpT P ops Q (Mem gS) L A rest (k + 1) a w) : wpT P ops Q (Mem gS) L A (o :: rest) k a w := by
  obtain ⟨hM, hrw, hFq, hBq, g, HI, hF, hl, hbs⟩ := H
  unfold vstepT at h
  split at h
  · cases h
  · rename_i c hgd
    split at h
    · rename_i hdst
      unfold wpT
      split at h
      · rename_i hL
        split at h
        · rename_i hcond
          simp only [Bool.and_eq_true] at hcond
          obtain ⟨hng, hlo⟩ := hcond
          have hcn : c = none := by cases c with | none => rfl | some k => simp [isNoneG] at hng
          subst hcn
          have hw : Region.wanted o (yielded ops a.tmps) = true := (gdOf_wanted hgd).2 trivial
          rw [if_pos hw, if_pos hL]
          split at h
          · rename_i st1 r1 cd1 he
            injection h with h
            simp only [Prod.mk.injEq] at h
            obtain ⟨rfl, rfl, rfl⟩ := h
            have hem : sq.bx = [] → ∀ g', Bs gS g' := fun h g' i x hx => by
              have := hBq.len; rw [h] at this
              rw [List.length_eq_zero_iff.1 this] at hx; simp at hx
            obtain ⟨g', w', ⟨k1, hbs'⟩, k2, k3, k4⟩ : ∃ g' w', (g.le g' ∧ Bs gS g') ∧ Inv P w0 N g' st1.bx st1.fz st1.rw w' ∧ st1.t = st.t ∧ ((∃ z, (execOp a.eval o).run P w = .ok (.value z) w' ∧ RV g' r1 z) ∨ ((execOp a.eval o).run P w = .ok .skip w' ∧ r1 = .any)) := by
              rcases orE_some he with he | he
              · obtain ⟨g', w', k1, k⟩ := eop_sound hτ (md := none) (fun _ h => (by cases h)) HI hF (c := none) trivial he hc
                refine ⟨g', w', ⟨k1.1, ?_⟩, k⟩
                simp only [loudOk, Bool.or_eq_true, Bool.not_eq_true', List.isEmpty_iff] at hlo
                rcases hlo with h | h
                · exact hbs.trans (k1.2 h)
                · exact hem h g'
              · split at he
                · rename_i hz
                  obtain ⟨g', w', k1, k⟩ := eopV_sound hτ HI hF (c := none) trivial he hc
                  exact ⟨g', w', ⟨k1.1, hem (List.isEmpty_iff.1 hz) g'⟩, k⟩
                · cases he
            have hl' := hl.trans k1
            have fin : ∀ v, RV g' r1 v → RelT P w0 N nt gS (sq.lose o.dst) (st1.put o.dst none r1) (a.put o.dst v) w' := fun v hv =>
              ⟨MemS hM hrw k2 hl' hbs', hrw, hFq.lose v, by rw [lose_bx]; exact hBq, g', by rw [(put_bx _ _ _ _).1, (put_bx _ _ _ _).2.1, (put_bx _ _ _ _).2.2]; exact k2, (hF.mono k1).put hdst (fun _ => hv) k3 (fun h => absurd trivial h), hl', hbs'⟩
            unfold Oper.wp
            rcases k4 with ⟨z, h1, h2⟩ | ⟨h1, h2⟩
            · rw [h1, Oper.upon_value]; exact ⟨(fin z h2).mem, kk _ _ (fin z h2)⟩
            · rw [h1, Oper.upon_skip]; have := fin undef (by rw [h2]; trivial); exact ⟨this.mem, kk _ _ this⟩
          · split at h
            · rename_i r1 cd1 hq
              injection h with h
              simp only [Prod.mk.injEq] at h
              obtain ⟨rfl, rfl, rfl⟩ := h
              obtain ⟨z, h1, h2⟩ := qop2_sound (P := P) hτ hF HI.br (c := none) trivial hq (gcond_elim hF hc trivial)
              unfold Oper.wp
              rw [h2 w HI.mem, Oper.upon_value]
              exact ⟨hM, kk _ _ ⟨hM, hrw, hFq.lose z, by rw [lose_bx]; exact hBq, g, by rw [(put_bx _ _ _ _).1, (put_bx _ _ _ _).2.1, (put_bx _ _ _ _).2.2]; exact HI, hF.put hdst (fun _ => h1) rfl (fun h => absurd trivial h), hl, hbs⟩⟩
            · cases h
        · cases h
      · rename_i hL
        have hL' : L.contains k = false := by simpa using hL
        -- a quiet operation by what is known for ever
        have quiet : ∀ {r0 : AV} {cd0 : Prop}, qop2 τ sq c o.op = some (r0, cd0) → gcond sq c cd0 → (∀ a w, RelT P w0 N nt gS (sq.put o.dst c r0) (st.put o.dst c r0) a w → wpT P ops Q (Mem gS) L A rest (k + 1) a w) →
            (if Region.wanted o (yielded ops a.tmps) = true then (if L.contains k = true then o.wp P a w (fun a' w' => Mem gS w' ∧ wpT P ops Q (Mem gS) L A rest (k + 1) a' w') NoQ
              else ∃ v, Qr P o a w v ∧ (A.contains k = true → ∀ w', Mem gS w' → Vr P o a w' v) ∧ wpT P ops Q (Mem gS) L A rest (k + 1) (a.put o.dst v) w)
            else wpT P ops Q (Mem gS) L A rest (k + 1) (a.put o.dst undef) w) := by
          intro r0 cd0 hq hc0 kk
          by_cases hw : Region.wanted o (yielded ops a.tmps) = true
          · rw [if_pos hw, if_neg hL]
            obtain ⟨z, h1, h2⟩ := qop2_sound (P := P) hτ hFq hBq ((gdOf_wanted hgd).1 hw) hq (gcond_elim hFq hc0 ((gdOf_wanted hgd).1 hw))
            have hv : ∀ w', Mem gS w' → Vr P o a w' z := h2
            refine ⟨z, (hv w hM).qr, fun _ => hv, kk _ _ ⟨hM, hrw, hFq.put hdst (fun _ => h1) rfl (fun h => absurd ((gdOf_wanted hgd).1 hw) h), by rw [(put_bx _ _ _ _).1]; exact hBq, g, by rw [(put_bx _ _ _ _).1, (put_bx _ _ _ _).2.1, (put_bx _ _ _ _).2.2]; exact HI, hF.put hdst (fun _ => h1.mono hl) rfl (fun h => absurd ((gdOf_wanted hgd).1 hw) h), hl, hbs⟩⟩
          · rw [if_neg hw]
            exact kk _ _ ⟨hM, hrw, hFq.put hdst (fun hg => absurd ((gdOf_wanted hgd).2 hg) hw) rfl (fun _ => rfl), by rw [(put_bx _ _ _ _).1]; exact hBq, g, by rw [(put_bx _ _ _ _).1, (put_bx _ _ _ _).2.1, (put_bx _ _ _ _).2.2]; exact HI, hF.put hdst (fun hg => absurd ((gdOf_wanted hgd).2 hg) hw) rfl (fun _ => rfl), hl, hbs⟩
        split at h
        · split at h
          · rename_i r1 cd1 hq
            injection h with h
            simp only [Prod.mk.injEq] at h
            obtain ⟨rfl, rfl, rfl⟩ := h
            exact quiet (qopA_some hq) hc kk
          · split at h
            · rename_i r1 cd1 hq
              injection h with h
              simp only [Prod.mk.injEq] at h
              obtain ⟨rfl, rfl, rfl⟩ := h
              split at hq
              · rename_i hml
                by_cases hw : Region.wanted o (yielded ops a.tmps) = true
                · rw [if_pos hw, if_neg hL]
                  obtain ⟨z, h1, h2⟩ := qop2_memless (P := P) hτ hF HI.br ((gdOf_wanted hgd).1 hw) hml hq (gcond_elim hF hc ((gdOf_wanted hgd).1 hw))
                  have hv : ∀ w', Mem gS w' → Vr P o a w' z := fun w' _ => h2 w'
                  exact ⟨z, (hv w hM).qr, fun _ => hv, kk _ _ ⟨hM, hrw, hFq.lose z, by rw [lose_bx]; exact hBq, g, by rw [(put_bx _ _ _ _).1, (put_bx _ _ _ _).2.1, (put_bx _ _ _ _).2.2]; exact HI, hF.put hdst (fun _ => h1) rfl (fun h => absurd ((gdOf_wanted hgd).1 hw) h), hl, hbs⟩⟩
                · rw [if_neg hw]
                  exact kk _ _ ⟨hM, hrw, hFq.lose undef, by rw [lose_bx]; exact hBq, g, by rw [(put_bx _ _ _ _).1, (put_bx _ _ _ _).2.1, (put_bx _ _ _ _).2.2]; exact HI, hF.put hdst (fun hg => absurd ((gdOf_wanted hgd).2 hg) hw) rfl (fun _ => rfl), hl, hbs⟩
              · cases hq
            · cases h
        · rename_i hA
          have hA' : A.contains k = false := by simpa using hA
          split at h
          · rename_i st1 r1 cd1 he
            have still : gcond st c cd1 → (∀ a w, RelT P w0 N nt gS (sq.lose o.dst) (st1.put o.dst c r1) a w → wpT P ops Q (Mem gS) L A rest (k + 1) a w) →
                (if Region.wanted o (yielded ops a.tmps) = true then (if L.contains k = true then o.wp P a w (fun a' w' => Mem gS w' ∧ wpT P ops Q (Mem gS) L A rest (k + 1) a' w') NoQ
                  else ∃ v, Qr P o a w v ∧ (A.contains k = true → ∀ w', Mem gS w' → Vr P o a w' v) ∧ wpT P ops Q (Mem gS) L A rest (k + 1) (a.put o.dst v) w)
                else wpT P ops Q (Mem gS) L A rest (k + 1) (a.put o.dst undef) w) := by
              intro hc1 kk
              by_cases hw : Region.wanted o (yielded ops a.tmps) = true
              · rw [if_pos hw, if_neg hL]
                obtain ⟨g', z, k1, k2, k3, k4, k5⟩ := stillE_sound (P := P) hτ hN HI hF ((gdOf_wanted hgd).1 hw) he (gcond_elim hF hc1 ((gdOf_wanted hgd).1 hw))
                refine ⟨z, (show Vr P o a w z from k4).qr, fun h => (by rw [hA'] at h; cases h), kk _ _ ⟨hM, hrw, hFq.lose z, by rw [lose_bx]; exact hBq, g', by rw [(put_bx _ _ _ _).1, (put_bx _ _ _ _).2.1, (put_bx _ _ _ _).2.2]; exact k2, (hF.mono k1.1).put hdst (fun _ => k5) k3 (fun h => absurd ((gdOf_wanted hgd).1 hw) h), hl.trans k1.1, hbs.trans k1.2⟩⟩
              · rw [if_neg hw]
                have hst1 : st1 = st ∨ c = none := by
                  cases c with
                  | none => exact .inr rfl
                  | some q => exact .inl (stillE_st he)
                rcases hst1 with h1 | h1
                · subst h1
                  exact kk _ _ ⟨hM, hrw, hFq.lose undef, by rw [lose_bx]; exact hBq, g, by rw [(put_bx _ _ _ _).1, (put_bx _ _ _ _).2.1, (put_bx _ _ _ _).2.2]; exact HI, hF.put hdst (fun hg => absurd ((gdOf_wanted hgd).2 hg) hw) rfl (fun _ => rfl), hl, hbs⟩
                · subst h1; exact absurd ((gdOf_wanted hgd).2 trivial) hw
            split at h
            · rename_i r' cd' hq
              split at h
              · injection h with h
                simp only [Prod.mk.injEq] at h
                obtain ⟨rfl, rfl, rfl⟩ := h
                exact still hc kk
              · injection h with h
                simp only [Prod.mk.injEq] at h
                obtain ⟨rfl, rfl, rfl⟩ := h
                exact quiet (qopN_some hq) hc kk
            · injection h with h
              simp only [Prod.mk.injEq] at h
              obtain ⟨rfl, rfl, rfl⟩ := h
              exact still hc kk
          · cases h
    · cases h
theorem vrunT_conds {md : Option Nat} {ops : Array Oper} {L A : List Nat} : ∀ (l : List Oper) (k : Nat) (sq st : St) (c : Prop), (vrunT τ md nt ops L A l k sq st c).2.2.1 → c := by
  intro l
  induction l with
  | nil => intro k sq st c h; exact h
  | cons o l ih =>
    intro k sq st c h
    unfold vrunT at h
    split at h
    · exact (ih _ _ _ _ h).1
    · exact h
theorem vrunT_wpT {ops : Array Oper} {Q : Exit → Act → World → Prop} {L A : List Nat} {md : Option Nat} (hτ : τ.ok P) (hN : ∀ q, md = some q → N.bx.length ≤ q) : ∀ (l : List Oper) (k : Nat) (sq st : St) (c c' : Prop) (l' : List Oper) (k' : Nat), vrunT τ md nt ops L A l k sq st c = (sq', st', c', l', k') → c' →
    ∀ (a : Act) (w : World), RelT P w0 N nt gS sq st a w → (∀ a w, RelT P w0 N nt gS sq' st' a w → wpT P ops Q (Mem gS) L A l' k' a w) → wpT P ops Q (Mem gS) L A l k a w := by
  intro l
  induction l with
  | nil => intro k sq st c c' l' k' h _ a w H kk; simp only [vrunT, Prod.mk.injEq] at h; obtain ⟨rfl, rfl, rfl, rfl, rfl⟩ := h; exact kk _ _ H
  | cons o l ih =>
    intro k sq st c c' l' k' h hc a w H kk
    unfold vrunT at h
    split at h
    · rename_i sq1 st1 cd1 hs
      have hc1 : cd1 := by have := vrunT_conds (τ := τ) (nt := nt) (md := md) (ops := ops) (L := L) (A := A) l (k + 1) sq1 st1 (c ∧ cd1); rw [h] at this; exact (this hc).2
      exact vstepT_wpT hτ hN hs hc1 H fun a w H' => ih (k + 1) sq1 st1 _ c' l' k' h hc a w H' kk
    · simp only [Prod.mk.injEq] at h
      obtain ⟨rfl, rfl, rfl, rfl, rfl⟩ := h
      exact kk _ _ H
theorem Inv.loose {bx : List (Ty × AV)} {fz : List Nat} {rw_ : List (TypeId × Nat)} (h : Inv P w0 N g bx fz rw_ w) : Inv P { w with heap := #[] } ⟨fun _ _ => none, [], []⟩ g bx fz rw_ w :=
  ⟨h.mem, ⟨⟨rfl, rfl, rfl, Nat.zero_le _, fun k hk => absurd hk (Nat.not_lt_zero _)⟩, fun _ _ _ _ => .inl (Nat.zero_le _), fun _ _ _ _ _ => .inl (Nat.zero_le _), fun b hb => absurd hb (Nat.not_lt_zero _), ⟨fun _ _ _ h => (by cases h), fun _ _ h => (by cases h), fun _ _ h => (by cases h)⟩⟩, h.br, h.fz, h.wr, h.wz⟩
/-- A region that draws its order. -/
theorem v_draw {id : Nat} {Q : Exit → Act → World → Prop} {l : List Oper} (nb : Nat) (L A : List Nat) (hm : P.follows .mixedOrders = true) (hchk : chk l.toArray (Region.before l.toArray) L A = true) (H : Rel P w0 N nt st a w)
    (hb : (st.bx.take nb).all (fun x => low nb 0 4 x.2) = true)
    (k : ∀ gS, RelT P w0 N nt gS ⟨st.t.filter fun p => low nb 0 4 p.2.2, st.bx.take nb, st.fz, []⟩ st a w.drew → wpT P l.toArray Q (Mem gS) L A l 0 a w.drew) : (Code.region id l.toArray true).wp P Q a w := by
  obtain ⟨g, HI, hF⟩ := H
  have HI' := HI.drew
  have hc := HI'.loose.cut (nr := 0) (Nat.zero_le _) (Nat.zero_le _) hb
  have hgb : ∀ (i : Nat) x, (g.cut nb 0).bx[i]? = some x → g.bx[i]? = some x := fun i x hx => by
    have : (g.bx.take nb)[i]? = some x := hx
    rw [List.getElem?_take] at this
    split at this
    · exact this
    · cases this
  have hle : (g.cut nb 0).le g := ⟨fun _ _ _ h => h, fun i x hx => ⟨x, hgb i x hx, x.same⟩, fun i r hr => by simp [Gh.cut] at hr⟩
  have hbs : Bs (g.cut nb 0) g := fun i x hx => ⟨x, hgb i x hx, rfl, rfl, rfl, rfl, rfl⟩
  have HT : RelT P w0 N nt (g.cut nb 0) ⟨st.t.filter fun p => low nb 0 4 p.2.2, st.bx.take nb, st.fz, []⟩ st a w.drew :=
    ⟨hc.mem, by simp [Gh.cut], ⟨hF.sz, hF.df, fun p hp hg => by
      simp only [List.mem_filter] at hp
      exact (hF.t p hp.1 hg).low_ (d := 3) hp.2, fun p hp hg => hF.u p (List.mem_filter.1 hp).1 hg⟩, hc.br, g, HI', hF, hle, hbs⟩
  exact wp_region_T L A (Mem (g.cut nb 0)) hm hchk HT.mem (k _ HT)
theorem v_drawNil {ops : Array Oper} {Q : Exit → Act → World → Prop} {L A : List Nat} {k : Nat} (H : RelT P w0 N nt gS sq st a w) (h : Rel P w0 N nt st a w → Q .normal a w) : wpT P ops Q (Mem gS) L A [] k a w := by
  obtain ⟨_, _, _, _, g, HI, hF, _⟩ := H
  exact h ⟨g, HI, hF⟩
/-- A call in such a region. -/
theorem v_callT {ops : Array Oper} {Q : Exit → Act → World → Prop} {L A : List Nat} {k : Nat} {rest : List Oper} {o : Oper} {f : FuncId} {xs : List Operand} {ats : Array TypeId} {bxc bx' : List (Ty × AV)} {fzc fz' : List Nat} {rwc rw' : List (TypeId × Nat)} {args : List AV} {res : AV} (js ks : List Nat)
    (hc : VX P f bxc fzc rwc args bx' fz' rw' res) (H : RelT P w0 N nt gS sq st a w) (hL : L.contains k = true) (hjs : js.all (fun j => decide (sq.bx.length ≤ j)) = true)
    (hgd : o.guard = none) (ho : o.op = .call ⟨.value (.func f), xs.toArray, ats⟩) (hchk : (okSel js st.bx.length && okSel ks st.rw.length && usesB js st.bx && fzOk js st.fz fzc 0 && xs.all (fun x => argOk js (st.ev none x)) && uses some 4 res && bx'.all (fun x => uses some 4 x.2) && okDst nt none o.dst) = true)
    (hb : bxs (pickB js ks st.bx) bxc) (hr : ks.filterMap (st.rw[·]?) = rwc) (ha : allP (sub 4) (cargs st js ks xs) args)
    (kk : ∀ a w, RelT P w0 N nt gS (sq.lose o.dst) ((⟨st.t, mergeL st.bx js (renB js ks st.bx.length st.rw.length bx'), st.fz ++ fz'.map (nth js st.bx.length), mergeL st.rw ks rw'⟩ : St).put o.dst none (ren (fun k => some (nth js st.bx.length k)) (fun k => some (nth ks st.rw.length k)) 4 res)) a w → wpT P ops Q (Mem gS) L A rest (k + 1) a w) : wpT P ops Q (Mem gS) L A (o :: rest) k a w := by
  obtain ⟨hfok, hcall⟩ := hc
  obtain ⟨hM, hrw, hFq, hBq, g, HI, hF, hle, hbs⟩ := H
  simp only [Bool.and_eq_true] at hchk
  obtain ⟨⟨⟨⟨⟨⟨⟨c1, c2⟩, c3⟩, c4⟩, c5⟩, c6⟩, c7⟩, c8⟩ := hchk
  obtain ⟨hj, nj⟩ := okSel_ok c1
  obtain ⟨hk, nk⟩ := okSel_ok c2
  obtain ⟨h1, h2⟩ := cargs_ok HI hF hj hk c5 ha
  unfold wpT
  rw [if_pos (by simp [Region.wanted, hgd]), if_pos hL]
  unfold Oper.wp
  rw [run_callF hfok xs ats ho w, Oper.upon_enter]
  have HP : Inv P w (g.pick js ks) (g.pick js ks) bxc fzc rwc w := HI.pick js ks hj hk nj nk (usesB_ok c3) hb (fun i j hi hm => by simpa using fzOk_ok c4 i j hi hm) hr
    ⟨Kept.refl _ _, fun i x hx hxo => .inr ⟨x, hx, hxo, rfl⟩, fun i r k hr hrk => .inr ⟨r, hr, hrk⟩, fun _ _ _ _ => rfl, Gh.le.refl _⟩
  refine (hcall w (g.pick js ks) (xs.map a.eval) HP (by simp [h1]) h2).mono fun e w' hp => ?_
  obtain ⟨g1, v, rfl, HI1, hv⟩ := hp
  obtain ⟨k1, k2, k3, k4⟩ := HI.call HI1 hj hk nj nk (fun x hx => List.all_eq_true.1 c7 x hx)
  have hv' := hv.ren_ (g1 := g1) (g2 := ⟨g1.ro, mergeL g.bx js g1.bx, mergeL g.rw ks g1.rw⟩) (fb := fun k => some (nth js st.bx.length k)) (fr := fun k => some (nth ks st.rw.length k)) (d := 3) rfl (fun i j x hij hx => by injection hij with hij; subst hij; exact k3 i x hx) (fun i j x hij hx => by injection hij with hij; subst hij; exact k4 i x hx) (uses_some c6)
  have hbs' : Bs gS ⟨g1.ro, mergeL g.bx js g1.bx, mergeL g.rw ks g1.rw⟩ := fun i x hx => by
    obtain ⟨y, h3, h4⟩ := hbs i x hx
    refine ⟨y, merge_old (fun hm => ?_) h3, h4⟩
    have h5 := List.all_eq_true.1 hjs i hm
    simp only [decide_eq_true_eq] at h5
    have h6 := (List.getElem?_eq_some_iff.1 hx).1
    rw [hBq.len] at h6; omega
  have hM' := MemS (st := ⟨st.t, mergeL st.bx js (renB js ks st.bx.length st.rw.length bx'), st.fz ++ fz'.map (nth js st.bx.length), mergeL st.rw ks rw'⟩) hM hrw k2 (hle.trans k1) hbs'
  refine ⟨hM', kk _ _ ⟨hM', hrw, hFq.lose v, by rw [lose_bx]; exact hBq, _, ?_, (hF.mono k1).put c8 (fun _ => hv') rfl (fun h => absurd trivial h), hle.trans k1, hbs'⟩⟩
  rw [(put_bx _ _ _ _).1, (put_bx _ _ _ _).2.1, (put_bx _ _ _ _).2.2]
  exact k2
theorem v_moreT {ops : Array Oper} {Q : Exit → Act → World → Prop} {L A : List Nat} {q : Nat} {l l' : List Oper} {k k' : Nat} {c' : Prop} (hτ : τ.ok P) (hN : N.bx.length ≤ q) (H : RelT P w0 N nt gS sq st a w) (h : vrunT τ (some q) nt ops L A l k sq st True = (sq', st', c', l', k')) (hc : c')
    (kk : ∀ a w, RelT P w0 N nt gS sq' st' a w → wpT P ops Q (Mem gS) L A l' k' a w) : wpT P ops Q (Mem gS) L A l k a w :=
  vrunT_wpT hτ (hNq hN) l k sq st True c' l' k' h hc a w H kk
end
end Go.Proofs.Ytgffimanhmpohaa

/- Calls under a guard. -/
namespace Go.Proofs.Ytgffimanhmpohaa
open Go Go.RowKit
/-- What a known state is made plain by. -/

theorem pk : type_of% (And.intro @eq_self.{1} <| And.intro @Bool.not_true <| And.intro @Bool.not_false <| And.intro @cond_true.{1} <| And.intro @cond_false.{1} <| And.intro @List.cons_append.{0} <| And.intro @List.nil_append.{0} <| And.intro @List.append_nil.{0} <| And.intro @List.length_cons.{0} <| And.intro @List.length_nil.{0} <| And.intro @List.length_append.{0} <| And.intro @Nat.zero_add <| And.intro @Nat.add_zero <| And.intro @List.set_cons_zero.{0} <| And.intro @List.set_cons_succ.{0} <| And.intro @List.getElem?_cons_zero.{0} <| And.intro @List.getElem?_cons_succ.{0} <| And.intro @or_self <| And.intro @or_false <| And.intro @false_or <| And.intro @decide_true <| And.intro @decide_false <| And.intro @List.map_cons.{0, 0} <| And.intro @List.map_nil.{0, 0} <| And.intro @Int.toNat_natCast <| And.intro @Option.some.injEq.{0} <| And.intro @List.filter_cons.{0} <| And.intro @List.filter_nil.{0} <| And.intro @List.contains_cons.{0} <| And.intro @List.contains_nil.{0} <| And.intro @Bool.or_self <| And.intro @Bool.or_false <| And.intro @Bool.false_or <| And.intro @Bool.or_true <| And.intro @Bool.true_or <| And.intro @Bool.false_eq_true <| And.intro @List.take_succ_cons.{0} <| And.intro @List.take_zero.{0} <| And.intro @List.take_nil.{0} <| And.intro @rep1 <| And.intro @rep2 <| And.intro @rep3 <| And.intro @rep4 <| And.intro @rep5 <| And.intro @UInt8.ofNat_toNat <| And.intro @wrapu8 <| And.intro @wrapu16 <| And.intro @wrapu32 <| And.intro @wrapu64 <| And.intro @Nat.min_def <| And.intro @sub_refl <| And.intro @List.getD_nil.{0} <| And.intro @List.getD_cons_zero.{0} <| And.intro @List.getD_cons_succ.{0} <| And.intro @List.drop_succ_cons.{0} <| And.intro @List.drop_nil.{0} <| And.intro @Option.bind_some.{0, 0} <| And.intro @Option.bind_none.{0, 0} <| And.intro @Option.getD_some.{0} <| And.intro @Nat.sub_zero <| And.intro @Nat.sub_self <| And.intro @Nat.add_sub_cancel_left <| And.intro @Bool.and_self <| And.intro @Bool.and_true <| And.intro @Bool.true_and <| And.intro @List.all_cons.{0} <| And.intro @List.all_nil.{0} <| And.intro @Option.map_some.{0, 0} <| And.intro @Option.map_none.{0, 0} <| And.intro @Int.toNat_zero <| And.intro @List.drop_zero.{0} <| And.intro @List.take_length.{0} <| And.intro @and_self <| And.intro @and_true <| And.intro @true_and <| @implies_true.{0}) :=
  And.intro @eq_self.{1} <| And.intro @Bool.not_true <| And.intro @Bool.not_false <| And.intro @cond_true.{1} <| And.intro @cond_false.{1} <| And.intro @List.cons_append.{0} <| And.intro @List.nil_append.{0} <| And.intro @List.append_nil.{0} <| And.intro @List.length_cons.{0} <| And.intro @List.length_nil.{0} <| And.intro @List.length_append.{0} <| And.intro @Nat.zero_add <| And.intro @Nat.add_zero <| And.intro @List.set_cons_zero.{0} <| And.intro @List.set_cons_succ.{0} <| And.intro @List.getElem?_cons_zero.{0} <| And.intro @List.getElem?_cons_succ.{0} <| And.intro @or_self <| And.intro @or_false <| And.intro @false_or <| And.intro @decide_true <| And.intro @decide_false <| And.intro @List.map_cons.{0, 0} <| And.intro @List.map_nil.{0, 0} <| And.intro @Int.toNat_natCast <| And.intro @Option.some.injEq.{0} <| And.intro @List.filter_cons.{0} <| And.intro @List.filter_nil.{0} <| And.intro @List.contains_cons.{0} <| And.intro @List.contains_nil.{0} <| And.intro @Bool.or_self <| And.intro @Bool.or_false <| And.intro @Bool.false_or <| And.intro @Bool.or_true <| And.intro @Bool.true_or <| And.intro @Bool.false_eq_true <| And.intro @List.take_succ_cons.{0} <| And.intro @List.take_zero.{0} <| And.intro @List.take_nil.{0} <| And.intro @rep1 <| And.intro @rep2 <| And.intro @rep3 <| And.intro @rep4 <| And.intro @rep5 <| And.intro @UInt8.ofNat_toNat <| And.intro @wrapu8 <| And.intro @wrapu16 <| And.intro @wrapu32 <| And.intro @wrapu64 <| And.intro @Nat.min_def <| And.intro @sub_refl <| And.intro @List.getD_nil.{0} <| And.intro @List.getD_cons_zero.{0} <| And.intro @List.getD_cons_succ.{0} <| And.intro @List.drop_succ_cons.{0} <| And.intro @List.drop_nil.{0} <| And.intro @Option.bind_some.{0, 0} <| And.intro @Option.bind_none.{0, 0} <| And.intro @Option.getD_some.{0} <| And.intro @Nat.sub_zero <| And.intro @Nat.sub_self <| And.intro @Nat.add_sub_cancel_left <| And.intro @Bool.and_self <| And.intro @Bool.and_true <| And.intro @Bool.true_and <| And.intro @List.all_cons.{0} <| And.intro @List.all_nil.{0} <| And.intro @Option.map_some.{0, 0} <| And.intro @Option.map_none.{0, 0} <| And.intro @Int.toNat_zero <| And.intro @List.drop_zero.{0} <| And.intro @List.take_length.{0} <| And.intro @and_self <| And.intro @and_true <| And.intro @true_and <| @implies_true.{0}
theorem cd {c : Prop} (h : c := by ((repeat' (apply And.intro)) <;> first | exact True.intro | assumption | omega | (intro hg; simp at hg; omega) | (intro hg; simp at hg; (repeat' (apply And.intro)) <;> first | omega | (simp; omega)) | (simp; done) | (simp; omega) | (simp [ilo, ihi, IntKind.bits]; omega) | (simp [fit, AV.put]; done) | (simp [fit, AV.put]; omega))) : c := h
section
variable {P : Program} {τ : Tab} {w0 w : World} {N : Gh} {g gS : Gh} {st st' sq sq' : St} {nt : Nat} {a : Act}
def cargsG (st : St) (c : Gd) (js ks : List Nat) (xs : List Operand) : List AV := xs.map fun x => ren (idx? js) (idx? ks) 4 (st.ev c x)
theorem cargs_okG {c : Gd} (hg : gholds a c) (HI : Inv P w0 N g st.bx st.fz st.rw w) (hF : FR g nt st a) {js ks : List Nat} (hj : ∀ j ∈ js, j < st.bx.length) (hk : ∀ k ∈ ks, k < st.rw.length) {xs : List Operand} {args : List AV} (hx : xs.all (fun x => argOk js (st.ev c x)) = true) (ha : allP (sub 4) (cargsG st c js ks xs) args) :
    args.length = xs.length ∧ ∀ (i : Nat) x v, args[i]? = some x → (xs.map a.eval)[i]? = some v → RV (g.pick js ks) x v := by
  obtain ⟨h1, h2⟩ := allP_get ha
  refine ⟨by rw [← h1]; simp [cargsG], fun i x v hi hv => ?_⟩
  obtain ⟨y, hy, hs⟩ := h2 i x hi
  unfold cargsG at hy
  rw [List.getElem?_map] at hy hv
  obtain ⟨o, ho, rfl⟩ := Option.map_eq_some_iff.1 hy
  rw [ho] at hv
  simp only [Option.map_some, Option.some.injEq] at hv
  subst hv
  have hc := List.all_eq_true.1 hx o (List.mem_of_getElem? ho)
  simp only [argOk, Bool.and_eq_true, Bool.not_eq_true'] at hc
  have hr := ev_sound hF hg o
  have hlr : g.rw.length = st.rw.length := by rw [← HI.wr, List.length_map]
  have hp := hr.pick_ (js := js) (ks := ks) (d := 3) (fun j hm => by rw [HI.br.len]; exact hj j hm) (fun k hm => by rw [hlr]; exact hk k hm) hc.1.1
  have ht : ∀ az, st.ev c o ≠ .tup az := fun az e => by rw [e] at hc; simp at hc
  exact ((hp.rv1 (ren_any hc.1.2) (ren_tup ht)).sub_ hs).rv
/-- The same where the order is drawn. -/
theorem v_callTG {ops : Array Oper} {Q : Exit → Act → World → Prop} {L A : List Nat} {k : Nat} {rest : List Oper} {o : Oper} {f : FuncId} {xs : List Operand} {ats : Array TypeId} {bxc bx' : List (Ty × AV)} {fzc fz' : List Nat} {rwc rw' : List (TypeId × Nat)} {args : List AV} {res : AV} {c : Gd} (js ks : List Nat)
    (hc : VX P f bxc fzc rwc args bx' fz' rw' res) (H : RelT P w0 N nt gS sq st a w) (hL : L.contains k = true) (hjs : js.all (fun j => decide (sq.bx.length ≤ j)) = true)
    (hgd : gdOf ops o = some c) (ho : o.op = .call ⟨.value (.func f), xs.toArray, ats⟩) (hchk : (okSel js st.bx.length && okSel ks st.rw.length && usesB js st.bx && fzOk js st.fz fzc 0 && xs.all (fun x => argOk js (st.ev c x)) && uses some 4 res && bx'.all (fun x => uses some 4 x.2) && okDst nt c o.dst) = true)
    (hb : bxs (pickB js ks st.bx) bxc) (hr : ks.filterMap (st.rw[·]?) = rwc) (ha : allP (sub 4) (cargsG st c js ks xs) args)
    (hmb : mergeL st.bx js (renB js ks st.bx.length st.rw.length bx') = st.bx) (hmf : fz'.map (nth js st.bx.length) = []) (hmr : mergeL st.rw ks rw' = st.rw)
    (kk : ∀ a w, RelT P w0 N nt gS (sq.lose o.dst) (st.put o.dst c (ren (fun k => some (nth js st.bx.length k)) (fun k => some (nth ks st.rw.length k)) 4 res)) a w → wpT P ops Q (Mem gS) L A rest (k + 1) a w) : wpT P ops Q (Mem gS) L A (o :: rest) k a w := by
  obtain ⟨hfok, hcall⟩ := hc
  obtain ⟨hM, hrw, hFq, hBq, g, HI, hF, hle, hbs⟩ := H
  simp only [Bool.and_eq_true] at hchk
  obtain ⟨⟨⟨⟨⟨⟨⟨c1, c2⟩, c3⟩, c4⟩, c5⟩, c6⟩, c7⟩, c8⟩ := hchk
  obtain ⟨hj, nj⟩ := okSel_ok c1
  obtain ⟨hk, nk⟩ := okSel_ok c2
  unfold wpT
  by_cases hw : Region.wanted o (yielded ops a.tmps) = true
  · rw [if_pos hw, if_pos hL]
    obtain ⟨h1, h2⟩ := cargs_okG ((gdOf_wanted hgd).1 hw) HI hF hj hk c5 ha
    unfold Oper.wp
    rw [run_callF hfok xs ats ho w, Oper.upon_enter]
    have HP : Inv P w (g.pick js ks) (g.pick js ks) bxc fzc rwc w := HI.pick js ks hj hk nj nk (usesB_ok c3) hb (fun i j hi hm => by simpa using fzOk_ok c4 i j hi hm) hr
      ⟨Kept.refl _ _, fun i x hx hxo => .inr ⟨x, hx, hxo, rfl⟩, fun i r k hr hrk => .inr ⟨r, hr, hrk⟩, fun _ _ _ _ => rfl, Gh.le.refl _⟩
    refine (hcall w (g.pick js ks) (xs.map a.eval) HP (by simp [h1]) h2).mono fun e w' hp => ?_
    obtain ⟨g1, v, rfl, HI1, hv⟩ := hp
    obtain ⟨k1, k2, k3, k4⟩ := HI.call HI1 hj hk nj nk (fun x hx => List.all_eq_true.1 c7 x hx)
    have hv' := hv.ren_ (g1 := g1) (g2 := ⟨g1.ro, mergeL g.bx js g1.bx, mergeL g.rw ks g1.rw⟩) (fb := fun k => some (nth js st.bx.length k)) (fr := fun k => some (nth ks st.rw.length k)) (d := 3) rfl (fun i j x hij hx => by injection hij with hij; subst hij; exact k3 i x hx) (fun i j x hij hx => by injection hij with hij; subst hij; exact k4 i x hx) (uses_some c6)
    have hbs' : Bs gS ⟨g1.ro, mergeL g.bx js g1.bx, mergeL g.rw ks g1.rw⟩ := fun i x hx => by
      obtain ⟨y, h3, h4⟩ := hbs i x hx
      refine ⟨y, merge_old (fun hm => ?_) h3, h4⟩
      have h5 := List.all_eq_true.1 hjs i hm
      simp only [decide_eq_true_eq] at h5
      have h6 := (List.getElem?_eq_some_iff.1 hx).1
      rw [hBq.len] at h6; omega
    rw [hmb, hmf, hmr, List.append_nil] at k2
    have hM' := MemS (st := st) hM hrw k2 (hle.trans k1) hbs'
    refine ⟨hM', kk _ _ ⟨hM', hrw, hFq.lose v, by rw [lose_bx]; exact hBq, _, ?_, (hF.mono k1).put c8 (fun _ => hv') rfl (fun h => absurd ((gdOf_wanted hgd).1 hw) h), hle.trans k1, hbs'⟩⟩
    rw [(put_bx _ _ _ _).1, (put_bx _ _ _ _).2.1, (put_bx _ _ _ _).2.2]
    exact k2
  · rw [if_neg hw]
    exact kk _ _ ⟨hM, hrw, hFq.lose undef, by rw [lose_bx]; exact hBq, g, by rw [(put_bx _ _ _ _).1, (put_bx _ _ _ _).2.1, (put_bx _ _ _ _).2.2]; exact HI, hF.put c8 (fun hg => absurd ((gdOf_wanted hgd).2 hg) hw) rfl (fun _ => rfl), hle, hbs⟩
end
end Go.Proofs.Ytgffimanhmpohaa

/- Guards that are known to hold; pointers to what changes no more. -/
namespace Go.Proofs.Ytgffimanhmpohaa
open Go Go.RowKit
section
variable {P : Program} {τ : Tab} {w0 w : World} {N : Gh} {g gS : Gh} {st st' sq sq' : St} {nt : Nat} {a : Act}
theorem v_guard {ops : Array Oper} {Q : Exit → Act → World → Prop} {rest : List Oper} {o : Oper} {t : Nat} {b : Bool} (H : Rel P w0 N nt st a w) (hgd : gdOf ops o = some (some (t, b))) (hk : st.tmp none t = .v (.bool b))
    (h : wpList P ops Q ({ o with guard := none } :: rest) a w) : wpList P ops Q (o :: rest) a w := by
  obtain ⟨g, HI, hF⟩ := H
  have h1 := tmp_sound hF (c := none) trivial t
  rw [hk] at h1
  have hw : Region.wanted o (yielded ops a.tmps) = true := (gdOf_wanted hgd).2 h1.v_inv
  obtain ⟨dst, op, ty, pos, after, gd⟩ := o
  unfold wpList at h ⊢
  rw [if_pos hw]
  rw [if_pos (by simp [Region.wanted])] at h
  exact h
theorem cd2 {c : Prop} (h : c := by ((repeat' (apply And.intro)) <;> (intros; first | omega | (simp at *; omega) | (simp_all; done) | (simp_all; omega)))) : c := h
theorem not_wanted {ops : Array Oper} {o : Oper} {t : Nat} {b : Bool} (hF : FR g nt st a) (hgd : gdOf ops o = some (some (t, b))) (hk : st.tmp none t = .v (.bool (!b))) : ¬ Region.wanted o (yielded ops a.tmps) = true := fun hw => by
  have h1 := tmp_sound hF (c := none) trivial t
  rw [hk] at h1
  have h2 : a.tmps.getD t undef = .bool b := (gdOf_wanted hgd).1 hw
  rw [h1.v_inv] at h2
  injection h2 with h2
  cases b <;> cases h2
theorem v_skipT {ops : Array Oper} {Q : Exit → Act → World → Prop} {L A : List Nat} {i : Nat} {rest : List Oper} {o : Oper} {t : Nat} {b : Bool} (r : AV) (H : RelT P w0 N nt gS sq st a w) (hgd : gdOf ops o = some (some (t, b))) (hk : st.tmp none t = .v (.bool (!b))) (hd : okDst nt (some (t, b)) o.dst = true)
    (kk : ∀ a w, RelT P w0 N nt gS (sq.lose o.dst) (st.put o.dst (some (t, b)) r) a w → wpT P ops Q (Mem gS) L A rest (i + 1) a w) : wpT P ops Q (Mem gS) L A (o :: rest) i a w := by
  obtain ⟨hM, hrw, hFq, hBq, g, HI, hF, hle, hbs⟩ := H
  have hw := not_wanted hF hgd hk
  unfold wpT
  rw [if_neg hw]
  exact kk _ _ ⟨hM, hrw, hFq.lose undef, by rw [lose_bx]; exact hBq, g, by rw [(put_bx _ _ _ _).1, (put_bx _ _ _ _).2.1, (put_bx _ _ _ _).2.2]; exact HI, hF.put hd (fun hg => absurd ((gdOf_wanted hgd).2 hg) hw) rfl (fun _ => rfl), hle, hbs⟩
/-- A window on a whole array of bytes that changes no more: bytes with their room. -/
theorem v_bc (H : Rel P w0 N nt st a w) (d i : Nat) {m n : Nat} {l : List UInt8} (hN : N.bx.length ≤ i) (hb : st.bx[i]? = some (.ba m, .ba l)) (hm : 0 < m) (hd : find d st.t = some (none, .win i [] 0 n)) :
    Rel P w0 N nt ⟨nilT d (.bc l n (some i)) st.t, st.bx, i :: st.fz, st.rw⟩ a w := by
  obtain ⟨g, HI, hF⟩ := H
  obtain ⟨y, hy, hT, hrc⟩ := HI.br.at_ i _ _ hb
  obtain ⟨hyo, hym, hrc⟩ := hrc.rc rfl
  obtain ⟨g1, l1, I1, ⟨y', hy', hblk, hcells, hty, _⟩, hro⟩ := HI.freeze hy hyo hym hN
  have hc : y.cells = l.map B8 ∧ l.length = m := by
    generalize y.cells = cs at hrc
    cases hrc with
    | ba h => exact ⟨rfl, h⟩
  refine ⟨g1, I1, (hF.mono l1.1).sz, hF.df, fun p hp' hg => ?_, fun p hp hg => by rcases nilT_mem hp with h | h; (subst h; exact absurd trivial hg); exact hF.u p h hg⟩
  rcases nilT_mem hp' with h | h
  · subst h
    have h1 := (hF.t _ (find_mem hd) trivial).win_inv
    have : RV g1 (.bc l n (some i)) (a.tmps.getD d undef) := by
      generalize a.tmps.getD d undef = u at h1
      cases h1 with
      | win h ho hn hc2 hm2 hA =>
        rw [hy] at h
        injection h with h
        subst h
        rw [hT] at ho
        simp only [Ty.loc, Option.some.injEq, Prod.mk.injEq, Ty.ba.injEq] at ho
        obtain ⟨rfl, rfl⟩ := ho
        rw [Nat.zero_add] at hn
        subst hn
        rcases hA with hA | hA
        · omega
        · rw [hA]
          have e := RC.bc (g := g1) (l := l) (n := n) (tok := some i) (A := some ⟨y.blk, 0, none⟩) (by rw [hc.2]; exact hc2) (by rw [hc.2]; exact hm2) (.inr ⟨y.blk, 0, rfl, fun j hj => by rw [Nat.zero_add]; exact hro j _ (by rw [hc.1]; simp [hj])⟩)
            (fun k hk => by injection hk with hk; subst hk; exact ⟨y', hy', by rw [hblk], by rw [hty, hT, hc.2]⟩)
          rw [hc.2] at e
          exact e.rvp
    exact this
  · exact (hF.mono l1.1).t p h hg
/-- A few steps. -/
theorem v_some {ops : Array Oper} {Q : Exit → Act → World → Prop} {q : Nat} {o : Oper} {l : List Oper} {c' : Prop} (n : Nat) (hτ : τ.ok P) (hN : N.bx.length ≤ q) (H : Rel P w0 N nt st a w) (h : vrun τ (some q) nt ops ((o :: l).take n) st True = (st', c', [])) (hc : c')
    (k : ∀ a w, Rel P w0 N nt st' a w → wpList P ops Q ((o :: l).drop n) a w) : wpList P ops Q (o :: l) a w := v_steps n hτ hN H h hc k
theorem v_someT {ops : Array Oper} {Q : Exit → Act → World → Prop} {L A : List Nat} {q k k' : Nat} {o : Oper} {l : List Oper} {c' : Prop} (n : Nat) (hτ : τ.ok P) (hN : N.bx.length ≤ q) (H : RelT P w0 N nt gS sq st a w) (h : vrunT τ (some q) nt ops L A ((o :: l).take n) k sq st True = (sq', st', c', [], k')) (hc : c')
    (kk : ∀ a w, RelT P w0 N nt gS sq' st' a w → wpT P ops Q (Mem gS) L A ((o :: l).drop n) k' a w) : wpT P ops Q (Mem gS) L A (o :: l) k a w := by
  have key : ∀ (l1 l2 : List Oper) (k : Nat) (sq st : St) (c : Prop), vrunT τ (some q) nt ops L A l1 k sq st c = (sq', st', c', [], k') → c' → ∀ a w, RelT P w0 N nt gS sq st a w → (∀ a w, RelT P w0 N nt gS sq' st' a w → wpT P ops Q (Mem gS) L A l2 k' a w) → wpT P ops Q (Mem gS) L A (l1 ++ l2) k a w := by
    intro l1 l2
    induction l1 with
    | nil => intro k sq st c h _ a w H kk; simp only [vrunT, Prod.mk.injEq] at h; obtain ⟨rfl, rfl, _, _, rfl⟩ := h; exact kk _ _ H
    | cons o l1 ih =>
      intro k sq st c h hc a w H kk
      unfold vrunT at h
      split at h
      · rename_i sq1 st1 cd1 hs
        have hc1 : cd1 := by have := vrunT_conds (τ := τ) (nt := nt) (md := some q) (ops := ops) (L := L) (A := A) l1 (k + 1) sq1 st1 (c ∧ cd1); rw [h] at this; exact (this hc).2
        exact vstepT_wpT hτ (hNq hN) hs hc1 H fun a w H' => ih (k + 1) sq1 st1 _ h hc a w H' kk
      · simp at h
  have := key ((o :: l).take n) ((o :: l).drop n) k sq st True h hc a w H kk
  rwa [List.take_append_drop] at this
end
section
variable {P : Program} {τ : Tab} {w0 w : World} {N : Gh} {st : St} {nt : Nat} {a : Act}
/-- A slice that is none becomes one of what grows. -/
theorem v_nilV (hτ : τ.ok P) (H : Rel P w0 N nt st a w) (d e : Nat) {j : TI} (hj : Tab.get e τ = some j) (hs : 0 < j.ty.size) (hd : find d st.t = some (none, .v (.slice none 0 0))) :
    Rel P w0 N nt ⟨nilT d (.vw st.bx.length 0 0) st.t, st.bx ++ [(.vc e j.ty, .vc 0 [])], st.fz, st.rw⟩ a w := by
  obtain ⟨g, HI, hF⟩ := H
  obtain ⟨g1, l1, I1, h1⟩ := HI.boxG (x := ⟨0, e, .vc e j.ty, [], false, 0, 0, true, none⟩) (a := .vc 0 []) (w' := w) rfl ⟨rfl, rfl, rfl, Nat.le_refl _, fun _ _ _ => rfl⟩ (fun e => by cases e) (fun _ => rfl) (fun e => by cases e)
    (.inr (.inl ⟨j.ty, 0, [], fun _ => [], [], ⟨_, rfl, rfl⟩, rfl, rfl, rfl, hs, ⟨Nat.zero_le _, fun _ => rfl⟩, rfl, (by show 0 = 0 * _; rw [Nat.zero_mul]), fun u hu => (by cases hu), fun k hk => absurd hk (by simp)⟩))
  refine ⟨g1, I1, (hF.mono l1.1).sz, hF.df, fun p hp' hg => ?_, fun p hp hg => by rcases nilT_mem hp with h | h; (subst h; exact absurd trivial hg); exact hF.u p h hg⟩
  rcases nilT_mem hp' with h | h
  · subst h
    have hv := (hF.t _ (find_mem hd) trivial).v_inv
    have e1 : a.tmps.getD d undef = .slice none 0 0 := hv
    show RV g1 (.vw st.bx.length 0 0) (a.tmps.getD d undef)
    rw [e1]
    exact (RC.vw h1 rfl (Nat.le_refl _) (Nat.le_refl _) (Nat.zero_le _) fun _ => ⟨rfl, .inl ⟨rfl, rfl⟩⟩).rv1
  · exact (hF.mono l1.1).t p h hg
/-- What grows and is written no more: in a slot. -/
theorem v_frz (H : Rel P w0 N nt st a w) (d i : Nat) {e γ n : Nat} {T : Ty} {es : List AV} (hN : N.bx.length ≤ i) (hb : st.bx[i]? = some (.vc e T, .vc γ es)) (hn : n ≤ es.length) (hd : find d st.t = some (none, .vw i γ n)) :
    Rel P w0 N nt ⟨nilT d (.sl T (es.take n) none) st.t, st.bx, i :: st.fz, st.rw⟩ a w := by
  obtain ⟨g, HI, hF⟩ := H
  obtain ⟨y, hy, hyT, hbc⟩ := HI.br.at_ i _ _ hb
  obtain ⟨T2, F, sp, ⟨e2, he2, htid⟩, hmp, hgen, h0, hcm, hcs, hcl, hsp, hFk⟩ := hbc.vc_inv
  injection he2 with he20 he2; subst he20 he2
  have hv := (hF.t _ (find_mem hd) trivial).vw_inv.vw_inv
  obtain ⟨_, y', e3, T3, A, c, hval, hy', hty', hle, hnc, hm, hxx⟩ := hv
  rw [hy] at hy'; injection hy' with hy'; subst hy'
  injection hval with hval
  obtain ⟨hcc, hA⟩ := hxx hgen
  have hval : a.tmps.getD d undef = .slice A n c := hval
  have htl : (es.take n).length = n := by rw [List.length_take]; omega
  rcases hA with ⟨ho, hA⟩ | ⟨ho, hA⟩
  · have hc0 : c = 0 := by rw [hcc]; exact hcm.2 ho
    refine ⟨g, ⟨HI.mem, HI.fr, HI.br, fun j x hj hf => List.mem_cons_of_mem _ (HI.fz j x hj hf), HI.wr, HI.wz⟩, hF.sz, hF.df, fun p hp' hg => ?_, fun p hp hg => by rcases nilT_mem hp with h | h; (subst h; exact absurd trivial hg); exact hF.u p h hg⟩
    rcases nilT_mem hp' with h | h
    · subst h
      show RV g (.sl T (es.take n) none) (a.tmps.getD d undef)
      have hn0 : n = 0 := by omega
      rw [hval, hA, hn0, hc0]
      exact (RC.nil2 (by simp)).rv1
    · exact hF.t p h hg
  · obtain ⟨g1, l1, I1, _, hro⟩ := HI.freeze hy ho hmp hN
    refine ⟨g1, I1, (hF.mono l1.1).sz, hF.df, fun p hp' hg => ?_, fun p hp hg => by rcases nilT_mem hp with h | h; (subst h; exact absurd trivial hg); exact hF.u p h hg⟩
    rcases nilT_mem hp' with h | h
    · subst h
      show RV g1 (.sl T (es.take n) none) (a.tmps.getD d undef)
      rw [hval, hA]
      have := RC.sl (g := g1) (T := T) (es := es.take n) (tok := none) (A := some ⟨y.blk, 0, none⟩) (c := c) (by omega) hm F (.inr ⟨y.blk, 0, rfl, fun k hk j u hu => by
        rw [Nat.zero_add]
        refine hro _ _ ?_
        rw [hcs]
        exact flat_at hFk (by omega) hu⟩) (fun k hk => by
        rw [List.getElem_take]
        exact (hFk k (by omega)).mono l1.1.base) (fun i hi => by cases hi)
      rw [htl] at this
      exact this.rv1
    · exact (hF.mono l1.1).t p h hg
end
section
variable {P : Program} {τ : Tab} {w0 w : World} {N : Gh} {g gS : Gh} {st st' sq sq' : St} {nt : Nat} {a : Act} {r : AV} {cd : Prop}
end
theorem cb {c : Prop} (h : c := by (simp [pickB, bxs, ren, idx?, sub_refl, sub, allP] <;> omega)) : c := h
end Go.Proofs.Ytgffimanhmpohaa
/- The marks of a walk: each is a theorem whose hypotheses are proved by tactics of their own. -/
namespace Go.Proofs.Ytgffimanhmpohaa
open Go Go.RowKit
structure Bx9 (p : Prop) : Prop where
  out : p
theorem bx9k {p q : Act → World → Prop} {G2 : Prop} (k : Bx9 G2) {a : Act} {w : World} (H : p a w) (h : G2 = ∀ a w, p a w → q a w := by rfl) : q a w := (h ▸ k.out) a w H
section
variable {P : Program} {w0 w : World} {N gS : Gh} {nt : Nat} {st s2 sq q2 : St} {a : Act}
theorem nfs {s s2 : St} (h : s = s2 := by ((try simp only [List.nil_append, List.cons_append, pk, elemB, St.put, St.ev, St.tmp, St.keep, find, dropT, slots, AV.put, AV.loc, fitI, convI, IntKind.signed, IntKind.bits, strip, St.lose, mergeL, setAll, nth, renB, ren, idx?, sub, allP, low, bnd, Int.reduceEq, Int.reduceMul, Nat.reduceAdd, Nat.reduceLT, reduceIte, reduceCtorEq, Nat.reduceEqDiff, Nat.reduceLeDiff, Nat.reduceBEq, Int.reducePow, Int.reduceToNat]); (try (simp only [hX]; try simp only [List.nil_append, List.cons_append, pk, elemB, St.put, St.ev, St.tmp, St.keep, find, dropT, slots, AV.put, AV.loc, fitI, convI, IntKind.signed, IntKind.bits, strip, St.lose, mergeL, setAll, nth, renB, ren, idx?, sub, allP, low, bnd, Int.reduceEq, Int.reduceMul, Nat.reduceAdd, Nat.reduceLT, reduceIte, reduceCtorEq, Nat.reduceEqDiff, Nat.reduceLeDiff, Nat.reduceBEq, Int.reducePow, Int.reduceToNat])); rfl)) : s = s2 := h
theorem nf (H : Rel P w0 N nt st a w) (h : st = s2 := by exact nfs) : Rel P w0 N nt s2 a w := h ▸ H
theorem ntf (H : RelT P w0 N nt gS sq st a w) (h1 : sq = q2 := by exact nfs) (h : st = s2 := by exact nfs) : RelT P w0 N nt gS q2 s2 a w := h1 ▸ h ▸ H
theorem ctX {c : Prop} (h : c := by ((try simp only [hX]); (try simp only [hY]); (try simp only [List.nil_append, List.cons_append, pk, elemB, St.put, St.ev, St.tmp, St.keep, find, dropT, slots, AV.put, AV.loc, fitI, convI, IntKind.signed, IntKind.bits, strip, St.lose, mergeL, setAll, nth, renB, ren, idx?, sub, allP, low, bnd, Int.reduceEq, Int.reduceMul, Nat.reduceAdd, Nat.reduceLT, reduceIte, reduceCtorEq, Nat.reduceEqDiff, Nat.reduceLeDiff, Nat.reduceBEq, Int.reducePow, Int.reduceToNat, fit, gcond, ilo, ihi]); first | done | exact cd | exact cd2 | skip)) : c := h
theorem cbX {c : Prop} (h : c := by (first | (simp [pickB, bxs, ren, idx?, List.idxOf_cons, sub_refl, sub, allP, hX] <;> omega) | (simp [pickB, bxs, ren, idx?, List.idxOf_cons, sub_refl, sub, allP] <;> omega))) : c := h
theorem cwX {c : Prop} (h : c := by (first | rfl | (simp [hX] <;> omega) | (simp <;> omega))) : c := h
theorem caX {c : Prop} (h : c := by (first | exact trivial | exact ⟨sub_refl _ _, trivial⟩ | exact ⟨sub_refl _ _, sub_refl _ _, trivial⟩ | exact ⟨sub_refl _ _, sub_refl _ _, sub_refl _ _, trivial⟩ | exact ⟨⟨rfl, sub_refl _ _, trivial⟩, sub_refl _ _, trivial⟩ | (simp [cargs, cargsG, St.ev, St.tmp, find, ren, idx?, sub_refl, sub, allP, resv, resC, bss, hX] <;> omega) | (simp [cargs, cargsG, St.ev, St.tmp, find, ren, idx?, sub_refl, sub, allP, resv, resC, bss] <;> omega))) : c := h
theorem mS {G G2 : Prop} (g : G2) (f : Bx9 G2 → G := by (intro kk9; (repeat (first | refine wp_seq ?_ | refine wp_block ?_ | refine wp_skip ?_ | refine wp_exit ?_)); exact kk9.out)) : G := f ⟨g⟩
theorem mW {G G2 : Prop} (g : G2) (f : Bx9 G2 → G := by (intro kk9; (repeat (first | refine wp_seq ?_ | refine wp_block ?_ | refine wp_skip ?_ | refine wp_exit ?_ | ((first | refine v_some 5 tab_ok hN H (by rfl) ctX ?_ | refine v_more tab_ok hN H (by rfl) (by rfl) ctX ?_); intro a w H; replace H := nf H; (try simp only [List.drop_succ_cons, List.drop_zero, List.drop_nil]); try refine wpList_nil ?_) | refine wp_region_lit ?_)); exact bx9k kk9 H)) : G := f ⟨g⟩
theorem mT {G G2 : Prop} (g : G2) (f : Bx9 G2 → G := by (intro kk9; (repeat (refine v_someT 5 tab_ok hN H (by rfl) ctX ?_; intro a w H; replace H := ntf H; simp only [List.drop_succ_cons, List.drop_zero, List.drop_nil])); (refine v_moreT tab_ok hN H (by rfl) ctX ?_; intro a w H; try replace H := ntf H); exact bx9k kk9 H)) : G := f ⟨g⟩
theorem mN {ops : Array Oper} {Q : Exit → Act → World → Prop} {q : Nat} {l : List Oper} {c' : Prop} {st' : St} (n : Nat) (hN : N.bx.length ≤ q) (H : Rel Try.prog w0 N nt st a w) (g : ∀ a w, Rel Try.prog w0 N nt s2 a w → wpList Try.prog ops Q (l.drop n) a w)
    (h : vrun tab (some q) nt ops (l.take n) st True = (st', c', []) := by rfl) (hc : c' := by exact ctX) (hs : st' = s2 := by exact nfs) : wpList Try.prog ops Q l a w := v_steps n tab_ok hN H h hc fun a w H => g a w (hs ▸ H)
theorem mTN {ops : Array Oper} {Q : Exit → Act → World → Prop} {L A : List Nat} {q k k' : Nat} {o : Oper} {l : List Oper} {c' : Prop} {sq' st' : St} (n : Nat) (hN : N.bx.length ≤ q) (H : RelT Try.prog w0 N nt gS sq st a w) (g : ∀ a w, RelT Try.prog w0 N nt gS q2 s2 a w → wpT Try.prog ops Q (Mem gS) L A ((o :: l).drop n) k' a w)
    (h : vrunT tab (some q) nt ops L A ((o :: l).take n) k sq st True = (sq', st', c', [], k') := by rfl) (hc : c' := by exact ctX) (h1 : sq' = q2 := by exact nfs) (hs : st' = s2 := by exact nfs) : wpT Try.prog ops Q (Mem gS) L A (o :: l) k a w := v_someT n tab_ok hN H h hc fun a w H => g a w (h1 ▸ hs ▸ H)
theorem mC {Q : Exit → Act → World → Prop} {c : Operand} {x y : Code} {b : Bool} (H : Rel P w0 N nt st a w) (h1 : b = true → x.wp P Q a w) (h2 : b = false → y.wp P Q a w) (hc : st.ev none c = .v (.bool b) := by rfl) : (Code.cond c x y).wp P Q a w := v_cond H hc h1 h2
theorem mE {f : FuncId} {fn : Func} {c : Code} {bx bx' : List (Ty × AV)} {fz fz' : List Nat} {rw rws : List (TypeId × Nat)} {args : List AV} {res : AV} (hf : P.funcs[f]? = some fn) (h : ∀ (N : Gh) (w0 : World) (a : Act) (w : World), N.bx.length ≤ bx.length → N.rw.length ≤ rw.length → Rel P w0 N fn.ntmps ⟨slots 0 args, bx, fz, rw⟩ a w → c.wp P (bodyPost P fn (VPost P w0 N bx' fz' rws res)) a w)
    (hb : fn.body = some c := by rfl) (hnm : (fn.name == "runtime.NumGoroutine") = false := by kernel_rfl) (hn : args.length ≤ fn.ntmps := by exact Nat.le_of_ble_eq_true rfl) : VX P f bx fz rw args bx' fz' rws res := v_enter hf hb hnm hn h
theorem mK {p q : Nat} (ks : List Nat) (nb nr : Nat) (hN : N.bx.length ≤ p) (hR : N.rw.length ≤ q) (H : Rel P w0 N nt st a w) (h1 : p ≤ nb := by exact Nat.le_of_ble_eq_true rfl) (h2 : q ≤ nr := by exact Nat.le_of_ble_eq_true rfl) (h3 : keepT ks nb nr st.t = true := by rfl) (h4 : (st.bx.take nb).all (fun x => low nb nr 4 x.2) = true := by rfl)
    (hs : st.keep ks nb nr = s2 := by exact nfs) : Rel P w0 N nt s2 a w := hs ▸ H.keep ks nb nr ⟨Nat.le_trans hN h1, Nat.le_trans hR h2⟩ h3 h4
theorem mEnd {fn : Func} {nb nr : Nat} (js ks : List Nat) (rs : List ResultVar) (ress : List AV) (hN : N.bx.length ≤ nb) (hR : N.rw.length ≤ nr) (H : Rel Try.prog w0 N nt st a w) {bx' : List (Ty × AV)} {fz' : List Nat} {rw' : List (TypeId × Nat)} {res : AV} (ht : tupOf ress = res := by rfl) (hr : fn.results = rs.toArray := by rfl)
    (hchk : (okSel js st.bx.length && okSel ks st.rw.length && usesB js st.bx && preOk js nb && preOk ks nr && rs.all (fun x => argOk js (resv tab st x))) = true := by rfl) (hf : fzOk js st.fz fz' 0 = true := by rfl) (hb : bxs (pickB js ks st.bx) bx' := by exact cbX) (hw : ks.filterMap (st.rw[·]?) = rw' := by exact cwX)
    (he : allP (sub 4) (rs.map fun x => ren (idx? js) (idx? ks) 4 (resv tab st x)) ress := by exact caX) : a.defers = [] ∧ ∃ v, (results fn a.tmps).run Try.prog w = .ok v w ∧ VPost Try.prog w0 N bx' fz' rw' res (.returned v) w := v_end js ks tab_ok ⟨hN, hR⟩ hr H hchk hf hb hw he ht
theorem mCall {ops : Array Oper} {Q : Exit → Act → World → Prop} {rest : List Oper} {o : Oper} {f : FuncId} {xs : List Operand} {ats : Array TypeId} {bxc bx' : List (Ty × AV)} {fzc fz' : List Nat} {rwc rw' : List (TypeId × Nat)} {args : List AV} {res : AV} {s2 : St} (js ks : List Nat) (hc : VX P f bxc fzc rwc args bx' fz' rw' res) (H : Rel P w0 N nt st a w) (g : ∀ a w, Rel P w0 N nt s2 a w → wpList P ops Q rest a w)
    (hgd : o.guard = none := by rfl) (ho : o.op = .call ⟨.value (.func f), xs.toArray, ats⟩ := by rfl) (hchk : (okSel js st.bx.length && okSel ks st.rw.length && usesB js st.bx && fzOk js st.fz fzc 0 && xs.all (fun x => argOk js (st.ev none x)) && uses some 4 res && bx'.all (fun x => uses some 4 x.2) && okDst nt none o.dst) = true := by rfl) (hb : bxs (pickB js ks st.bx) bxc := by exact cbX) (hr : ks.filterMap (st.rw[·]?) = rwc := by exact cwX) (ha : allP (sub 4) (cargs st js ks xs) args := by exact caX)
    (hs : (⟨st.t, mergeL st.bx js (renB js ks st.bx.length st.rw.length bx'), st.fz ++ fz'.map (nth js st.bx.length), mergeL st.rw ks rw'⟩ : St).put o.dst none (ren (fun k => some (nth js st.bx.length k)) (fun k => some (nth ks st.rw.length k)) 4 res) = s2 := by exact nfs) : wpList P ops Q (o :: rest) a w := v_call js ks hc H hgd ho hchk hb hr ha fun a w H => g a w (hs ▸ H)
theorem mCallT {ops : Array Oper} {Q : Exit → Act → World → Prop} {rest : List Oper} {o : Oper} {f : FuncId} {xs : List Operand} {ats : Array TypeId} {bxc bx' : List (Ty × AV)} {fzc fz' : List Nat} {rwc rw' : List (TypeId × Nat)} {args : List AV} {res : AV} {s2 : St} {L A : List Nat} {k : Nat} (js ks : List Nat) (hc : VX P f bxc fzc rwc args bx' fz' rw' res) (H : RelT P w0 N nt gS sq st a w) (g : ∀ a w, RelT P w0 N nt gS q2 s2 a w → wpT P ops Q (Mem gS) L A rest (k + 1) a w) (hL : L.contains k = true := by rfl) (hjs : js.all (fun j => decide (sq.bx.length ≤ j)) = true := by rfl)
    (hgd : o.guard = none := by rfl) (ho : o.op = .call ⟨.value (.func f), xs.toArray, ats⟩ := by rfl) (hchk : (okSel js st.bx.length && okSel ks st.rw.length && usesB js st.bx && fzOk js st.fz fzc 0 && xs.all (fun x => argOk js (st.ev none x)) && uses some 4 res && bx'.all (fun x => uses some 4 x.2) && okDst nt none o.dst) = true := by rfl) (hb : bxs (pickB js ks st.bx) bxc := by exact cbX) (hr : ks.filterMap (st.rw[·]?) = rwc := by exact cwX) (ha : allP (sub 4) (cargs st js ks xs) args := by exact caX)
    (h1 : sq.lose o.dst = q2 := by exact nfs) (hs : (⟨st.t, mergeL st.bx js (renB js ks st.bx.length st.rw.length bx'), st.fz ++ fz'.map (nth js st.bx.length), mergeL st.rw ks rw'⟩ : St).put o.dst none (ren (fun k => some (nth js st.bx.length k)) (fun k => some (nth ks st.rw.length k)) 4 res) = s2 := by exact nfs) : wpT P ops Q (Mem gS) L A (o :: rest) k a w := v_callT js ks hc H hL hjs hgd ho hchk hb hr ha fun a w H => g a w (h1 ▸ hs ▸ H)
theorem mCallTG {ops : Array Oper} {Q : Exit → Act → World → Prop} {rest : List Oper} {o : Oper} {f : FuncId} {xs : List Operand} {ats : Array TypeId} {bxc bx' : List (Ty × AV)} {fzc fz' : List Nat} {rwc rw' : List (TypeId × Nat)} {args : List AV} {res : AV} {s2 : St} {c : Gd} {L A : List Nat} {k : Nat} (js ks : List Nat) (hc : VX P f bxc fzc rwc args bx' fz' rw' res) (H : RelT P w0 N nt gS sq st a w) (g : ∀ a w, RelT P w0 N nt gS q2 s2 a w → wpT P ops Q (Mem gS) L A rest (k + 1) a w) (hL : L.contains k = true := by rfl) (hjs : js.all (fun j => decide (sq.bx.length ≤ j)) = true := by rfl)
    (hgd : gdOf ops o = some c := by rfl) (ho : o.op = .call ⟨.value (.func f), xs.toArray, ats⟩ := by rfl) (hchk : (okSel js st.bx.length && okSel ks st.rw.length && usesB js st.bx && fzOk js st.fz fzc 0 && xs.all (fun x => argOk js (st.ev c x)) && uses some 4 res && bx'.all (fun x => uses some 4 x.2) && okDst nt c o.dst) = true := by rfl) (hb : bxs (pickB js ks st.bx) bxc := by exact cbX) (hr : ks.filterMap (st.rw[·]?) = rwc := by exact cwX) (ha : allP (sub 4) (cargsG st c js ks xs) args := by exact caX)
    (hmb : mergeL st.bx js (renB js ks st.bx.length st.rw.length bx') = st.bx := by rfl) (hmf : fz'.map (nth js st.bx.length) = [] := by rfl) (hmr : mergeL st.rw ks rw' = st.rw := by rfl)
    (h1 : sq.lose o.dst = q2 := by exact nfs) (hs : st.put o.dst c (ren (fun k => some (nth js st.bx.length k)) (fun k => some (nth ks st.rw.length k)) 4 res) = s2 := by exact nfs) : wpT P ops Q (Mem gS) L A (o :: rest) k a w := v_callTG js ks hc H hL hjs hgd ho hchk hb hr ha hmb hmf hmr fun a w H => g a w (h1 ▸ hs ▸ H)
theorem mD {id : Nat} {Q : Exit → Act → World → Prop} {l : List Oper} (nb : Nat) (L A : List Nat) (H : Rel P w0 N nt st a w) (g : ∀ gS, RelT P w0 N nt gS q2 s2 a w.drew → wpT P l.toArray Q (Mem gS) L A l 0 a w.drew) (hm : P.follows .mixedOrders = true := by kernel_rfl) (hchk : chk l.toArray (Region.before l.toArray) L A = true := by kernel_rfl)
    (hb : (st.bx.take nb).all (fun x => low nb 0 4 x.2) = true := by rfl) (h1 : (⟨st.t.filter fun p => low nb 0 4 p.2.2, st.bx.take nb, st.fz, []⟩ : St) = q2 := by exact nfs) (h2 : st = s2 := by exact nfs) : (Code.region id l.toArray true).wp P Q a w := v_draw nb L A hm hchk H hb fun gS H => g gS (h1 ▸ h2 ▸ H)
theorem mSkT {ops : Array Oper} {Q : Exit → Act → World → Prop} {L A : List Nat} {i : Nat} {rest : List Oper} {o : Oper} {t : Nat} {b : Bool} (r : AV) (H : RelT P w0 N nt gS sq st a w) (g : ∀ a w, RelT P w0 N nt gS q2 s2 a w → wpT P ops Q (Mem gS) L A rest (i + 1) a w) (hgd : gdOf ops o = some (some (t, b)) := by rfl) (hk : st.tmp none t = .v (.bool (!b)) := by rfl) (hd : okDst nt (some (t, b)) o.dst = true := by rfl)
    (h1 : sq.lose o.dst = q2 := by exact nfs) (hs : st.put o.dst (some (t, b)) r = s2 := by exact nfs) : wpT P ops Q (Mem gS) L A (o :: rest) i a w := v_skipT r H hgd hk hd fun a w H => g a w (h1 ▸ hs ▸ H)
theorem mG {ops : Array Oper} {Q : Exit → Act → World → Prop} {rest : List Oper} {o : Oper} {t : Nat} {b : Bool} (H : Rel P w0 N nt st a w) (h : wpList P ops Q ({ o with guard := none } :: rest) a w) (hgd : gdOf ops o = some (some (t, b)) := by rfl) (hk : st.tmp none t = .v (.bool b) := by rfl) : wpList P ops Q (o :: rest) a w := v_guard H hgd hk h
end
end Go.Proofs.Ytgffimanhmpohaa
/- Maps whose keys are arrays of bytes: made, looked up, put into. -/
namespace Go.Proofs.Ytgffimanhmpohaa
open Go Go.RowKit
theorem mapM_some {α β : Type} {f : α → Option β} : ∀ (l : List α), (∀ x ∈ l, ∃ y, f x = some y) → ∃ ys, l.mapM f = some ys
  | [], _ => ⟨[], rfl⟩
  | x :: l, h => by
    obtain ⟨y, hy⟩ := h x List.mem_cons_self
    obtain ⟨ys, hys⟩ := mapM_some l fun z hz => h z (List.mem_cons_of_mem _ hz)
    exact ⟨y :: ys, by simp [List.mapM_cons, hy, hys]⟩
/-- A type of keys. -/
structure KT (P : Program) (kt : TypeId) (n : Nat) : Prop where
  law : WideMaps.KeyLaw P kt
  key : ∀ l : List UInt8, l.length = n → ∃ q, keyOf P kt (.agg (l.map B8).toArray) = some q
theorem KT.of {P : Program} {kt e : TypeId} {n : Nat} (ha : P.underlying kt = some (.array n e)) (he : P.underlying e = some (.int .u8)) (hk : P.keyTypeAt 2 kt = true) (ht : P.tiled 2 kt = true) (hK : P.keyType kt = true) (hc : P.cellsOf kt = n) (hce : P.cellsOf e = 1) (hs : 1 ≤ P.types.size) : KT P kt n :=
  ⟨deep_law (m := 2) (by decide) hk ht (by rw [ha]), fun l hl => by
    obtain ⟨d, hd⟩ : ∃ d, P.types.size = d + 1 := ⟨P.types.size - 1, by omega⟩
    have hlen : (l.map B8).length = n := by simpa using hl
    obtain ⟨ys, hys⟩ := mapM_some (f := fun i => P.keyLits (P.types.size) e (((l.map B8).drop (i * P.cellsOf e)).take (P.cellsOf e))) (List.range n) fun i hi => by
      have hi' : i < l.length := by rw [hl]; exact List.mem_range.1 hi
      have e1 : (((l.map B8).drop (i * P.cellsOf e)).take (P.cellsOf e)) = [B8 l[i]] := by
        rw [hce, Nat.mul_one, List.drop_eq_getElem_cons (by simpa using hi')]
        simp
      rw [e1, hd]
      refine ⟨[.int .u8 (l[i].toNat : Int)], ?_⟩
      unfold Program.keyLits
      rw [he]
      have h1 : (Lit.int .u8 (l[i].toNat : Int)).wf = true := by
        have := l[i].toNat_lt
        simp [Lit.wf, IntKind.min, IntKind.max, IntKind.signed, IntKind.bits]; omega
      simp [B8, h1]
    refine ⟨.string (keyBytes ys.flatten), ?_⟩
    unfold keyOf
    rw [ha]
    have hf : (Value.agg (l.map B8).toArray).formed P kt = true := by simp [Value.formed, ha, hc, hl]
    have hkl : P.keyLits (P.types.size + 1) kt (l.map B8) = some ys.flatten := by
      unfold Program.keyLits
      rw [ha]
      simp only [hlen, hc, if_true]
      rw [hys]; rfl
    simp only [hK, hf, Bool.and_self, if_true, Value.cells, List.toList_toArray, hkl, Option.map_some]⟩
theorem new_at (w : World) (o : Obj) : (w.alloc o).heap[w.heap.size]? = some o := by show (w.heap.push o)[w.heap.size]? = some o; simp
section
variable {P : Program} {τ : Tab} {w0 w : World} {N : Gh} {g : Gh} {st : St} {nt : Nat} {a : Act}
theorem v_mkMap {ops : Array Oper} {Q : Exit → Act → World → Prop} {rest : List Oper} {o : Oper} {t : Nat} (K V : Ty) (H : Rel P w0 N nt st a w)
    (k : ∀ a w, Rel P w0 N nt ((⟨st.t, st.bx ++ [(.mp K V, .mp [] [])], st.fz, st.rw⟩ : St).put o.dst none (.mr st.bx.length)) a w → wpList P ops Q rest a w) (hgd : o.guard = none := by rfl) (ho : o.op = .makeMap t none := by rfl) (hd : okDst nt none o.dst = true := by rfl) : wpList P ops Q (o :: rest) a w := by
  obtain ⟨g, HI, hF⟩ := H
  obtain ⟨g', l1, I1, h1⟩ := HI.boxG (x := ⟨w.heap.size, 0, .mp K V, [], false, 0, 0, false, some (#[], 0)⟩) (a := .mp [] []) (w' := w.alloc (.map #[] 0)) rfl (grown_alloc w _) (fun _ => ⟨rfl, ⟨fun e => (by cases e), fun m e => (by injection e with e; subst e; exact new_at w _)⟩⟩) (fun e => by cases e) (fun _ => rfl)
    (.inr (.inr (.inr ⟨K, V, [], [], #[], 0, rfl, rfl, rfl, rfl, rfl, rfl, rfl, fun k h => absurd h (by simp)⟩)))
  refine wpList_plain hgd fun K' hK => ?_
  unfold Oper.wp
  have he : (execOp a.eval o).run P w = .ok (.value (.map (some w.heap.size))) (w.alloc (.map #[] 0)) := by
    obtain ⟨dst, op, ty, pos, after, gd⟩ := o
    dsimp only at ho
    subst ho
    rfl
  rw [he, Oper.upon_value]
  refine hK _ _ (k _ _ ⟨g', ?_, (hF.mono l1.1).put hd (fun _ => (RC.mr h1 rfl).rvp) rfl (fun h => absurd trivial h)⟩)
  cases o.dst <;> exact I1
/-- The entries of a map. -/
theorem map_at (HI : Inv P w0 N g st.bx st.fz st.rw w) {i n : Nat} {V : Ty} {ks : List (List UInt8)} {vs : List AV} (hb : st.bx[i]? = some (.mp (.ba n) V, .mp (ks.map .ba) vs)) : ∃ x es clk, g.bx[i]? = some x ∧ x.ty = .mp (.ba n) V ∧ x.off = false ∧ x.mp = some (es, clk) ∧ x.cells = [] ∧ w.heap[x.blk]? = some (.map es clk) ∧ ks.length = es.size ∧ vs.length = es.size ∧
    ∀ k (h : k < es.size) (h1 : k < ks.length) (h2 : k < vs.length), ks[k].length = n ∧ es[k].key = .agg (ks[k].map B8).toArray ∧ ∃ ds, RC g.base V vs[k] ds ∧ es[k].val = mkV V ds := by
  obtain ⟨x, hx, hty, hbc⟩ := HI.br.get hb
  rcases hbc with ⟨_, _, hrc⟩ | ⟨_, _, _, _, _, ⟨_, e, _⟩, _⟩ | ⟨_, _, _, ⟨_, e, _⟩, _⟩ | ⟨K, V', ks', vs', es, clk, e1, e2, ho, hm, hc, hk, hv, hall⟩
  · cases hrc
  · cases e
  · cases e
  · injection e1 with e1 e1'; subst e1 e1'
    injection e2 with e2 e2'; subst e2 e2'
    refine ⟨x, es, clk, hx, hty, ho, hm, hc, (HI.mem.bx i x hx ho).m _ hm, by simpa using hk, hv, fun k h h1 h2 => ?_⟩
    obtain ⟨cs, ds, q1, q2, q3, q4⟩ := hall k h (by simpa using h1) h2
    rw [List.getElem_map] at q1
    obtain ⟨q5, rfl⟩ := q1.ba_inv
    injection q5 with q5
    exact ⟨q5.symm, q2, ds, q3, q4⟩
theorem find_at {kt n : Nat} (hKT : KT P kt n) {ks : List (List UInt8)} {es : Array MapEntry} (hlen : ks.length = es.size) (hall : ∀ k (h : k < es.size) (h1 : k < ks.length), ks[k].length = n ∧ es[k].key = .agg (ks[k].map B8).toArray) {kl : List UInt8} (hl : kl.length = n) (w : World) :
    ((Instr.findKey kt (.agg (kl.map B8).toArray) es.toList).run P w = .ok none w ∧ kl ∉ ks) ∨ ∃ j, ∃ h : j < es.size, ks[j]? = some kl ∧ (Instr.findKey kt (.agg (kl.map B8).toArray) es.toList).run P w = .ok (some (j, es[j].val)) w := by
  have inj : ∀ x y : List UInt8, Value.agg (x.map B8).toArray = Value.agg (y.map B8).toArray → x = y := fun x y e => by
    injection e with e
    have e1 := congrArg Array.toList e
    simp only [List.toList_toArray] at e1
    exact (List.map_inj_right (f := B8) (fun u v h => by unfold B8 at h; injection h with _ h; exact UInt8.toNat_inj.1 (by omega))).1 e1
  obtain ⟨q, hq⟩ := hKT.key kl hl
  rcases hKT.law.find w hq es.toList (fun e he => by
    obtain ⟨j, hj, rfl⟩ := List.getElem_of_mem he
    have hj' : j < es.size := by simpa using hj
    obtain ⟨h1, h2⟩ := hall j hj' (by omega)
    rw [Array.getElem_toList, h2]
    exact hKT.key _ h1) with ⟨h1, h2⟩ | ⟨j, e, h1, h2, h3⟩
  · refine .inl ⟨h1, fun hm => ?_⟩
    obtain ⟨j, hj, e⟩ := List.getElem_of_mem hm
    have hj' : j < es.size := by omega
    obtain ⟨_, h4⟩ := hall j hj' hj
    exact h2 es[j] (by simp) (by rw [h4, e])
  · have hj : j < es.size := by have := (List.getElem?_eq_some_iff.1 h2).1; simpa using this
    have he : e = es[j] := by rw [Array.getElem?_toList, Array.getElem?_eq_getElem hj] at h2; injection h2 with h2; exact h2.symm
    subst he
    obtain ⟨_, h4⟩ := hall j hj (by omega)
    refine .inr ⟨j, hj, ?_, h1⟩
    rw [List.getElem?_eq_getElem (by omega)]
    congr 1
    exact inj _ _ (h4.symm.trans h3)
/-- A key that is none of a map's is put into it. -/
theorem v_mapNew {ops : Array Oper} {Q : Exit → Act → World → Prop} {rest : List Oper} {o : Oper} {t kt et i n : Nat} {m kx vx : Operand} {V : Ty} {ks : List (List UInt8)} {vs : List AV} {kl : List UInt8} {v : AV} (hKT : KT P kt n) (H : Rel P w0 N nt st a w)
    (ht : P.underlying t = some (.map kt et)) (hl : kl.length = n) (hn : kl ∉ ks)
    (k : ∀ a w, Rel P w0 N nt ((⟨st.t, st.bx.set i (.mp (.ba n) V, .mp (ks.map .ba ++ [.ba kl]) (vs ++ [strip 3 v])), st.fz, st.rw⟩ : St)) a w → wpList P ops Q rest a w)
    (hgd : o.guard = none := by rfl) (ho : o.op = .mapUpdate t m kx vx := by rfl) (hd : o.dst = none := by rfl) (hm : st.ev none m = .mr i := by rfl) (hk : st.ev none kx = .ba kl := by rfl) (hv : st.ev none vx = v := by rfl) (hb : st.bx[i]? = some (.mp (.ba n) V, .mp (ks.map .ba) vs) := by rfl) (hf : notIn i st.fz = true := by rfl) (hp : pure_ 3 v = true := by rfl) (hft : fit V v := by first | rfl | trivial) : wpList P ops Q (o :: rest) a w := by
  obtain ⟨g, HI, hF⟩ := H
  obtain ⟨x, es, clk, hx, hty, hoff, hmp, hc, hheap, hkl, hvl, hall⟩ := map_at HI hb
  have em := ev_sound hF (c := none) trivial m
  have ek := ev_sound hF (c := none) trivial kx
  have ev := ev_sound hF (c := none) trivial vx
  rw [hm] at em; rw [hk] at ek; rw [hv] at ev
  have ek := ek.ba_inv
  have em2 : a.eval m = .map (some x.blk) := by
    have h3 := em.mr_inv
    generalize a.eval m = u at h3
    cases h3 with
    | mr h hT => rw [hx] at h; injection h with h; subst h; rfl
  obtain ⟨ds, hds, hvd⟩ := ev.fit hft
  have hdb := hds.strip_ hp
  have hget : (getObj x.blk).run P w = .ok (.map es clk) w := MapKept.run_getObj_map hheap
  have hchk : (Instr.checkKey false 10000 kt (a.eval kx)).run P w = .ok () w := by
    obtain ⟨q, hq⟩ := hKT.key kl hl
    rw [ek]; exact hKT.law.check w _ hq
  have hu : (underlying t).run P w = .ok (.map kt et) w := run_underlying ht w
  have hfind : (Instr.findKey kt (a.eval kx) es.toList).run P w = .ok none w := by
    rw [ek]
    rcases find_at hKT hkl (fun k h h1 => ⟨(hall k h h1 (by omega)).1, (hall k h h1 (by omega)).2.1⟩) hl w with ⟨h1, h2⟩ | ⟨j, hj, h1, h2⟩
    · exact h1
    · exact absurd (List.mem_of_getElem? h1) hn
  let ne : MapEntry := { key := a.eval kx, val := a.eval vx, born := clk }
  have hr : (Instr.mapUpdate t (a.eval m) (a.eval kx) (a.eval vx)).run P w = (setObj x.blk (.map (es.push ne) (clk + 1))).run P w := by
    rw [em2]
    unfold Instr.mapUpdate
    simp only [Sem.run_bind, hu, Result.andThen_ok, hget, hchk, hfind]
    rfl
  let w' : World := { w with heap := w.heap.setIfInBounds x.blk (.map (es.push ne) (clk + 1)) }
  have hlt : x.blk < w.heap.size := (Array.getElem?_eq_some_iff.1 hheap).1
  have hset : (setObj x.blk (.map (es.push ne) (clk + 1))).run P w = .ok () w' := MapKept.run_setObj_map _ hheap
  have hxf : x.fz = false := by cases e : x.fz with | false => rfl | true => exact absurd (HI.fz i x hx e) (notIn_ok hf)
  obtain ⟨g', h1, h2, _⟩ := HI.upd (x' := { x with mp := some (es.push ne, clk + 1) }) (w' := w') (a := .mp (ks.map .ba ++ [.ba kl]) (vs ++ [strip 3 v])) hx (notIn_ok hf)
    (by unfold Bx.own; rw [hoff]; exact ⟨rfl, rfl, rfl, by simp [w'], fun k hk hne => by
      show (w.heap.setIfInBounds x.blk _)[k]? = _
      rw [Array.getElem?_setIfInBounds_ne (fun e => hne (by rw [e]; rfl))]⟩) rfl hxf (Nat.le_refl _) (fun _ => ⟨rfl, rfl, rfl⟩)
    (fun _ => ⟨⟨fun e => (by cases e), fun m e => by
      injection e with e; subst e
      show (w.heap.setIfInBounds x.blk _)[x.blk]? = _
      rw [Array.getElem?_setIfInBounds_self_of_lt hlt]⟩, .inr ⟨hoff, rfl⟩⟩) (fun e => by rw [show ({ x with mp := some (es.push ne, clk + 1) } : Bx).off = x.off from rfl, hoff] at e; cases e) (fun _ => hc)
    (by
      rw [hty]
      refine .inr (.inr (.inr ⟨.ba n, V, _, _, es.push ne, clk + 1, rfl, rfl, hoff, rfl, hc, by simp [hkl], by simp [hvl], fun j hj q1 q2 => ?_⟩))
      by_cases hj2 : j < es.size
      · obtain ⟨r1, r2, ds2, r3, r4⟩ := hall j hj2 (by omega) (by omega)
        refine ⟨ks[j].map B8, ds2, ?_, ?_, ?_, ?_⟩
        · rw [List.getElem_append_left (by simp; omega), List.getElem_map]; exact .ba r1
        · rw [Array.getElem_push_lt hj2, r2]; rfl
        · rw [List.getElem_append_left (by omega)]; exact r3
        · rw [Array.getElem_push_lt hj2, r4]
      · have hje : j = es.size := by simp at hj; omega
        subst hje
        refine ⟨kl.map B8, ds, ?_, ?_, ?_, ?_⟩
        · rw [List.getElem_append_right (by simp; omega)]; simp [hkl]; exact .ba hl
        · rw [Array.getElem_push_eq]; exact ek
        · rw [List.getElem_append_right (by omega)]; simp [hvl]; exact hdb
        · rw [Array.getElem_push_eq]; exact hvd)
  rw [hty] at h2
  refine wpList_plain hgd fun K hK => ?_
  unfold Oper.wp
  have he : (execOp a.eval o).run P w = .ok .skip w' := by
    obtain ⟨dst, op, ty, pos, after, gd⟩ := o
    dsimp only at ho
    subst ho
    simp only [execOp, Sem.run_bind, Sem.run_pure, hr, hset, Result.andThen_ok]
  rw [he, Oper.upon_skip]
  have e8 : a.put o.dst undef = a := by rw [hd]; rfl
  rw [e8]
  exact hK _ _ (k _ _ ⟨g', h2, ⟨hF.sz, hF.df, fun p hp hg => (hF.t p hp hg).mono h1, hF.u⟩⟩)
end
end Go.Proofs.Ytgffimanhmpohaa
/- Bytes put one behind the other. -/
namespace Go.Proofs.Ytgffimanhmpohaa
open Go Go.RowKit
theorem bss_len (ls : List (List UInt8)) : (bss ls).length = ls.length := by simp [bss]
end Go.Proofs.Ytgffimanhmpohaa
/- The texts of the digests. -/
namespace Go.Proofs.Ytgffimanhmpohaa
open Go Go.RowKit
end Go.Proofs.Ytgffimanhmpohaa
/- The walks of the program's SHA-256: the schedule. -/

namespace Go.Proofs.Ytgffimanhmpohaa
open Go Go.RowKit
abbrev W32 (x : BitVec 32) : Value := .int .u32 (n32 x)




attribute [local go_sem] or_bytes u32_shr10 u32_shr3 u32_xor u32_and u32_or u32_add u32_add' u32_not
end Go.Proofs.Ytgffimanhmpohaa
/- The walks of the program's SHA-256: the block step. -/
namespace Go.Proofs.Ytgffimanhmpohaa
open Go Go.RowKit
abbrev S8.arr (s : S8) : Array Value := #[W32 s.a, W32 s.b, W32 s.c, W32 s.d, W32 s.e, W32 s.f, W32 s.g, W32 s.h]
end Go.Proofs.Ytgffimanhmpohaa
/- The walks of the program's SHA-256: the block step. -/
namespace Go.Proofs.Ytgffimanhmpohaa
open Go Go.RowKit
attribute [local go_sem] or_bytes u32_shr10 u32_shr3 u32_xor u32_and u32_or u32_add u32_add' u32_not u32_not'
end Go.Proofs.Ytgffimanhmpohaa
/- The walks of the reference's SHA-256: words, the block step. -/
namespace Go.Proofs.Ytgffimanhmpohaa
open Go Go.RowKit
end Go.Proofs.Ytgffimanhmpohaa
/- The walks of the reference's SHA-256: words. -/
namespace Go.Proofs.Ytgffimanhmpohaa
open Go Go.RowKit
attribute [local go_sem] or_bytes u32_shr10 u32_shr3 u32_xor u32_and u32_or u32_add u32_add' u32_not u32_next u32_sum3 u32_sum4
end Go.Proofs.Ytgffimanhmpohaa
/- The walks of the reference's SHA-256: the block step. -/
namespace Go.Proofs.Ytgffimanhmpohaa
open Go Go.RowKit
attribute [local go_sem] or_bytes u32_shr10 u32_shr3 u32_xor u32_and u32_or u32_add u32_add' u32_not u32_not' u32_not2
end Go.Proofs.Ytgffimanhmpohaa
/- The walk of the reference's SHA-256 of a list of bytes. -/
namespace Go.Proofs.Ytgffimanhmpohaa
open Go Go.RowKit
end Go.Proofs.Ytgffimanhmpohaa
/- Contracts in memory made contracts in values: the block step of SHA-256, the document's sum. -/
namespace Go.Proofs.Ytgffimanhmpohaa
open Go Go.RowKit
section
variable {P : Program}
theorem two {args : List AV} {vs : List Value} {N : Gh} {x y : AV} (hl : vs.length = [x, y].length) (hv : ∀ (i : Nat) a v, [x, y][i]? = some a → vs[i]? = some v → RV N a v) : ∃ u v, vs = [u, v] ∧ RV N x u ∧ RV N y v := by
  match vs, hl with
  | [u, v], _ => exact ⟨u, v, rfl, hv 0 x u rfl rfl, hv 1 y v rfl rfl⟩
end
end Go.Proofs.Ytgffimanhmpohaa
/- The program's SHA-256, byte by byte. -/
namespace Go.Proofs.Ytgffimanhmpohaa
open Go Go.RowKit

end Go.Proofs.Ytgffimanhmpohaa
/- Numbers as bytes. -/
namespace Go.Proofs.Ytgffimanhmpohaa
open Go Go.RowKit

/-- The state after a text. -/
structure Good (l : List UInt8) (s : S8) (b : List UInt8) (n : Nat) : Prop where
  bl : b.length = 64
  nn : n = l.length % 64
  ss : s = steps h0 (l.length / 64) l
  bb : b.take n = l.drop (64 * (l.length / 64))
theorem Good.lt {l : List UInt8} {s : S8} {b : List UInt8} {n : Nat} (h : Good l s b n) : n < 64 := by rw [h.nn]; exact Nat.mod_lt _ (by decide)
end Go.Proofs.Ytgffimanhmpohaa
/- The program's SHA-256 of a text. -/
namespace Go.Proofs.Ytgffimanhmpohaa
open Go Go.RowKit
end Go.Proofs.Ytgffimanhmpohaa
/- Digests: SHA-256 of a text; of a byte and parts. -/
namespace Go.Proofs.Ytgffimanhmpohaa
open Go Go.RowKit
end Go.Proofs.Ytgffimanhmpohaa
/- Nodes of the program: checked, written, read; digests. -/
namespace Go.Proofs.Ytgffimanhmpohaa
open Go Go.RowKit
structure Nd where
  k : UInt8
  key : List UInt8
  v : List UInt8
  l : List UInt8
  r : List UInt8
  deriving DecidableEq
def z32 : List UInt8 := List.replicate 32 0
theorem hz : List.replicate 32 (0 : UInt8) = z32 := rfl
structure Nd.wf (n : Nd) : Prop where
  key : n.key.length = 32
  v : n.v.length = 32
  l : n.l.length = 32
  r : n.r.length = 32
def Nd.zero : Nd := ⟨0, z32, z32, z32, z32⟩
/-- What a node is but for what its kind does not bear. -/
def Nd.bare (n : Nd) : Nd := if n.k = 1 then ⟨1, n.key, n.v, z32, z32⟩ else if n.k = 2 then ⟨2, z32, z32, n.l, n.r⟩ else .zero
def Nd.ok (n : Nd) : Prop := n = n.bare
instance (n : Nd) : Decidable n.ok := inferInstanceAs (Decidable (n = n.bare))
def Nd.text (n : Nd) : List UInt8 := if n.k = 1 then 1 :: (n.key ++ n.v) else if n.k = 2 then 2 :: (n.l ++ n.r) else [0]
theorem same_v (l m : List UInt8) : VC Try.prog 32 [.bs l none, .bs m none] [] (.v (.bool (l == m))) := by
  refine v_enter Try.func32 rfl (by kernel_rfl) (by show 2 ≤ 10; decide) ?_
  intro N w0 a w hN hR H
  have hX := @strOf_list
  refine mW ?_; clear H; intro a w H
  refine wp_ret ?_; exact mEnd [] [] [.tmp 4] [_] hN hR H
end Go.Proofs.Ytgffimanhmpohaa
/- octet.Compare: byte by byte. -/
namespace Go.Proofs.Ytgffimanhmpohaa
open Go Go.RowKit
set_option maxHeartbeats 1000000 in
set_option maxRecDepth 100000 in
theorem cmp_any (a b : ByteArray) (w : World) : Calls Try.prog 92 #[.string a, .string b] w fun e w' => e = .returned (.int .i64 (Lib.compareBytes a.data.toList b.data.toList)) ∧ w' = w := by
  go_enter Try.func92, Try.ntmps92
  go_wp2
  rw [run_callFunc_extern Try.func99 (by kernel_rfl) (by kernel_rfl) (by kernel_rfl) (e := Extern.BytealgCompare.compare) (by kernel_rfl), Lib.run_compareString]
  simp only [Result.andThen]
  rw [Oper.upon_value]
  go_wp2
  go_ret
  exact ⟨rfl, rfl⟩
end Go.Proofs.Ytgffimanhmpohaa
/- The program's reader of bytes. -/
namespace Go.Proofs.Ytgffimanhmpohaa
open Go Go.RowKit
end Go.Proofs.Ytgffimanhmpohaa
/- octet.Compare, numbers as two bytes. -/
namespace Go.Proofs.Ytgffimanhmpohaa
open Go Go.RowKit
/-- A number, the highest byte first. -/
def num : Nat → List UInt8 → Nat
  | x, [] => x
  | x, b :: l => num (256 * x + b.toNat) l
end Go.Proofs.Ytgffimanhmpohaa
/- How many bits a byte has: math/bits. -/
namespace Go.Proofs.Ytgffimanhmpohaa
open Go Go.RowKit
end Go.Proofs.Ytgffimanhmpohaa
/- Bits in bytes, the highest first. -/
namespace Go.Proofs.Ytgffimanhmpohaa
open Go Go.RowKit
def b8 (f : Nat → Bool) : UInt8 := (if f 0 then 128 else 0) ||| (if f 1 then 64 else 0) ||| (if f 2 then 32 else 0) ||| (if f 3 then 16 else 0) ||| (if f 4 then 8 else 0) ||| (if f 5 then 4 else 0) ||| (if f 6 then 2 else 0) ||| (if f 7 then 1 else 0)
def bitsB (n : Nat) (f : Nat → Bool) : List UInt8 := (List.range ((n + 7) / 8)).map fun j => b8 fun k => f (8 * j + k)
/-- A bit of a byte. -/
def bitAt (c : UInt8) (m : Nat) : Bool := (c &&& UInt8.ofNat (128 / 2 ^ m)) != 0
end Go.Proofs.Ytgffimanhmpohaa
/- Keys as ways down: bits, how many are shared, what rises. In plain Lean. -/
namespace Go.Proofs.Ytgffimanhmpohaa
open Go Go.RowKit
def bitN (p : List UInt8) (d : Nat) : Bool := bitAt (p.getD (d / 8) 0) (d % 8)
def comF (p q : List UInt8) : Nat → Nat → Nat
  | 0, d => d
  | f + 1, d => if bitN p d = bitN q d then comF p q f (d + 1) else d
def com (p q : List UInt8) : Nat := comF p q 256 0
def agree (d : Nat) (p q : List UInt8) : Prop := ∀ t, t < d → bitN p t = bitN q t
theorem comF_spec (p q : List UInt8) : ∀ f d, d ≤ comF p q f d ∧ comF p q f d ≤ d + f ∧ (∀ t, d ≤ t → t < comF p q f d → bitN p t = bitN q t) ∧ (comF p q f d < d + f → bitN p (comF p q f d) ≠ bitN q (comF p q f d))
  | 0, d => ⟨Nat.le_refl _, Nat.le_refl _, fun t h1 h2 => by simp only [comF] at h2; omega, fun h => by simp only [comF] at h; omega⟩
  | f + 1, d => by
    have ih := comF_spec p q f (d + 1)
    simp only [comF]
    split
    · rename_i he
      obtain ⟨h1, h2, h3, h4⟩ := ih
      refine ⟨by omega, by omega, fun t ht hl => ?_, fun h => h4 (by omega)⟩
      by_cases htd : t = d
      · subst htd; exact he
      · exact h3 t (by omega) hl
    · rename_i he
      exact ⟨Nat.le_refl _, by omega, fun t h1 h2 => by omega, fun _ => he⟩
theorem com_agree (p q : List UInt8) : agree (com p q) p q := fun t ht => (comF_spec p q 256 0).2.2.1 t (Nat.zero_le _) ht
theorem com_ne (p q : List UInt8) (h : com p q < 256) : bitN p (com p q) ≠ bitN q (com p q) := (comF_spec p q 256 0).2.2.2 (by simpa [com] using h)
theorem agree.symm {d : Nat} {p q : List UInt8} (h : agree d p q) : agree d q p := fun t ht => (h t ht).symm
theorem agree.trans {d : Nat} {p q r : List UInt8} (h : agree d p q) (k : agree d q r) : agree d p r := fun t ht => (h t ht).trans (k t ht)
set_option maxRecDepth 100000 in
theorem bitAt_test8 : ∀ n : Fin 256, ∀ m : Fin 8, bitAt (UInt8.ofNat n.val) m.val = n.val.testBit (7 - m.val) := by decide +kernel
theorem bitAt_test (c : UInt8) (m : Nat) (hm : m < 8) : bitAt c m = c.toNat.testBit (7 - m) := by
  have := bitAt_test8 ⟨c.toNat, c.toNat_lt⟩ ⟨m, hm⟩
  simpa using this
set_option maxRecDepth 100000 in
theorem lead8 : ∀ n : Fin 256, n.val ≠ 0 → Lib.bitLen n.val ≤ 8 ∧ 8 - Lib.bitLen n.val < 8 ∧ (∀ t : Fin 8, t.val < 8 - Lib.bitLen n.val → bitAt (UInt8.ofNat n.val) t.val = false) ∧ bitAt (UInt8.ofNat n.val) (8 - Lib.bitLen n.val) = true := by decide +kernel
/-- The first bit in which two bytes part. -/
theorem lead_xor (x y : UInt8) (h : x ≠ y) : 8 - Lib.bitLen (x ^^^ y).toNat < 8 ∧ Lib.bitLen (x ^^^ y).toNat ≤ 8 ∧ (∀ t, t < 8 - Lib.bitLen (x ^^^ y).toNat → bitAt x t = bitAt y t) ∧ bitAt x (8 - Lib.bitLen (x ^^^ y).toNat) ≠ bitAt y (8 - Lib.bitLen (x ^^^ y).toNat) := by
  have hx : ∀ m, m < 8 → bitAt (x ^^^ y) m = (bitAt x m ^^ bitAt y m) := fun m hm => by
    rw [bitAt_test _ _ hm, bitAt_test _ _ hm, bitAt_test _ _ hm, UInt8.toNat_xor, Nat.testBit_xor]
  have hne : (x ^^^ y).toNat ≠ 0 := fun e => h (by
    have : x ^^^ y = 0 := UInt8.toNat_inj.1 (by simpa using e)
    exact UInt8.xor_eq_zero_iff.1 this)
  obtain ⟨h1, h2, h3, h4⟩ := lead8 ⟨(x ^^^ y).toNat, (x ^^^ y).toNat_lt⟩ hne
  simp only [UInt8.ofNat_toNat] at h3 h4 h1 h2
  refine ⟨h2, h1, fun t ht => ?_, fun e => ?_⟩
  · have := h3 ⟨t, by omega⟩ ht
    rw [hx t (by omega)] at this
    simpa using this
  · rw [hx _ h2, e] at h4
    simp at h4
theorem lt_bit (x y : UInt8) (h : x ≠ y) : x < y ↔ bitAt x (8 - Lib.bitLen (x ^^^ y).toNat) = false := by
  obtain ⟨h1, h2, h3, h4⟩ := lead_xor x y h
  have key : ∀ a b : UInt8, (∀ t, t < 8 - Lib.bitLen (x ^^^ y).toNat → bitAt a t = bitAt b t) → bitAt a (8 - Lib.bitLen (x ^^^ y).toNat) = false → bitAt b (8 - Lib.bitLen (x ^^^ y).toNat) = true → a < b := fun a b k1 k2 k3 => by
    rw [UInt8.lt_iff_toNat_lt]
    generalize hc : 8 - Lib.bitLen (x ^^^ y).toNat = c at *
    rw [bitAt_test _ _ h1] at k2 k3
    have e1 : a.toNat / 2 ^ (7 - c + 1) = b.toNat / 2 ^ (7 - c + 1) := by
      apply Nat.eq_of_testBit_eq
      intro i
      rw [Nat.testBit_div_two_pow, Nat.testBit_div_two_pow]
      by_cases hi : i + (7 - c + 1) < 8
      · have := k1 (7 - (i + (7 - c + 1))) (by omega)
        rw [bitAt_test _ _ (by omega), bitAt_test _ _ (by omega), show 7 - (7 - (i + (7 - c + 1))) = i + (7 - c + 1) by omega] at this
        first | exact this | (rw [Nat.add_comm]; exact this)
      · have h2 : ∀ u : UInt8, ∀ j, 8 ≤ j → u.toNat.testBit j = false := fun u j hj => Nat.testBit_lt_two_pow (Nat.lt_of_lt_of_le u.toNat_lt (Nat.pow_le_pow_right (by decide) hj))
        rw [h2 _ _ (by omega), h2 _ _ (by omega)]
    have e2 : ∀ n : Nat, n / 2 ^ (7 - c) = 2 * (n / 2 ^ (7 - c + 1)) + n / 2 ^ (7 - c) % 2 := fun n => by
      have : n / 2 ^ (7 - c + 1) = n / 2 ^ (7 - c) / 2 := by rw [Nat.pow_succ, Nat.div_div_eq_div_mul]
      omega
    rw [Nat.testBit_eq_decide_div_mod_eq] at k2 k3
    have k2' : a.toNat / 2 ^ (7 - c) % 2 ≠ 1 := by simpa using k2
    have k3' : b.toNat / 2 ^ (7 - c) % 2 = 1 := by simpa using k3
    have e3 := e2 a.toNat; have e4 := e2 b.toNat
    rw [e1] at e3
    refine Classical.byContradiction fun hn => ?_
    have := Nat.div_le_div_right (c := 2 ^ (7 - c)) (Nat.le_of_not_lt hn)
    omega
  constructor
  · intro hl
    cases hb : bitAt x (8 - Lib.bitLen (x ^^^ y).toNat)
    · rfl
    · exfalso
      rw [hb] at h4
      have := key y x (fun t ht => (h3 t ht).symm) (by simpa using h4.symm) hb
      rw [UInt8.lt_iff_toNat_lt] at this hl
      omega
  · intro hb
    rw [hb] at h4
    exact key x y h3 hb (by simpa using h4.symm)
/-- The lesser key, by bits. -/
def ltB (p q : List UInt8) : Prop := ∃ c, c < 256 ∧ agree c p q ∧ bitN p c = false ∧ bitN q c = true
theorem ltB.trans {p q r : List UInt8} (h : ltB p q) (k : ltB q r) : ltB p r := by
  obtain ⟨c, hc, h1, h2, h3⟩ := h
  obtain ⟨d, hd, k1, k2, k3⟩ := k
  rcases Nat.lt_trichotomy c d with hl | rfl | hg
  · exact ⟨c, hc, fun t ht => (h1 t ht).trans (k1 t (by omega)), h2, (k1 c hl) ▸ h3⟩
  · rw [h3] at k2; cases k2
  · exact ⟨d, hd, fun t ht => (h1 t (by omega)).trans (k1 t ht), (h1 d hg).trans k2, k3⟩
theorem ltB.irr {p : List UInt8} (h : ltB p p) : False := by obtain ⟨c, _, _, h2, h3⟩ := h; rw [h2] at h3; cases h3
theorem bitN_cons_lt (x : UInt8) (p : List UInt8) (t : Nat) (h : t < 8) : bitN (x :: p) t = bitAt x t := by
  unfold bitN; rw [Nat.div_eq_of_lt h, Nat.mod_eq_of_lt h]; rfl
theorem bitN_cons_ge (x : UInt8) (p : List UInt8) (t : Nat) : bitN (x :: p) (t + 8) = bitN p t := by
  unfold bitN; rw [Nat.add_div_right _ (by decide), Nat.add_mod_right]; rfl
theorem cmp_lt : ∀ p q : List UInt8, p.length = q.length → (Lib.compareBytes p q < 0 ↔ ∃ c, c < 8 * p.length ∧ agree c p q ∧ bitN p c = false ∧ bitN q c = true)
  | [], [], _ => by simp [Lib.compareBytes]
  | [], _ :: _, h => by cases h
  | _ :: _, [], h => by cases h
  | x :: p, y :: q, h => by
    have hl : p.length = q.length := by simpa using h
    have ih := cmp_lt p q hl
    by_cases he : x = y
    · subst he
      have e : Lib.compareBytes (x :: p) (x :: q) = Lib.compareBytes p q := by
        simp [Lib.compareBytes]
      rw [e, ih]
      constructor
      · rintro ⟨c, hc, h1, h2, h3⟩
        refine ⟨c + 8, by rw [List.length_cons]; omega, fun t ht => ?_, by rw [bitN_cons_ge]; exact h2, by rw [bitN_cons_ge]; exact h3⟩
        by_cases ht8 : t < 8
        · rw [bitN_cons_lt _ _ _ ht8, bitN_cons_lt _ _ _ ht8]
        · obtain ⟨t', rfl⟩ : ∃ t', t = t' + 8 := ⟨t - 8, by omega⟩
          rw [bitN_cons_ge, bitN_cons_ge]; exact h1 t' (by omega)
      · rintro ⟨c, hc, h1, h2, h3⟩
        by_cases hc8 : c < 8
        · rw [bitN_cons_lt _ _ _ hc8] at h2 h3; rw [h2] at h3; cases h3
        · obtain ⟨c', rfl⟩ : ∃ t', c = t' + 8 := ⟨c - 8, by omega⟩
          rw [bitN_cons_ge] at h2 h3
          refine ⟨c', by rw [List.length_cons] at hc; omega, fun t ht => ?_, h2, h3⟩
          have := h1 (t + 8) (by omega)
          rwa [bitN_cons_ge, bitN_cons_ge] at this
    · obtain ⟨l1, l2, l3, l4⟩ := lead_xor x y he
      have lb := lt_bit x y he
      have e : Lib.compareBytes (x :: p) (y :: q) < 0 ↔ x < y := by
        simp only [Lib.compareBytes]
        split
        · rename_i hxy; simp [hxy]
        · rename_i hxy
          constructor
          · intro h; exfalso; revert h
            split
            · simp
            · rename_i hyx
              exfalso; apply he; apply UInt8.toNat_inj.1
              rw [UInt8.lt_iff_toNat_lt] at hxy hyx; omega
          · intro h; exact absurd h hxy
      rw [e, lb]
      constructor
      · intro hb
        rw [hb] at l4
        refine ⟨8 - Lib.bitLen (x ^^^ y).toNat, by rw [List.length_cons]; omega, fun t ht => ?_, by rw [bitN_cons_lt _ _ _ l1]; exact hb, by rw [bitN_cons_lt _ _ _ l1]; simpa using l4.symm⟩
        rw [bitN_cons_lt _ _ _ (by omega), bitN_cons_lt _ _ _ (by omega)]; exact l3 t ht
      · rintro ⟨c, hc, h1, h2, h3⟩
        have hce : c = 8 - Lib.bitLen (x ^^^ y).toNat := by
          rcases Nat.lt_trichotomy c (8 - Lib.bitLen (x ^^^ y).toNat) with hl | he | hg
          · rw [bitN_cons_lt _ _ _ (by omega)] at h2 h3
            rw [l3 c hl, h3] at h2; cases h2
          · exact he
          · have := h1 _ hg
            rw [bitN_cons_lt _ _ _ l1, bitN_cons_lt _ _ _ l1] at this
            exact absurd this l4
        subst hce
        rwa [bitN_cons_lt _ _ _ l1] at h2
theorem cmp_ltB {p q : List UInt8} (hp : p.length = 32) (hq : q.length = 32) : Lib.compareBytes p q < 0 ↔ ltB p q := by
  rw [cmp_lt p q (by omega), hp]; rfl
theorem agree_all : ∀ p q : List UInt8, p.length = q.length → agree (8 * p.length) p q → p = q
  | [], [], _, _ => rfl
  | [], _ :: _, h, _ => by cases h
  | _ :: _, [], h, _ => by cases h
  | x :: p, y :: q, h, ha => by
    have hl : p.length = q.length := by simpa using h
    have e := agree_all p q hl fun t ht => by
      have := ha (t + 8) (by rw [List.length_cons]; omega)
      rwa [bitN_cons_ge, bitN_cons_ge] at this
    by_cases hx : x = y
    · rw [e, hx]
    · exfalso
      obtain ⟨l1, l2, l3, l4⟩ := lead_xor x y hx
      have := ha (8 - Lib.bitLen (x ^^^ y).toNat) (by rw [List.length_cons]; omega)
      rw [bitN_cons_lt _ _ _ l1, bitN_cons_lt _ _ _ l1] at this
      exact l4 this
theorem agree_eq {p q : List UInt8} (hp : p.length = 32) (hq : q.length = 32) (h : agree 256 p q) : p = q := agree_all p q (by omega) (by rw [hp]; exact h)
end Go.Proofs.Ytgffimanhmpohaa
/- Keys as ways down: the program's and the document's functions. -/
namespace Go.Proofs.Ytgffimanhmpohaa
open Go Go.RowKit
end Go.Proofs.Ytgffimanhmpohaa
/- slices.SortFunc at writes: the program bears it; how it compares. -/
namespace Go.Proofs.Ytgffimanhmpohaa
open Go Go.RowKit
def srwR : Go.Shelf.Ren := ⟨fun | 6 => 50 | 15 => 55 | 14 => 58 | 28 => 68 | 29 => 69 | 20 => 79 | 21 => 80 | 22 => 81 | 23 => 82 | 24 => 83 | 25 => 84 | 26 => 85 | 27 => 86 | 46 => 93 | 47 => 94 | 48 => 95 | 49 => 96 | 50 => 97 | 57 => 100 | n => n, fun | 22 => 23 | 24 => 37 | 25 => 89 | 3 => 3 | 39 => 99 | 0 => 0 | 53 => 109 | 55 => 111 | 4 => 4 | 46 => 122 | 45 => 121 | 50 => 87 | 5 => 5 | 9 => 9 | 66 => 133 | 70 => 131 | 76 => 139 | 77 => 137 | n => n, fun x => x⟩
theorem srwL : SlLaysF0.n6 Try.prog srwR :=
  { mixed := by kernel_rfl,
    f6 := ⟨Try.f50.name, by decide, by kernel_rfl⟩,
    f15 := by kernel_rfl,
    f14 := ⟨Try.f58.name, by decide, by kernel_rfl⟩,
    f28 := by kernel_rfl,
    f29 := by kernel_rfl,
    f20 := ⟨Try.f79.name, by decide, by kernel_rfl⟩,
    f21 := ⟨Try.f80.name, by decide, by kernel_rfl⟩,
    f22 := ⟨Try.f81.name, by decide, by kernel_rfl⟩,
    f23 := ⟨Try.f82.name, by decide, by kernel_rfl⟩,
    f24 := ⟨Try.f83.name, by decide, by kernel_rfl⟩,
    f25 := ⟨Try.f84.name, by decide, by kernel_rfl⟩,
    f26 := ⟨Try.f85.name, by decide, by kernel_rfl⟩,
    f27 := ⟨Try.f86.name, by decide, by kernel_rfl⟩,
    f46 := ⟨Try.f93.name, by decide, by kernel_rfl⟩,
    f47 := by kernel_rfl,
    f48 := by kernel_rfl,
    f49 := ⟨Try.f96.name, by decide, by kernel_rfl⟩,
    f50 := ⟨Try.f97.name, by decide, by kernel_rfl⟩,
    f57 := ⟨Try.f100.name, by decide, by kernel_rfl⟩,
    t22 := Try.underlying23, a22 := Try.isAgg23, z22 := Try.sizeOf23, v22 := Try.zeroValue23,
    t25 := Try.underlying89, a25 := Try.isAgg89, z25 := Try.sizeOf89, v25 := Try.zeroValue89,
    t3 := Try.underlying3, a3 := Try.isAgg3, z3 := Try.sizeOf3, v3 := Try.zeroValue3,
    t39 := Try.underlying99, a39 := Try.isAgg99, z39 := Try.sizeOf99, v39 := Try.zeroValue99,
    t0 := Try.underlying0, a0 := Try.isAgg0, z0 := Try.sizeOf0, v0 := Try.zeroValue0,
    t53 := Try.underlying109, a53 := Try.isAgg109, z53 := Try.sizeOf109, v53 := Try.zeroValue109,
    t55 := Try.underlying111, a55 := Try.isAgg111, z55 := Try.sizeOf111, v55 := Try.zeroValue111,
    t4 := Try.underlying4, a4 := Try.isAgg4, z4 := Try.sizeOf4, v4 := Try.zeroValue4,
    t46 := Try.underlying122, a46 := Try.isAgg122, z46 := Try.sizeOf122, v46 := Try.zeroValue122,
    t45 := Try.underlying121, a45 := Try.isAgg121, z45 := Try.sizeOf121, v45 := Try.zeroValue121,
    t50 := Try.underlying87, a50 := Try.isAgg87, z50 := Try.sizeOf87, v50 := Try.zeroValue87,
    t5 := Try.underlying5, a5 := Try.isAgg5, z5 := Try.sizeOf5, v5 := Try.zeroValue5,
    t9 := Try.underlying9, a9 := Try.isAgg9, z9 := Try.sizeOf9, v9 := Try.zeroValue9,
    t66 := Try.underlying133, a66 := Try.isAgg133, z66 := Try.sizeOf133, v66 := Try.zeroValue133,
    t70 := Try.underlying131, a70 := Try.isAgg131, z70 := Try.sizeOf131, v70 := Try.zeroValue131,
    t76 := Try.underlying139, a76 := Try.isAgg139, z76 := Try.sizeOf139, v76 := Try.zeroValue139,
    t77 := Try.underlying137, a77 := Try.isAgg137, z77 := Try.sizeOf137, v77 := Try.zeroValue137 }
end Go.Proofs.Ytgffimanhmpohaa
/- What sorting by keys compares with; loads by themselves. -/
namespace Go.Proofs.Ytgffimanhmpohaa
open Go Go.RowKit
theorem cell_new (w : World) (cs : Array Value) (t : TypeId) (j : Nat) : (w.alloc (.cells cs t)).cell? ⟨w.heap.size, j, none⟩ = cs[j]? := by
  unfold World.cell?
  rw [show (w.alloc (.cells cs t)).heap[(⟨w.heap.size, j, none⟩ : Addr).block]? = some (.cells cs t) from new_at w _]
  rfl
theorem size_alloc (w : World) (o : Obj) : (w.alloc o).heap.size = w.heap.size + 1 := by show (w.heap.push o).size = _; simp
theorem cmpT_any (a b : ByteArray) (w : World) : Calls Try.prog 78 #[.string a, .string b] w fun e w' => e = .returned (.int .i64 (Lib.compareBytes a.data.toList b.data.toList)) ∧ w' = w := by
  go_enter Try.func78, Try.ntmps78
  go_wp2_with (first | (go_at_call 92; refine (cmp_any _ _ _).mono ?_; rintro e w' ⟨rfl, rfl⟩))
  go_ret
  exact ⟨rfl, rfl⟩
theorem ocmp_any (x y : List UInt8) (B : Nat) (A1 A2 : Option Addr) (c1 c2 : Nat) (w : World) (h1 : Rd byteE w B A1 x) (h2 : Rd byteE w B A2 y) : Calls Try.prog 57 #[.slice A1 x.length c1, .slice A2 y.length c2] w fun e w' => e = .returned (.int .i64 (Lib.compareBytes x y)) ∧ w' = w := by
  have r1 := run_str h1 x.length c1 rfl
  have r2 := run_str h2 y.length c2 rfl
  have hc := cmpT_any (strOf x) (strOf y) w
  have e1 : (strOf x).data.toList = x := rfl
  have e2 : (strOf y).data.toList = y := rfl
  rw [e1, e2] at hc
  generalize strOf x = s1 at *
  generalize strOf y = s2 at *
  go_enter Try.func57, Try.ntmps57
  go_wp2_with (first | (go_at_call 78; refine hc.mono ?_; rintro e w' ⟨rfl, rfl⟩))
  go_ret
  exact ⟨rfl, rfl⟩
set_option maxHeartbeats 1000000 in
set_option maxRecDepth 100000 in
theorem pcmp_any (x y : List UInt8) (hx : x.length = 32) (hy : y.length = 32) (W : World) : Calls Try.prog 43 #[.agg (x.map B8).toArray, .agg (y.map B8).toArray] W fun e w' => e = .returned (.int .i64 (Lib.compareBytes x y)) ∧ ∃ q os', w' = Sort.grow (W.drewN q) os' := by
  have mixed : Try.prog.follows .mixedOrders = true := by kernel_rfl
  have hcon : ∀ n os, Calls Try.prog 57 #[.slice (some ⟨W.heap.size, 0, none⟩) 32 32, .slice (some ⟨W.heap.size + 1, 0, none⟩) 32 32] (Sort.grow ((((W.alloc (.cells (x.map B8).toArray 34)).alloc (.cells (y.map B8).toArray 34))).drewN n) os) fun e w' => e = .returned (.int .i64 (Lib.compareBytes x y)) ∧ ∃ p : GrownBy, w' = Sort.grow ((((W.alloc (.cells (x.map B8).toArray 34)).alloc (.cells (y.map B8).toArray 34))).drewN p.n) p.os := fun n os => by
    have h1 : Rd byteE (Sort.grow ((((W.alloc (.cells (x.map B8).toArray 34)).alloc (.cells (y.map B8).toArray 34))).drewN n) os) (W.heap.size + 2) (some ⟨W.heap.size, 0, none⟩) x := .inr ⟨_, _, rfl, by omega, fun j u hj => by
      refine cell_grown (by simp; omega) ?_ n os
      rw [byteE_all] at hj
      refine Lib.cell?_alloc_some _ ?_
      rw [Nat.zero_add, cell_new, List.getElem?_toArray]
      exact hj⟩
    have h2 : Rd byteE (Sort.grow ((((W.alloc (.cells (x.map B8).toArray 34)).alloc (.cells (y.map B8).toArray 34))).drewN n) os) (W.heap.size + 2) (some ⟨W.heap.size + 1, 0, none⟩) y := .inr ⟨_, _, rfl, by omega, fun j u hj => by
      refine cell_grown (by simp) ?_ n os
      rw [byteE_all] at hj
      have := cell_new (W.alloc (.cells (x.map B8).toArray 34)) (y.map B8).toArray 34 j
      rw [size_alloc] at this
      rw [Nat.zero_add, this, List.getElem?_toArray]
      exact hj⟩
    have h := ocmp_any x y _ _ _ 32 32 _ h1 h2
    rw [hx, hy] at h
    exact h.mono fun e w' ⟨he, hw⟩ => ⟨he, ⟨n, os⟩, hw⟩
  go_enter Try.func43, Try.ntmps43
  go_wp2
  generalize hw2 : (W.alloc (.cells (x.map B8).toArray 34)).alloc (.cells (y.map B8).toArray 34) = W2 at hcon ⊢
  go_quiet_grown (first | (go_at_call 57; exact hcon _ _))
  go_wp2
  go_ret
  refine ⟨rfl, nq, #[.cells (x.map B8).toArray 34, .cells (y.map B8).toArray 34] ++ osq, ?_⟩
  rw [← hw2, Sort.alloc_eq_grow, Sort.alloc_eq_grow, Sort.grow_grow]
  show Sort.grow (Sort.grow (W.drewN nq) _) osq = _
  rw [Sort.grow_grow]; rfl
theorem op_ld {P : Program} {o : Oper} {a : Act} {w : World} {K : Act → World → Prop} {Q : Exit → Act → World → Prop} {t : TypeId} {p : Operand} {b : Nat} {v : Value} (hl : (loadVar t ⟨b, 0, none⟩).run P w = .ok v w) (ho : o.op = .load t p) (hp : a.eval p = .pointer (some ⟨b, 0, none⟩)) (k : K (a.put o.dst v) w) : Oper.wp P o a w K Q := by
  unfold Oper.wp
  have he : (execOp a.eval o).run P w = .ok (.value v) w := by
    obtain ⟨dst, op, ty, pos, after, gd⟩ := o
    dsimp only at ho
    subst ho
    simp [execOp, Instr.loadAt, Instr.sureAddr, hp, hl]
  rw [he, Oper.upon_value]
  exact k
end Go.Proofs.Ytgffimanhmpohaa
/- Writes sorted: how two are compared. -/
namespace Go.Proofs.Ytgffimanhmpohaa
open Go Go.RowKit
/-- An entry's cells. -/
abbrev CelW := {p : List UInt8 × List Value // p.1.length = 32 ∧ p.2.length = 2 ∧ ∀ v ∈ p.2, v.oneCell' = true}
instance : Inhabited CelW := ⟨⟨(List.replicate 32 0, [.int .i64 0, .int .i64 0]), by decide, rfl, fun v hv => by simp at hv; subst hv; rfl⟩⟩
def encW (x : CelW) : List Value := x.1.1.map B8 ++ x.1.2
theorem encW_len (x : CelW) : (encW x).length = 34 := by simp [encW, x.2.1, x.2.2.1]
theorem encW_one (x : CelW) : ∀ v ∈ encW x, v.oneCell' = true := fun v hv => by
  unfold encW at hv
  rcases List.mem_append.1 hv with h | h
  · obtain ⟨u, _, rfl⟩ := List.mem_map.1 h; rfl
  · exact x.2.2.2 v h
def cfW (x y : CelW) : Int := Lib.compareBytes x.1.1 y.1.1
set_option maxHeartbeats 1000000 in
set_option maxRecDepth 100000 in
theorem srw_cmp (x y : CelW) (W : World) : Calls Try.prog 51 #[.agg (encW x).toArray, .agg (encW y).toArray] W fun e w' => e = .returned (.int .i64 (cfW x y)) ∧ ∃ q os', w' = Sort.grow (W.drewN q) os' := by
  have hc := fun W' => pcmp_any x.1.1 y.1.1 x.2.1 y.2.1 W'
  have ld : ∀ (z : CelW) (b : Nat) (W' : World), W'.heap[b]? = some (.cells (encW z).toArray 37) → (loadVar 34 ⟨b, 0, none⟩).run Try.prog W' = .ok (.agg (z.1.1.map B8).toArray) W' := fun z b W' hb => by
    refine run_loadV (g := ⟨fun _ _ => none, [], []⟩) (Tab.get_ok tab_ok (t := 34) (i := ti34) rfl) (a := .ba z.1.1) (.ba z.2.1) fun j u hu => ?_
    unfold World.cell?
    rw [show W'.heap[(⟨b, 0 + j, none⟩ : Addr).block]? = _ from hb]
    show (encW z).toArray[0 + j]? = some u
    rw [Nat.zero_add, List.getElem?_toArray, encW, List.getElem?_append_left (by have := (List.getElem?_eq_some_iff.1 hu).1; exact this)]
    exact hu
  have b1 : ((W.alloc (.cells (encW x).toArray 37)).alloc (.cells (encW y).toArray 37)).heap[W.heap.size]? = some (.cells (encW x).toArray 37) := by
    have h := new_at W (.cells (encW x).toArray 37)
    have hs := size_alloc W (.cells (encW x).toArray 37)
    show ((W.alloc _).heap.push _)[W.heap.size]? = _
    rw [Array.getElem?_push_lt (by omega)]
    rw [Array.getElem?_eq_getElem (by omega)] at h
    exact h
  have b2 : ((W.alloc (.cells (encW x).toArray 37)).alloc (.cells (encW y).toArray 37)).heap[W.heap.size + 1]? = some (.cells (encW y).toArray 37) := by
    have h := new_at (W.alloc (.cells (encW x).toArray 37)) (.cells (encW y).toArray 37)
    rw [size_alloc] at h
    exact h
  go_enter Try.func51, Try.ntmps51
  iterate 21 go_step
  refine op_ld (ld x _ _ b1) rfl rfl ?_
  iterate 5 go_step
  refine op_ld (ld y _ _ b2) rfl rfl ?_
  go_wp2_with (first | (go_at_call 43; refine (hc _).mono ?_; rintro e w' ⟨rfl, q, os, rfl⟩))
  go_ret
  exact ⟨rfl, q, _, by rw [Sort.alloc_eq_grow, Sort.alloc_eq_grow, Sort.grow_grow]; show Sort.grow (Sort.grow (W.drewN q) _) os = _; rw [Sort.grow_grow]⟩
end Go.Proofs.Ytgffimanhmpohaa
/- Writes sorted in their block. -/
namespace Go.Proofs.Ytgffimanhmpohaa
open Go Go.RowKit
theorem flat_celW (cs : List CelW) : cs.flatMap encW = (List.range cs.length).flatMap fun k => encW cs[k]! := by
  have h : ∀ (l : List CelW), l = (List.range l.length).map fun k => l[k]! := fun l => by
    apply List.ext_getElem?
    intro i
    rw [List.getElem?_map]
    by_cases hi : i < l.length
    · rw [List.getElem?_range hi, List.getElem?_eq_getElem hi]; simp [hi]
    · rw [List.getElem?_eq_none (by omega), List.getElem?_eq_none (by simpa using hi)]; rfl
  conv => lhs; rw [h cs]
  rw [List.flatMap_map]
theorem flatK_celW (cs : List CelW) : Go.Sort.flatK encW 34 cs.toArray = (cs.flatMap encW).toArray := by
  have hl : (cs.flatMap encW).length = cs.length * 34 := by rw [flat_celW]; exact flat_len _ fun k _ => encW_len _
  apply Array.ext_getElem?
  intro j
  by_cases hj : j < cs.length * 34
  · have h1 : j / 34 < cs.length := by omega
    have hx : (encW cs[j / 34]!)[j % 34]? = some ((encW cs[j / 34]!)[j % 34]'(by rw [encW_len]; omega)) := List.getElem?_eq_getElem _
    have := flat_get (F := fun k => encW cs[k]!) (s := 34) cs.length (fun k _ => encW_len _) (j / 34) (j % 34) _ h1 hx
    rw [show j / 34 * 34 + j % 34 = j by omega, ← flat_celW] at this
    have eR : (cs.flatMap encW).toArray[j]? = some ((encW cs[j / 34]!)[j % 34]'(by rw [encW_len]; omega)) := by rw [List.getElem?_toArray]; exact this
    have e := Go.Sort.get_flatK encW 34 cs.toArray j (by simpa using hj)
    rw [eR, Array.getElem?_eq_getElem (by simpa using hj)]
    congr 1
    rw [getElem!_pos (Go.Sort.flatK encW 34 cs.toArray) j (by simpa using hj)] at e
    rw [e]
    have e2 : (cs.toArray)[j / 34]! = cs[j / 34]! := by simp [h1]
    rw [e2, getElem!_pos (encW cs[j / 34]!) (j % 34) (by rw [encW_len]; omega)]
  · rw [Array.getElem?_eq_none (by simpa using hj), Array.getElem?_eq_none (by simp [hl]; omega)]
theorem swo_W : Go.Sort.SWO (ltOf cfW) := by
  have tot : ∀ p q : List UInt8, p.length = 32 → q.length = 32 → p = q ∨ ltB p q ∨ ltB q p := fun p q hp hq => by
    by_cases h : com p q < 256
    · have h1 := com_agree p q; have h2 := com_ne p q h
      cases hb : bitN p (com p q) with
      | false => exact .inr (.inl ⟨_, h, h1, hb, by rw [hb] at h2; simpa using h2.symm⟩)
      | true => exact .inr (.inr ⟨_, h, h1.symm, by rw [hb] at h2; simpa using h2.symm, hb⟩)
    · exact .inl (agree_eq hp hq fun t ht => com_agree p q t (by omega))
  have e : ∀ x y : CelW, ltOf cfW x y = true ↔ ltB x.1.1 y.1.1 := fun x y => by
    unfold ltOf cfW; rw [decide_eq_true_eq]; exact cmp_ltB x.2.1 y.2.1
  have en : ∀ x y : CelW, ltOf cfW x y = false ↔ ¬ ltB x.1.1 y.1.1 := fun x y => by rw [← e, Bool.not_eq_true]
  refine ⟨fun x => (en x x).2 fun h => h.irr, fun x y z h1 h2 => (e x z).2 (((e x y).1 h1).trans ((e y z).1 h2)), fun x y z h1 h2 => (en x z).2 fun h => ?_⟩
  have h1 := (en x y).1 h1; have h2 := (en y z).1 h2
  rcases tot x.1.1 y.1.1 x.2.1 y.2.1 with q | q | q
  · rw [q] at h; exact h2 h
  · exact h1 q
  · exact h2 (q.trans h)
theorem srw_blk (cs : List CelW) (sp : List Value) (b cap : Nat) {t : TypeId} (w : World) (hb : Blk w b t (cs.flatMap encW ++ sp).toArray) (hsz : cs.length < 4611686018427387904) :
    Calls Try.prog 50 #[.slice (some ⟨b, 0, none⟩) cs.length cap, .func (.func 51) #[] #[]] w fun e w' => e = .returned (.tuple #[]) ∧
      ∃ ds : List CelW, ds.Perm cs ∧ (∀ i j, i < j → j < ds.length → ltOf cfW ds[j]! ds[i]! = false) ∧ Blk w' b t (ds.flatMap encW ++ sp).toArray ∧ (∀ j, j < w.heap.size → j ≠ b → w'.heap[j]? = w.heap[j]?) ∧ w.heap.size ≤ w'.heap.size ∧ w'.os = w.os ∧ w'.tape = w.tape ∧ w'.output = w.output := by
  have hl : (cs.flatMap encW).length = cs.length * 34 := by rw [flat_celW]; exact flat_len _ fun k _ => encW_len _
  have hH : Go.Sort.HoldsK encW 34 w b 0 cs.toArray := fun j hj => by
    have hj' : j < cs.length * 34 := by simpa using hj
    refine ⟨?_, frozen_of_row w b (0 + j) _ t hb⟩
    rw [hb.cell, Nat.zero_add, List.getElem?_toArray, List.getElem?_append_left (by omega), flatK_celW]
    rw [List.getElem?_eq_getElem (by omega)]
    simp [hl, hj', getElem!_pos]
  have h := AnyQ.slices_SortFunc srwL 34 Try.isAgg37 Try.sizeOf37 encW encW_len encW_one cfW swo_W 51 #[] b 0 cap cs.toArray w (enters_of Try.func51 (by kernel_rfl) rfl) (fun _ _ _ _ x y => srw_cmp x y _) hH hb.lt (by simpa using hsz)
  refine h.mono ?_
  rintro e w' ⟨rfl, d', n, os, ⟨p1, _, p3⟩, hs, rfl⟩
  have hsz' : d'.size = cs.length := by simpa using p1
  refine ⟨rfl, d'.toList, ?_, fun i j hij hj => ?_, ?_, fun j hj hne => ?_, ?_, rfl, rfl, rfl⟩
  · have e1 : (d'.extract 0 cs.toArray.size) = d' := by rw [← p1, Array.extract_size]
    have e2 : (cs.toArray.extract 0 cs.toArray.size) = cs.toArray := by rw [Array.extract_size]
    rw [e1, e2] at p3
    exact p3
  · have := hs i j (Nat.zero_le _) hij (by simp at hj ⊢; omega)
    rw [getElem!_pos d'.toList j hj, getElem!_pos d'.toList i (by omega)]
    rw [getElem!_pos d' j (by simpa using hj), getElem!_pos d' i (by simp at hj; omega)] at this
    simpa using this
  · have hsz2 : (d'.toList.flatMap encW).length = cs.length * 34 := by rw [flat_celW, flat_len _ fun k _ => encW_len _]; simp [hsz']
    have hblt := hb.lt
    unfold Blk at hb ⊢
    simp only [sortWorldK, Go.Sort.putRowK, Go.Sort.grow, Go.Sort.putRow, Go.Sort.mapBlock, Go.Sort.ahead]
    rw [Array.getElem?_append_left (by simpa using hblt), Array.getElem?_modify, if_pos rfl, hb]
    simp only [Option.map_some, Go.Sort.onCells]
    congr 2
    have ef := flatK_celW d'.toList
    rw [Array.toArray_toList] at ef
    apply Array.ext_getElem?
    intro j
    simp only [Go.Sort.putCells, Array.getElem?_mapIdx, List.getElem?_toArray, Nat.zero_le, true_and, Nat.zero_add, Nat.sub_zero, List.size_toArray]
    rw [ef]
    by_cases hj : j < cs.length * 34
    · rw [List.getElem?_append_left (by omega), List.getElem?_append_left (by omega)]
      simp [hj, getElem!_pos, hl, hsz2]
    · rw [List.getElem?_append_right (by omega), List.getElem?_append_right (by omega), hl, hsz2]
      simp only [List.size_toArray, hsz2]
      cases sp[j - cs.length * 34]? with
      | none => rfl
      | some x => simp [hj]
  · simp only [sortWorldK, Go.Sort.putRowK, Go.Sort.grow, Go.Sort.putRow, Go.Sort.mapBlock, Go.Sort.ahead]
    rw [Array.getElem?_append_left (by simpa using hj), Array.getElem?_modify, if_neg (fun e => hne e.symm)]
  · simp [sortWorldK, Go.Sort.putRowK, Go.Sort.grow, Go.Sort.putRow, Go.Sort.mapBlock, Go.Sort.ahead]
end Go.Proofs.Ytgffimanhmpohaa
/- Writes by rising key (plain). -/
namespace Go.Proofs.Ytgffimanhmpohaa
open Go Go.RowKit
/-- A write: its key, whether it deletes, its value. -/
abbrev Wr := List UInt8 × Bool × List UInt8
abbrev wrT : Ty := .cn (.ba 32) (.cn .sc (.cn .sc .nl))
def wrA (p : Wr) : AV := .st [.ba p.1, .v (.bool p.2.1), .bs p.2.2 none]
def K32W (l : List Wr) : Prop := ∀ x ∈ l, x.1.length = 32
def DisW (l : List Wr) : Prop := l.Pairwise fun x y => x.1 ≠ y.1
def RisW (l : List Wr) : Prop := l.Pairwise fun x y => ltB x.1 y.1
theorem ltB_totW {p q : List UInt8} (hp : p.length = 32) (hq : q.length = 32) : p = q ∨ ltB p q ∨ ltB q p := by
  by_cases h : com p q < 256
  · have h1 := com_agree p q; have h2 := com_ne p q h
    cases hb : bitN p (com p q) with
    | false => exact .inr (.inl ⟨_, h, h1, hb, by rw [hb] at h2; simpa using h2.symm⟩)
    | true => exact .inr (.inr ⟨_, h, h1.symm, by rw [hb] at h2; simpa using h2.symm, hb⟩)
  · exact .inl (agree_eq hp hq fun t ht => com_agree p q t (by omega))
def insW (p : Wr) : List Wr → List Wr
  | [] => [p]
  | q :: l => if Lib.compareBytes p.1 q.1 < 0 then p :: q :: l else q :: insW p l
theorem insW_perm (p : Wr) : ∀ l, (insW p l).Perm (p :: l)
  | [] => .refl _
  | q :: l => by
    unfold insW
    split
    · exact .refl _
    · exact ((insW_perm p l).cons q).trans (.swap p q l)
def srtW (l : List Wr) : List Wr := l.foldr insW []
theorem srtW_perm : ∀ l, (srtW l).Perm l
  | [] => .refl _
  | p :: l => (insW_perm p (srtW l)).trans ((srtW_perm l).cons p)
theorem insW_ris (p : Wr) (hp : p.1.length = 32) : ∀ l, K32W l → RisW l → (∀ x ∈ l, p.1 ≠ x.1) → RisW (insW p l)
  | [], _, _, _ => by unfold insW RisW; simp
  | q :: l, hk, hr, hn => by
    obtain ⟨h1, h2⟩ := List.pairwise_cons.1 hr
    have hq := hk q List.mem_cons_self
    have hc : Lib.compareBytes p.1 q.1 < 0 ↔ ltB p.1 q.1 := cmp_ltB hp hq
    unfold insW
    split
    · rename_i hlt
      refine List.pairwise_cons.2 ⟨fun y hy => ?_, hr⟩
      rcases List.mem_cons.1 hy with rfl | hy
      · exact hc.1 hlt
      · exact (hc.1 hlt).trans (h1 y hy)
    · rename_i hlt
      refine List.pairwise_cons.2 ⟨fun y hy => ?_, insW_ris p hp l (fun x hx => hk x (List.mem_cons_of_mem _ hx)) h2 fun x hx => hn x (List.mem_cons_of_mem _ hx)⟩
      rcases List.mem_cons.1 ((insW_perm p l).mem_iff.1 hy) with rfl | hy
      · rcases ltB_totW hp hq with e | e | e
        · exact absurd e (hn q List.mem_cons_self)
        · exact absurd (hc.2 e) hlt
        · exact e
      · exact h1 y hy
theorem K32W.perm {l m : List Wr} (h : K32W l) (hp : m.Perm l) : K32W m := fun x hx => h x (hp.mem_iff.1 hx)
theorem srtW_ris : ∀ l, K32W l → DisW l → RisW (srtW l)
  | [], _, _ => List.Pairwise.nil
  | p :: l, hk, hd => by
    obtain ⟨h1, h2⟩ := List.pairwise_cons.1 hd
    have hk2 : K32W l := fun x hx => hk x (List.mem_cons_of_mem _ hx)
    exact insW_ris p (hk p List.mem_cons_self) (srtW l) (hk2.perm (srtW_perm l)) (srtW_ris l hk2 h2) fun x hx => h1 x ((srtW_perm l).mem_iff.1 hx)
theorem risW_uniq : ∀ l m : List Wr, RisW l → RisW m → l.Perm m → l = m
  | [], m, _, _, h => (List.nil_perm.1 h).symm
  | a :: l, [], _, _, h => absurd h.length_eq (by simp)
  | a :: l, b :: m, h1, h2, h => by
    obtain ⟨a1, a2⟩ := List.pairwise_cons.1 h1
    obtain ⟨b1, b2⟩ := List.pairwise_cons.1 h2
    have e : a = b := by
      rcases List.mem_cons.1 (h.mem_iff.1 List.mem_cons_self) with e | e
      · exact e
      · rcases List.mem_cons.1 (h.symm.mem_iff.1 List.mem_cons_self) with e2 | e2
        · exact e2.symm
        · exact ((a1 b e2).trans (b1 a e)).irr.elim
    subst e
    rw [risW_uniq l m a2 b2 (List.Perm.cons_inv h)]
theorem permW_lift {α β : Type} {f : α → β} {cs ds : List β} (h : cs.Perm ds) : ∀ z : List α, z.map f = cs → ∃ z', z.Perm z' ∧ z'.map f = ds := by
  induction h with
  | nil => intro z hz; exact ⟨z, .refl _, hz⟩
  | cons x h ih =>
    intro z hz
    cases z with
    | nil => cases hz
    | cons y z =>
      simp only [List.map_cons, List.cons.injEq] at hz
      obtain ⟨z', h1, h2⟩ := ih z hz.2
      exact ⟨y :: z', h1.cons y, by simp [hz.1, h2]⟩
  | swap x y l =>
    intro z hz
    match z, hz with
    | a :: b :: z, hz =>
      simp only [List.map_cons, List.cons.injEq] at hz
      exact ⟨b :: a :: z, .swap b a z, by simp [hz.1, hz.2.1, hz.2.2]⟩
  | trans h1 h2 ih1 ih2 =>
    intro z hz
    obtain ⟨z', k1, k2⟩ := ih1 z hz
    obtain ⟨z'', k3, k4⟩ := ih2 z' k2
    exact ⟨z'', k1.trans k3, k4⟩
/-- What the sort leaves is the sorted list, entry by entry. -/
theorem srtW_of (zs : List (Wr × CelW)) (hz : ∀ z ∈ zs, z.2.1.1 = z.1.1) (hd : DisW (zs.map (·.1))) {ds : List CelW} (hp : ds.Perm (zs.map (·.2))) (hs : ∀ i j, i < j → j < ds.length → ltOf cfW ds[j]! ds[i]! = false) :
    ∃ z' : List (Wr × CelW), z'.Perm zs ∧ z'.map (·.2) = ds ∧ z'.map (·.1) = srtW (zs.map (·.1)) := by
  obtain ⟨z', h1, h2⟩ := permW_lift hp.symm zs rfl
  refine ⟨z', h1.symm, h2, ?_⟩
  have hk : K32W (zs.map (·.1)) := fun x hx => by
    obtain ⟨z, hz1, rfl⟩ := List.mem_map.1 hx
    rw [← hz z hz1]; exact z.2.2.1
  have hpm : (z'.map (·.1)).Perm (zs.map (·.1)) := (h1.map _).symm
  refine risW_uniq _ _ ?_ (srtW_ris _ hk hd) (hpm.trans (srtW_perm _).symm)
  have hd' : DisW (z'.map (·.1)) := (hpm.pairwise_iff (fun h => h.symm)).2 hd
  unfold RisW
  rw [List.pairwise_iff_getElem]
  intro i j hi hj hij
  have hj' : j < z'.length := by simpa using hj
  have hi' : i < z'.length := by omega
  have hne := (List.pairwise_iff_getElem.1 hd') i j hi hj hij
  rw [List.getElem_map, List.getElem_map] at hne ⊢
  have hzi : z'[i].2.1.1 = z'[i].1.1 := hz _ (h1.symm.mem_iff.1 (List.getElem_mem hi'))
  have hzj : z'[j].2.1.1 = z'[j].1.1 := hz _ (h1.symm.mem_iff.1 (List.getElem_mem hj'))
  have hs' := hs i j hij (by rw [← h2]; simpa using hj')
  have ei : ds[i]! = z'[i].2 := by rw [← h2]; simp [hi']
  have ej : ds[j]! = z'[j].2 := by rw [← h2]; simp [hj']
  rw [ei, ej] at hs'
  unfold ltOf cfW at hs'
  rw [decide_eq_false_iff_not, cmp_ltB z'[j].2.2.1 z'[i].2.2.1, hzi, hzj] at hs'
  have l1 : z'[i].1.1.length = 32 := by rw [← hzi]; exact z'[i].2.2.1
  have l2 : z'[j].1.1.length = 32 := by rw [← hzj]; exact z'[j].2.2.1
  rcases ltB_totW l1 l2 with e | e | e
  · exact absurd e hne
  · exact e
  · exact absurd e hs'
end Go.Proofs.Ytgffimanhmpohaa
/- slices.SortFunc in values: a box that grows holds the writes sorted. -/
namespace Go.Proofs.Ytgffimanhmpohaa
open Go Go.RowKit
theorem wr_cel {g : Gh} {p : Wr} {cs : List Value} (h : RC g wrT (wrA p) cs) : ∃ c : CelW, c.1.1 = p.1 ∧ cs = encW c := by
  unfold wrA at h
  obtain ⟨c, d, rfl, h1, h2⟩ := h.st_inv
  obtain ⟨c2, d2, rfl, h3, h4⟩ := h2.st_inv
  obtain ⟨c3, d3, rfl, h5, h6⟩ := h4.st_inv
  obtain ⟨e1, rfl⟩ := h1.ba_inv
  injection e1 with e1
  obtain ⟨_, rfl⟩ := h3.v_inv
  obtain ⟨_, A, c, rfl, _⟩ := h5.bs_inv
  cases h6
  exact ⟨⟨(p.1, [.bool p.2.1, .slice A p.2.2.length c]), e1.symm, rfl, fun v hv => by
    rcases List.mem_cons.1 hv with rfl | hv
    · rfl
    · rw [List.mem_singleton.1 hv]; rfl⟩, rfl, by simp [encW]⟩
theorem zipW_of {g : Gh} {F : Nat → List Value} : ∀ (l : List Wr) (s : Nat), (∀ k (h : k < l.length), RC g wrT (wrA l[k]) (F (s + k))) → ∃ zs : List (Wr × CelW), zs.map (·.1) = l ∧ (∀ z ∈ zs, z.2.1.1 = z.1.1 ∧ RC g wrT (wrA z.1) (encW z.2)) ∧ (List.range l.length).flatMap (fun k => F (s + k)) = (zs.map (·.2)).flatMap encW
  | [], _, _ => ⟨[], rfl, (fun z hz => (by cases hz)), rfl⟩
  | p :: l, s, h => by
    obtain ⟨zs, h1, h2, h3⟩ := zipW_of l (s + 1) fun k hk => by
      have := h (k + 1) (by simpa using hk)
      rw [show s + 1 + k = s + (k + 1) by omega]
      simpa using this
    have h0 := h 0 (by simp)
    simp only [List.getElem_cons_zero, Nat.add_zero] at h0
    obtain ⟨c, hc1, hc2⟩ := wr_cel h0
    refine ⟨(p, c) :: zs, by simp [h1], fun z hz => ?_, ?_⟩
    · rcases List.mem_cons.1 hz with rfl | hz
      · exact ⟨hc1, by rw [← hc2]; exact h0⟩
      · exact h2 z hz
    · rw [List.length_cons, List.range_succ_eq_map, List.flatMap_cons, List.flatMap_map, Nat.add_zero, hc2]
      simp only [List.map_cons, List.flatMap_cons]
      congr 1
      rw [← h3]
      congr 1
      funext k
      show F (s + (k + 1)) = F (s + 1 + k)
      congr 1; omega
theorem sortW_v (l : List Wr) (γ : Nat) (hd : DisW l) (hn : l.length ≤ 4294967296) : VX Try.prog 50 [(.vc 37 wrT, .vc γ (l.map wrA))] [] [] [.vw 0 γ l.length, .v (.func (.func 51) #[] #[])]
    [(.vc 37 wrT, .vc γ ((srtW l).map wrA))] [] [] (.tup []) := by
  refine ⟨⟨Try.f50, Try.func50, by kernel_rfl, by kernel_rfl⟩, fun w N vs HI hlen hv => ?_⟩
  obtain ⟨v, u, rfl⟩ : ∃ v u, vs = [v, u] := by
    match vs, hlen with
    | [v, u], _ => exact ⟨v, u, rfl⟩
  have h0 := hv 0 _ v rfl rfl
  have hu := (hv 1 _ u rfl rfl).v_inv
  subst hu
  obtain ⟨_, y, e9, T9, A, c, e1, hy, hty, hle, hnc, hm, hxx⟩ := h0.vw_inv.vw_inv
  injection e1 with e1; subst e1
  obtain ⟨y', hy', hyT, hbc⟩ := HI.br.at_ 0 _ _ (by rfl)
  rw [hy] at hy'; injection hy' with hy'; subst hy'
  obtain ⟨T2, F, sp, ⟨e4, he4, htid⟩, hmp, hgen, hT0, hcm, hcs, hcl, hsp, hFk⟩ := hbc.vc_inv
  injection he4 with he40 he41; subst he40 he41
  obtain ⟨hcc, hA⟩ := hxx hgen
  have hlm : (l.map wrA).length = l.length := List.length_map ..
  obtain ⟨zs, z1, z2, z3⟩ := zipW_of (g := N.base) (F := F) l 0 fun k hk => by
    have := hFk k (by rw [hlm]; exact hk)
    rw [List.getElem_map] at this
    rw [Nat.zero_add]; exact this
  simp only [Nat.zero_add] at z3
  have hzl : zs.length = l.length := by rw [← z1, List.length_map]
  have hfz : y.fz = false := by
    cases e : y.fz with
    | false => rfl
    | true => exact absurd (HI.fz 0 y hy e) (by simp)
  rw [hlm] at hcs
  rcases hA with ⟨ho, rfl⟩ | ⟨ho, rfl⟩
  · have hc0 := hcm.2 ho
    have hl0 : l = [] := List.length_eq_zero_iff.1 (by omega)
    subst hl0
    refine (AnyF.slices_SortFunc_none srwL none c _ w).mono ?_
    rintro e w' ⟨rfl, rfl⟩
    exact ⟨N, _, rfl, HI, ⟨[], rfl, rfl, fun i a u ha _ => by simp at ha⟩⟩
  · have hblk := (HI.mem.bx 0 y hy ho).c hmp
    rw [htid, hcs, z3] at hblk
    have hsb := srw_blk (zs.map (·.2)) sp y.blk c w hblk (by rw [List.length_map]; omega)
    rw [List.length_map, hzl] at hsb
    refine hsb.mono ?_
    rintro e w' ⟨rfl, ds, hp, hs, hb2, hold, hsz, ho2, ht2, hu2⟩
    obtain ⟨z', p1, p2, p3⟩ := srtW_of zs (fun z hz => (z2 z hz).1) (by rw [z1]; exact hd) hp hs
    rw [z1] at p3
    have hz'l : z'.length = l.length := by rw [← hzl]; exact p1.length_eq
    have hsl : (srtW l).length = l.length := (srtW_perm l).length_eq
    have hds : ds.flatMap encW = (List.range l.length).flatMap fun k => encW ds[k]! := by
      rw [flat_celW, show ds.length = l.length by rw [← p2, List.length_map, hz'l]]
    have hF2 : ∀ k, k < l.length → RC N.base wrT (wrA ((srtW l)[k]!)) (encW ds[k]!) := fun k hk => by
      have hk' : k < z'.length := by omega
      have e1 : ds[k]! = z'[k].2 := by rw [← p2]; simp [hk']
      have e2 : (srtW l)[k]! = z'[k].1 := by rw [← p3]; simp [hk']
      rw [e1, e2]
      exact (z2 _ (p1.mem_iff.1 (List.getElem_mem hk'))).2
    have hlen2 : (ds.flatMap encW).length = (zs.map (·.2)).length * 34 := by rw [hds, flat_len _ fun k _ => encW_len _, List.length_map, hzl]
    have hlen1 : ((zs.map (·.2)).flatMap encW).length = (zs.map (·.2)).length * 34 := by rw [flat_celW, flat_len _ fun k _ => encW_len _]
    obtain ⟨g', h1, h2, h3⟩ := HI.upd (x' := { y with cells := ds.flatMap encW ++ sp }) (w' := w') (a := .vc γ ((srtW l).map wrA)) hy (by simp)
      (by unfold Bx.own; rw [ho]; exact ⟨ho2, ht2, hu2, hsz, fun k hk hne => hold k hk (fun e => hne (by rw [e]; rfl))⟩) rfl hfz (Nat.le_refl _) (fun _ => ⟨rfl, rfl, rfl⟩)
      (fun _ => ⟨.of hmp (by show Blk w' y.blk y.tid _; rw [htid]; exact hb2), .inr ⟨ho, rfl⟩⟩) (fun e => by rw [show ({ y with cells := ds.flatMap encW ++ sp } : Bx).off = y.off from rfl, ho] at e; cases e) (fun e => by rw [show ({ y with cells := ds.flatMap encW ++ sp } : Bx).mp = y.mp from rfl, hmp] at e; cases e)
      (by
        rw [hyT]
        refine .inr (.inl ⟨wrT, γ, (srtW l).map wrA, fun k => encW ds[k]!, sp, ⟨_, rfl, htid⟩, rfl, hmp, hgen, hT0, hcm, ?_, ?_, hsp, fun k hk => ?_⟩)
        · show ds.flatMap encW ++ sp = _
          rw [hds, List.length_map, hsl]
        · show (ds.flatMap encW ++ sp).length = _
          rw [← hcl, hcs, z3, List.length_append, List.length_append, hlen2, hlen1]
        · rw [List.length_map] at hk
          rw [List.getElem_map]
          have := hF2 k (by omega)
          rw [getElem!_pos (srtW l) k hk] at this
          exact this)
    rw [hyT] at h2
    exact ⟨g', _, rfl, h2, ⟨[], rfl, rfl, fun i a u ha _ => by simp at ha⟩⟩
end Go.Proofs.Ytgffimanhmpohaa
/- A map looked up with its second answer; writes put after one another (plain). -/
namespace Go.Proofs.Ytgffimanhmpohaa
open Go Go.RowKit
theorem tup2_rv {g : Gh} {x : AV} {u : Value} (h : RV1 g x u) (b : Bool) : RV g (.tup [x, .v (.bool b)]) (.tuple #[u, .bool b]) := by
  refine ⟨[u, .bool b], rfl, rfl, fun i a v ha hv => ?_⟩
  match i, ha, hv with
  | 0, ha, hv => injection ha with ha; injection hv with hv; subst ha hv; exact h
  | 1, ha, hv => injection ha with ha; injection hv with hv; subst ha hv; exact .inr (.v rfl)
  | i + 2, ha, hv => simp at ha
section
variable {P : Program} {τ : Tab} {w0 w : World} {N : Gh} {g : Gh} {st : St} {nt : Nat} {a : Act}
theorem v_look2 {ops : Array Oper} {Q : Exit → Act → World → Prop} {rest : List Oper} {o : Oper} {t kt et i n : Nat} {m kx : Operand} {V : Ty} {ks : List (List UInt8)} {vs : List AV} {kl : List UInt8} {z : AV} {zv : Value} (hKT : KT P kt n) (H : Rel P w0 N nt st a w)
    (ht : P.underlying t = some (.map kt et)) (hz : ∀ w, (zeroValue et).run P w = .ok zv w) (hzr : ∀ g, RV1 g z zv) (hl : kl.length = n)
    (k1 : kl ∉ ks → ∀ a w, Rel P w0 N nt (st.put o.dst none (.tup [z, .v (.bool false)])) a w → wpList P ops Q rest a w) (k2 : ∀ (j : Nat) (v : AV), ks[j]? = some kl → vs[j]? = some v → ∀ a w, Rel P w0 N nt (st.put o.dst none (.tup [v, .v (.bool true)])) a w → wpList P ops Q rest a w)
    (hgd : o.guard = none := by rfl) (ho : o.op = .lookup t m kx true := by rfl) (hd : okDst nt none o.dst = true := by rfl) (hm : st.ev none m = .mr i := by rfl) (hk : st.ev none kx = .ba kl := by rfl) (hb : st.bx[i]? = some (.mp (.ba n) V, .mp (ks.map .ba) vs) := by rfl) : wpList P ops Q (o :: rest) a w := by
  obtain ⟨g, HI, hF⟩ := H
  obtain ⟨x, es, clk, hx, hty, hoff, hmp, hc, hheap, hkl, hvl, hall⟩ := map_at HI hb
  have em := ev_sound hF (c := none) trivial m
  have ek := ev_sound hF (c := none) trivial kx
  rw [hm] at em; rw [hk] at ek
  have ek := ek.ba_inv
  have em2 : a.eval m = .map (some x.blk) := by
    have h3 := em.mr_inv
    generalize a.eval m = u at h3
    cases h3 with
    | mr h hT => rw [hx] at h; injection h with h; subst h; rfl
  have hget : (getObj x.blk).run P w = .ok (.map es clk) w := MapKept.run_getObj_map hheap
  have hchk : (Instr.checkKey es.isEmpty 10000 kt (a.eval kx)).run P w = .ok () w := by
    obtain ⟨q, hq⟩ := hKT.key kl hl
    rw [ek]; exact hKT.law.check w _ hq
  refine wpList_plain hgd fun K hK => ?_
  unfold Oper.wp
  have he : (execOp a.eval o).run P w = ((Instr.lookup t (a.eval m) (a.eval kx) true).run P w).andThen fun v w => .ok (.value v) w := by
    obtain ⟨dst, op, ty, pos, after, gd⟩ := o
    dsimp only at ho
    subst ho
    simp only [execOp, Sem.run_bind, Sem.run_pure]
  have hu : (underlying t).run P w = .ok (.map kt et) w := run_underlying ht w
  rw [he]
  rcases find_at hKT hkl (fun k h h1 => ⟨(hall k h h1 (by omega)).1, (hall k h h1 (by omega)).2.1⟩) hl w with ⟨h1, h2⟩ | ⟨j, hj, h1, h2⟩
  · have hr : (Instr.lookup t (a.eval m) (a.eval kx) true).run P w = .ok (.tuple #[zv, .bool false]) w := by
      rw [em2]
      unfold Instr.lookup
      simp only [Sem.run_bind, hu, Result.andThen_ok, hget, Sem.run_pure, hchk]
      rw [ek, h1]
      simp [hz]
    rw [hr]
    simp only [Result.andThen_ok, Oper.upon_value]
    refine hK _ _ (k1 h2 _ _ ⟨g, ?_, hF.put hd (fun _ => tup2_rv (hzr g) false) rfl (fun h => absurd trivial h)⟩)
    cases o.dst <;> exact HI
  · have hr : (Instr.lookup t (a.eval m) (a.eval kx) true).run P w = .ok (.tuple #[es[j].val, .bool true]) w := by
      rw [em2]
      unfold Instr.lookup
      simp only [Sem.run_bind, hu, Result.andThen_ok, hget, Sem.run_pure, hchk]
      rw [ek, h2]
      simp
    rw [hr]
    simp only [Result.andThen_ok, Oper.upon_value]
    obtain ⟨_, _, ds, q1, q2⟩ := hall j hj (by omega) (by omega)
    refine hK _ _ (k2 j vs[j] h1 (List.getElem?_eq_getElem _) _ _ ⟨g, ?_, hF.put hd (fun _ => by rw [q2]; exact tup2_rv (q1.mono g.base_le).rv true) rfl (fun h => absurd trivial h)⟩)
    cases o.dst <;> exact HI
end
theorem ktW : KT Try.prog 34 32 := KT.of Try.underlying34 Try.underlying5 (by kernel_rfl) (by kernel_rfl) (by kernel_rfl) (by kernel_rfl) (by kernel_rfl) (by decide +kernel)
/-- A write put behind others: in the place of the one at its key. -/
def putW : List Wr → Wr → List Wr
  | [], w => [w]
  | x :: l, w => if x.1 = w.1 then w :: l else x :: putW l w
def keyW (l : List Wr) : List (List UInt8) := l.map (·.1)
theorem putW_new : ∀ (l : List Wr) (w : Wr), w.1 ∉ keyW l → putW l w = l ++ [w]
  | [], w, _ => rfl
  | x :: l, w, h => by
    have h1 : ¬ x.1 = w.1 := fun e => h (by simp [keyW, e])
    have h2 : w.1 ∉ keyW l := fun e => h (by unfold keyW; exact List.mem_cons_of_mem _ e)
    unfold putW
    rw [if_neg h1, putW_new l w h2]; rfl
theorem putW_set : ∀ (l : List Wr) (w : Wr) (j : Nat), DisW l → (keyW l)[j]? = some w.1 → putW l w = l.set j w
  | [], w, j, _, h => by simp [keyW] at h
  | x :: l, w, 0, _, h => by
    have h1 : x.1 = w.1 := by simpa [keyW] using h
    unfold putW
    rw [if_pos h1]; rfl
  | x :: l, w, j + 1, hd, h => by
    obtain ⟨d1, d2⟩ := List.pairwise_cons.1 hd
    have h0 : (keyW l)[j]? = some w.1 := by simpa [keyW] using h
    have h1 : ¬ x.1 = w.1 := fun e => by
      obtain ⟨y, hy, e2⟩ := List.mem_map.1 (List.mem_of_getElem? h0)
      exact d1 y hy (e.trans e2.symm)
    unfold putW
    rw [if_neg h1, putW_set l w j d2 h0]; rfl
theorem putW_key : ∀ (l : List Wr) (w : Wr), keyW (putW l w) = if w.1 ∈ keyW l then keyW l else keyW l ++ [w.1]
  | [], w => by simp [putW, keyW]
  | x :: l, w => by
    have ih := putW_key l w
    unfold putW
    split
    · rename_i h
      simp [keyW, h]
    · rename_i h
      have e : keyW (x :: putW l w) = x.1 :: keyW (putW l w) := rfl
      have e2 : keyW (x :: l) = x.1 :: keyW l := rfl
      rw [e, ih, e2]
      by_cases hm : w.1 ∈ keyW l
      · rw [if_pos hm, if_pos (List.mem_cons_of_mem _ hm)]
      · rw [if_neg hm, if_neg (fun hc => by
          rcases List.mem_cons.1 hc with e | e
          · exact h e.symm
          · exact hm e)]; rfl
theorem disW_key (l : List Wr) : DisW l ↔ (keyW l).Nodup := by
  unfold DisW keyW List.Nodup
  rw [List.pairwise_map]
theorem putW_dis {l : List Wr} {w : Wr} (h : DisW l) : DisW (putW l w) := by
  rw [disW_key] at h ⊢
  rw [putW_key]
  split
  · exact h
  · rename_i hn
    exact List.nodup_append.2 ⟨h, by simp, fun a ha b hb => by rw [List.mem_singleton.1 hb]; exact fun e => hn (e ▸ ha)⟩
theorem putW_mem : ∀ {l : List Wr} {w x : Wr}, x ∈ putW l w → x = w ∨ x ∈ l
  | [], w, x, h => .inl (by simpa [putW] using h)
  | y :: l, w, x, h => by
    unfold putW at h
    split at h
    · rcases List.mem_cons.1 h with e | e
      · exact .inl e
      · exact .inr (List.mem_cons_of_mem _ e)
    · rcases List.mem_cons.1 h with e | e
      · exact .inr (by rw [e]; exact List.mem_cons_self)
      · rcases putW_mem e with e | e
        · exact .inl e
        · exact .inr (List.mem_cons_of_mem _ e)
theorem putW_len (l : List Wr) (w : Wr) : (putW l w).length ≤ l.length + 1 := by
  have h := congrArg List.length (putW_key l w)
  unfold keyW at h
  split at h <;> simp at h <;> omega
/-- A deleting write holds no value. -/
def nzW (w : Wr) : Wr := (w.1, w.2.1, if w.2.1 then [] else w.2.2)
def lstW (ws : List Wr) : List Wr := ws.foldl (fun l w => putW l (nzW w)) []
theorem lstW_snoc (ws : List Wr) (w : Wr) : lstW (ws ++ [w]) = putW (lstW ws) (nzW w) := by unfold lstW; rw [List.foldl_append]; rfl
theorem rev_indW {p : List Wr → Prop} (h0 : p []) (h1 : ∀ l w, p l → p (l ++ [w])) (l : List Wr) : p l := by
  have h : ∀ l : List Wr, p l.reverse := by
    intro l
    induction l with
    | nil => exact h0
    | cons w l ih => rw [List.reverse_cons]; exact h1 _ _ ih
  have := h l.reverse
  rwa [List.reverse_reverse] at this
theorem lstW_dis (ws : List Wr) : DisW (lstW ws) := by
  refine rev_indW (p := fun ws => DisW (lstW ws)) List.Pairwise.nil (fun ws w ih => ?_) ws
  rw [lstW_snoc]; exact putW_dis ih
theorem lstW_k32 (ws : List Wr) : K32W ws → K32W (lstW ws) := by
  refine rev_indW (p := fun ws => K32W ws → K32W (lstW ws)) (fun _ x hx => by cases hx) (fun ws w ih h => ?_) ws
  rw [lstW_snoc]
  intro x hx
  rcases putW_mem hx with e | e
  · rw [e]; exact h w (by simp)
  · exact ih (fun y hy => h y (by simp [hy])) x e
theorem lstW_len (ws : List Wr) : (lstW ws).length ≤ ws.length := by
  refine rev_indW (p := fun ws => (lstW ws).length ≤ ws.length) (Nat.le_refl _) (fun ws w ih => ?_) ws
  rw [lstW_snoc, List.length_append]
  have := putW_len (lstW ws) (nzW w)
  show _ ≤ ws.length + 1
  omega
end Go.Proofs.Ytgffimanhmpohaa
/- The reference's order of writes is the program's (plain). -/
namespace Go.Proofs.Ytgffimanhmpohaa
open Go Go.RowKit
/-- Put ahead of the first that is not below. -/
def insR (p : Wr) : List Wr → List Wr
  | [] => [p]
  | q :: l => if Lib.compareBytes q.1 p.1 < 0 then q :: insR p l else p :: q :: l
theorem insR_perm (p : Wr) : ∀ l, (insR p l).Perm (p :: l)
  | [] => .refl _
  | q :: l => by
    unfold insR
    split
    · exact ((insR_perm p l).cons q).trans (.swap p q l)
    · exact .refl _
theorem insR_ris (p : Wr) (hp : p.1.length = 32) : ∀ l, K32W l → RisW l → (∀ x ∈ l, p.1 ≠ x.1) → RisW (insR p l)
  | [], _, _, _ => by unfold insR RisW; simp
  | q :: l, hk, hr, hn => by
    obtain ⟨h1, h2⟩ := List.pairwise_cons.1 hr
    have hq := hk q List.mem_cons_self
    have hc : Lib.compareBytes q.1 p.1 < 0 ↔ ltB q.1 p.1 := cmp_ltB hq hp
    unfold insR
    split
    · rename_i hlt
      refine List.pairwise_cons.2 ⟨fun y hy => ?_, insR_ris p hp l (fun x hx => hk x (List.mem_cons_of_mem _ hx)) h2 fun x hx => hn x (List.mem_cons_of_mem _ hx)⟩
      rcases List.mem_cons.1 ((insR_perm p l).mem_iff.1 hy) with rfl | hy
      · exact hc.1 hlt
      · exact h1 y hy
    · rename_i hlt
      have hpq : ltB p.1 q.1 := by
        rcases ltB_totW hp hq with e | e | e
        · exact absurd e (hn q List.mem_cons_self)
        · exact e
        · exact absurd (hc.2 e) hlt
      refine List.pairwise_cons.2 ⟨fun y hy => ?_, hr⟩
      rcases List.mem_cons.1 hy with rfl | hy
      · exact hpq
      · exact hpq.trans (h1 y hy)
/-- How the reference goes through the writes. -/
def refF : List Wr → List Wr → List Wr
  | [], out => out
  | w :: l, out => refF l (if w.1 ∈ keyW l then out else insR (nzW w) out)
def finW : List Wr → List Wr
  | [] => []
  | w :: l => if w.1 ∈ keyW l then finW l else nzW w :: finW l
theorem refF_perm : ∀ (l out : List Wr), (refF l out).Perm (finW l ++ out)
  | [], out => .refl _
  | w :: l, out => by
    unfold refF finW
    refine (refF_perm l _).trans ?_
    split
    · exact .refl _
    · exact ((insR_perm (nzW w) out).append_left (finW l)).trans List.perm_middle
theorem refF_ris : ∀ (l out : List Wr), K32W l → K32W out → RisW out → (∀ x ∈ out, x.1 ∉ keyW l) → RisW (refF l out)
  | [], out, _, _, h, _ => h
  | w :: l, out, hl, ho, h, hn => by
    have hl2 : K32W l := fun x hx => hl x (List.mem_cons_of_mem _ hx)
    have hw : (nzW w).1.length = 32 := hl w List.mem_cons_self
    unfold refF
    split
    · exact refF_ris l out hl2 ho h fun x hx he => hn x hx (List.mem_cons_of_mem _ he)
    · rename_i hnm
      refine refF_ris l _ hl2 (fun x hx => ?_) (insR_ris _ hw out ho h fun x hx e => hn x hx (by rw [← e]; exact List.mem_cons_self)) fun x hx => ?_
      · rcases List.mem_cons.1 ((insR_perm _ out).mem_iff.1 hx) with rfl | hx
        · exact hw
        · exact ho x hx
      · rcases List.mem_cons.1 ((insR_perm _ out).mem_iff.1 hx) with rfl | hx
        · exact hnm
        · exact fun he => hn x hx (List.mem_cons_of_mem _ he)
def notW (k : List UInt8) (x : Wr) : Bool := decide (x.1 ≠ k)
theorem finW_snoc (w : Wr) : ∀ l : List Wr, finW (l ++ [w]) = (finW l).filter (notW w.1) ++ [nzW w]
  | [] => by simp [finW, keyW]
  | x :: l => by
    have ih := finW_snoc w l
    have e : keyW (l ++ [w]) = keyW l ++ [w.1] := by simp [keyW]
    show finW (x :: (l ++ [w])) = _
    unfold finW
    rw [ih, e]
    by_cases h1 : x.1 ∈ keyW l
    · rw [if_pos h1, if_pos (List.mem_append_left _ h1)]
    · rw [if_neg h1]
      by_cases h2 : x.1 = w.1
      · rw [if_pos (by rw [h2]; exact List.mem_append_right _ List.mem_cons_self)]
        rw [List.filter_cons_of_neg (by unfold notW nzW; simp [h2])]
      · rw [if_neg (fun hc => by
          rcases List.mem_append.1 hc with hc | hc
          · exact h1 hc
          · exact h2 (List.mem_singleton.1 hc))]
        rw [List.filter_cons_of_pos (by unfold notW nzW; simp [h2])]
        rfl
theorem filt_all : ∀ (l : List Wr) (k : List UInt8), k ∉ keyW l → l.filter (notW k) = l
  | [], _, _ => rfl
  | x :: l, k, h => by
    have h1 : ¬ x.1 = k := fun e => h (by rw [← e]; exact List.mem_cons_self)
    rw [List.filter_cons_of_pos (by unfold notW; simp [h1]), filt_all l k fun hc => h (List.mem_cons_of_mem _ hc)]
theorem putW_filt (w : Wr) : ∀ l : List Wr, DisW l → (putW l w).Perm (l.filter (notW w.1) ++ [w])
  | [], _ => .refl _
  | x :: l, hd => by
    obtain ⟨d1, d2⟩ := List.pairwise_cons.1 hd
    unfold putW
    split
    · rename_i h
      rw [List.filter_cons_of_neg (by unfold notW; simp [h]), filt_all l w.1 (fun hc => by
        obtain ⟨y, hy, e⟩ := List.mem_map.1 hc
        exact d1 y hy (h.trans e.symm))]
      exact (List.perm_append_singleton w l).symm
    · rename_i h
      rw [List.filter_cons_of_pos (by unfold notW; simp [h])]
      exact (putW_filt w l d2).cons x
theorem lstW_fin (ws : List Wr) : (lstW ws).Perm (finW ws) := by
  refine rev_indW (p := fun ws => (lstW ws).Perm (finW ws)) (.refl _) (fun ws w ih => ?_) ws
  rw [lstW_snoc, finW_snoc]
  exact (putW_filt (nzW w) _ (lstW_dis ws)).trans ((ih.filter _).append_right _)
/-- The two orders are one. -/
theorem refF_eq (ws : List Wr) (hk : K32W ws) : refF ws [] = srtW (lstW ws) := by
  refine risW_uniq _ _ (refF_ris ws [] hk (fun x hx => by cases hx) List.Pairwise.nil (fun x hx => by cases hx)) (srtW_ris _ (lstW_k32 ws hk) (lstW_dis ws)) ?_
  refine (refF_perm ws []).trans ?_
  rw [List.append_nil]
  exact (lstW_fin ws).symm.trans (srtW_perm _).symm
end Go.Proofs.Ytgffimanhmpohaa
