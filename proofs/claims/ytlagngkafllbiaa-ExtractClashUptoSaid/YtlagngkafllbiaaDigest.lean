/- A5: Con3 Draw Con4 Con5. -/
import Derived.Test.YtlagngkafllbiaaA4
import Derived.Test.YtlagngkafllbiaaTab
import Derived.Laws.BitsAllLaws
import Derived.Lib.BitFns
import Derived.Lib.Bytealg
set_option linter.unusedSimpArgs false
set_option linter.unusedVariables false
/- Tests, stretches with at least one step; rows that are none yet. -/
namespace Go.Proofs.Ytlagngkafllbiaa
open Go Go.RowKit
theorem wrapu8 (n : Int) : IntKind.u8.wrap n = n % 256 := by simp [IntKind.wrap, IntKind.bits, IntKind.signed]
theorem wrapu16 (n : Int) : IntKind.u16.wrap n = n % 65536 := by simp [IntKind.wrap, IntKind.bits, IntKind.signed]
theorem wrapu32 (n : Int) : IntKind.u32.wrap n = n % 4294967296 := by simp [IntKind.wrap, IntKind.bits, IntKind.signed]
theorem wrapu64 (n : Int) : IntKind.u64.wrap n = n % 18446744073709551616 := by simp [IntKind.wrap, IntKind.bits, IntKind.signed]
theorem u8n (x d : Nat) : UInt8.ofNat (((x : Int) / (d : Int)) % 256).toNat = UInt8.ofNat (x / d) := by
  have h : (((x : Int) / (d : Int)) % 256).toNat = x / d % 256 := by
    rw [show (x : Int) / (d : Int) = ((x / d : Nat) : Int) from (Int.natCast_ediv x d).symm]; omega
  rw [h]; apply UInt8.toNat_inj.1; simp
theorem u8m (x : Nat) : UInt8.ofNat ((x : Int) % 256).toNat = UInt8.ofNat x := by
  have h : ((x : Int) % 256).toNat = x % 256 := by omega
  rw [h]; apply UInt8.toNat_inj.1; simp
section
variable {α : Type} (x : α)
theorem rep1 : List.replicate 1 x = [x] := rfl
theorem rep2 : List.replicate 2 x = [x, x] := rfl
theorem rep3 : List.replicate 3 x = [x, x, x] := rfl
theorem rep4 : List.replicate 4 x = [x, x, x, x] := rfl
theorem rep5 : List.replicate 5 x = [x, x, x, x, x] := rfl
end
/-- bytes, each a slice -/
def bss (ls : List (List UInt8)) : List AV := ls.map fun l => .bs l none
section
variable {P : Program} {τ : Tab} {w0 w : World} {N : Gh} {g : Gh} {st st' st1 : St} {nt : Nat} {a : Act}
theorem v_cond {Q : Exit → Act → World → Prop} {c : Operand} {x y : Code} {b : Bool} (H : Rel P w0 N nt st a w) (hc : st.ev none c = .v (.bool b))
    (h1 : b = true → x.wp P Q a w) (h2 : b = false → y.wp P Q a w) : (Code.cond c x y).wp P Q a w := by
  obtain ⟨g, HI, hF⟩ := H
  have := ev_sound hF (c := none) trivial c
  rw [hc] at this
  exact wp_cond_split this.v_inv h1 h2
theorem hNq {q : Nat} (h : N.bx.length ≤ q) : ∀ k, some q = some k → N.bx.length ≤ k := fun k e => by injection e with e; subst e; exact h
theorem vrun_conds {md : Option Nat} {ops : Array Oper} : ∀ (l : List Oper) (st : St) (c : Prop), (vrun τ md nt ops l st c).2.1 → c := by
  intro l
  induction l with
  | nil => intro st c h; exact h
  | cons o l ih =>
    intro st c h
    unfold vrun at h
    split at h
    · exact (ih _ _ h).1
    · exact h
theorem v_more {ops : Array Oper} {Q : Exit → Act → World → Prop} {q : Nat} {o : Oper} {l l' : List Oper} {c1 c' : Prop} (hτ : τ.ok P) (hN : N.bx.length ≤ q) (H : Rel P w0 N nt st a w) (h0 : vstep τ (some q) nt ops o st = some (st1, c1)) (h : vrun τ (some q) nt ops l st1 c1 = (st', c', l')) (hc : c')
    (k : ∀ a w, Rel P w0 N nt st' a w → wpList P ops Q l' a w) : wpList P ops Q (o :: l) a w := by
  have hc1 : c1 := by have := vrun_conds (τ := τ) (nt := nt) (md := some q) (ops := ops) l st1 c1; rw [h] at this; exact this hc
  exact vstep_wpList hτ (hNq hN) h0 hc1 H fun a w H' => vrun_wpList hτ (hNq hN) l st1 c1 c' l' h hc a w H' k
theorem v_steps {ops : Array Oper} {Q : Exit → Act → World → Prop} {q : Nat} {l : List Oper} {c' : Prop} (n : Nat) (hτ : τ.ok P) (hN : N.bx.length ≤ q) (H : Rel P w0 N nt st a w) (h : vrun τ (some q) nt ops (l.take n) st True = (st', c', [])) (hc : c')
    (k : ∀ a w, Rel P w0 N nt st' a w → wpList P ops Q (l.drop n) a w) : wpList P ops Q l a w := by
  have key : ∀ (l1 l2 : List Oper) (st : St) (c : Prop), vrun τ (some q) nt ops l1 st c = (st', c', []) → c' → ∀ a w, Rel P w0 N nt st a w → (∀ a w, Rel P w0 N nt st' a w → wpList P ops Q l2 a w) → wpList P ops Q (l1 ++ l2) a w := by
    intro l1 l2
    induction l1 with
    | nil => intro st c h _ a w H k; simp only [vrun, Prod.mk.injEq] at h; obtain ⟨rfl, rfl, _⟩ := h; exact k _ _ H
    | cons o l1 ih =>
      intro st c h hc a w H k
      unfold vrun at h
      split at h
      · rename_i st1 cd1 hs
        have hc1 : cd1 := by have := vrun_conds (τ := τ) (nt := nt) (md := some q) (ops := ops) l1 st1 (c ∧ cd1); rw [h] at this; exact (this hc).2
        exact vstep_wpList hτ (hNq hN) hs hc1 H fun a w H' => ih st1 _ h hc a w H' k
      · simp at h
  have := key (l.take n) (l.drop n) st True h hc a w H k
  rwa [List.take_append_drop] at this
def nilT (d : Nat) (b : AV) : List (Nat × Gd × AV) → List (Nat × Gd × AV)
  | [] => []
  | (k, x) :: l => if k = d then (d, none, b) :: l else (k, x) :: nilT d b l
theorem nilT_mem {d : Nat} {b : AV} {p : Nat × Gd × AV} : ∀ {l : List (Nat × Gd × AV)}, p ∈ nilT d b l → p = (d, none, b) ∨ p ∈ l
  | q :: l, h => by
    unfold nilT at h
    split at h
    · rcases List.mem_cons.1 h with h | h
      · exact .inl h
      · exact .inr (List.mem_cons_of_mem _ h)
    · rcases List.mem_cons.1 h with h | h
      · exact .inr (by rw [h]; exact List.mem_cons_self)
      · rcases nilT_mem h with h | h
        · exact .inl h
        · exact .inr (List.mem_cons_of_mem _ h)
/-- A slice that is none becomes a row that is none yet: bytes. -/
theorem v_nilB (hτ : τ.ok P) (H : Rel P w0 N nt st a w) (d e : Nat) {j : TI} (hj : Tab.get e τ = some j) (hs : 0 < j.ty.size) (hd : find d st.t = some (none, .v (.slice none 0 0))) :
    Rel P w0 N nt ⟨nilT d (.bs [] (some st.rw.length)) st.t, st.bx, st.fz, st.rw ++ [(e, 0)]⟩ a w := by
  obtain ⟨g, HI, hF⟩ := H
  have hok := Tab.get_ok hτ hj
  obtain ⟨g1, l1, I1, h1⟩ := HI.rowNil (nilRow hok hs w) rfl rfl ⟨hok.cells.symm, rfl⟩
  refine ⟨g1, I1, (hF.mono l1.1).sz, hF.df, fun p hp hg => ?_, fun p hp hg => by rcases nilT_mem hp with h | h; (subst h; exact absurd trivial hg); exact hF.u p h hg⟩
  have hv : RV g1 (.bs [] (some st.rw.length)) (a.tmps.getD d undef) := by
    have := (hF.t _ (find_mem hd) trivial).v_inv
    rw [this]
    exact (RC.bs (g := g1) (l := []) (A := none) (c := 0) (by simp) (by simp [maxLen]) (.inl rfl) fun i hi => by injection hi with hi; subst hi; exact ⟨_, h1, by simp, fun _ => ⟨rfl, rfl⟩⟩).rv1
  have key : ∀ l : List (Nat × Gd × AV), p ∈ nilT d (.bs [] (some st.rw.length)) l → p = (d, none, .bs [] (some st.rw.length)) ∨ p ∈ l := by
    intro l
    induction l with
    | nil => intro h; cases h
    | cons q l ih =>
      intro h
      unfold nilT at h
      split at h
      · rcases List.mem_cons.1 h with h | h
        · exact .inl h
        · exact .inr (List.mem_cons_of_mem _ h)
      · rcases List.mem_cons.1 h with h | h
        · exact .inr (by rw [h]; exact List.mem_cons_self)
        · rcases ih h with h | h
          · exact .inl h
          · exact .inr (List.mem_cons_of_mem _ h)
  rcases key _ hp with h | h
  · subst h; exact hv
  · exact (hF.mono l1.1).t p h hg
theorem v_nilE (hτ : τ.ok P) (H : Rel P w0 N nt st a w) (d e : Nat) {j : TI} (T : Ty) (hj : Tab.get e τ = some j) (hs : 0 < j.ty.size) (hd : find d st.t = some (none, .v (.slice none 0 0))) :
    Rel P w0 N nt ⟨nilT d (.sl T [] (some st.rw.length)) st.t, st.bx, st.fz, st.rw ++ [(e, 0)]⟩ a w := by
  obtain ⟨g, HI, hF⟩ := H
  have hok := Tab.get_ok hτ hj
  obtain ⟨g1, l1, I1, h1⟩ := HI.rowNil (nilRow hok hs w) rfl rfl ⟨hok.cells.symm, rfl⟩
  refine ⟨g1, I1, (hF.mono l1.1).sz, hF.df, fun p hp hg => ?_, fun p hp hg => by rcases nilT_mem hp with h | h; (subst h; exact absurd trivial hg); exact hF.u p h hg⟩
  have hv : RV g1 (.sl T [] (some st.rw.length)) (a.tmps.getD d undef) := by
    have := (hF.t _ (find_mem hd) trivial).v_inv
    rw [this]
    exact (RC.sl (g := g1) (T := T) (es := []) (A := none) (c := 0) (by simp) (by simp [maxLen]) (fun _ => []) (.inl rfl) (fun k hk => absurd hk (by simp)) fun i hi => by injection hi with hi; subst hi; exact ⟨_, h1, by simp, fun _ => ⟨rfl, rfl⟩⟩).rv1
  have key : ∀ l : List (Nat × Gd × AV), p ∈ nilT d (.sl T [] (some st.rw.length)) l → p = (d, none, .sl T [] (some st.rw.length)) ∨ p ∈ l := by
    intro l
    induction l with
    | nil => intro h; cases h
    | cons q l ih =>
      intro h
      unfold nilT at h
      split at h
      · rcases List.mem_cons.1 h with h | h
        · exact .inl h
        · exact .inr (List.mem_cons_of_mem _ h)
      · rcases List.mem_cons.1 h with h | h
        · exact .inr (by rw [h]; exact List.mem_cons_self)
        · rcases ih h with h | h
          · exact .inl h
          · exact .inr (List.mem_cons_of_mem _ h)
  rcases key _ hp with h | h
  · subst h; exact hv
  · exact (hF.mono l1.1).t p h hg
end
end Go.Proofs.Ytlagngkafllbiaa

/- Regions that draw their order, on what is known. -/
namespace Go.Proofs.Ytlagngkafllbiaa
open Go Go.RowKit
def hasAny : Nat → AV → Bool
  | _, .any => true
  | d + 1, .st fs => fs.any (hasAny d)
  | _, _ => false
def qopN (τ : Tab) (st : St) (c : Gd) (o : Op) : QR :=
  match qop2 τ st c o with
  | some (r, cd) => if hasAny 3 r then none else some (r, cd)
  | none => none
theorem qopN_some {τ : Tab} {st : St} {c : Gd} {o : Op} {x : AV × Prop} (h : qopN τ st c o = some x) : qop2 τ st c o = some x := by
  unfold qopN at h
  split at h
  · rename_i hq
    split at h
    · cases h
    · rw [hq]; exact h
  · cases h
def qopA (τ : Tab) (st : St) (c : Gd) (o : Op) : QR :=
  match o with
  | .build t ps => qopN τ st c (.build t ps)
  | o => qop2 τ st c o
theorem qopA_some {τ : Tab} {st : St} {c : Gd} {o : Op} {x : AV × Prop} (h : qopA τ st c o = some x) : qop2 τ st c o = some x := by
  unfold qopA at h
  split at h
  · exact qopN_some h
  · exact h
def St.lose (st : St) (dst : Option Tmp) : St :=
  match dst with
  | none => st
  | some d => { st with t := dropT d st.t }
def isSlc : Op → Bool
  | .slice _ _ _ _ _ => true
  | _ => false
def loudOk (md : Option Nat) (sq : St) (o : Op) : Bool := !isSto o || sq.bx.isEmpty
def stillE (τ : Tab) (md : Option Nat) (st : St) (c : Gd) (o : Op) : ER :=
  match (match o with
    | .slice t x lo hi none => (match md, isNoneG c with
      | some q0, true => frzE τ q0 st t (st.ev c x) (lo.map (st.ev c)) (hi.map (st.ev c))
      | _, _ => none)
    | _ => none) with
  | some r => some r
  | none => (match qop2 τ st c o with
    | some (r, cd) => some (st, r, cd)
    | none => none)
def vstepT (τ : Tab) (md : Option Nat) (nt : Nat) (ops : Array Oper) (L A : List Nat) (k : Nat) (o : Oper) (sq st : St) : Option (St × St × Prop) :=
  match gdOf ops o with
  | none => none
  | some c =>
    if okDst nt c o.dst then
      (if L.contains k then
        (if isNoneG c && loudOk md sq o.op then (match eop τ none st c o.op with
          | some (st', r, cd) => some (sq.lose o.dst, st'.put o.dst c r, cd)
          | none => none) else none)
      else
        (if A.contains k then (match qopA τ sq c o.op with
          | some (r, cd) => some (sq.put o.dst c r, st.put o.dst c r, gcond sq c cd)
          | none => (match (if memless o.op then qop2 τ st c o.op else none) with
            | some (r, cd) => some (sq.lose o.dst, st.put o.dst c r, gcond st c cd)
            | none => none))
        else (match stillE τ md st c o.op with
          | some (st', r, cd) => (match qopN τ sq c o.op with
            | some (r', cd') => (if md.isSome && isSlc o.op then some (sq.lose o.dst, st'.put o.dst c r, gcond st c cd) else some (sq.put o.dst c r', st.put o.dst c r', gcond sq c cd'))
            | none => some (sq.lose o.dst, st'.put o.dst c r, gcond st c cd))
          | none => none)))
    else none
def vrunT (τ : Tab) (md : Option Nat) (nt : Nat) (ops : Array Oper) (L A : List Nat) : List Oper → Nat → St → St → Prop → St × St × Prop × List Oper × Nat
  | [], k, sq, st, c => (sq, st, c, [], k)
  | o :: l, k, sq, st, c =>
    match vstepT τ md nt ops L A k o sq st with
    | some (sq', st', cd) => vrunT τ md nt ops L A l (k + 1) sq' st' (c ∧ cd)
    | none => (sq, st, c, o :: l, k)
section
variable {P : Program} {τ : Tab} {w0 w : World} {N : Gh} {g gS : Gh} {st st' sq sq' : St} {nt : Nat} {a : Act} {r : AV} {cd : Prop}
structure RelT (P : Program) (w0 : World) (N : Gh) (nt : Nat) (gS : Gh) (sq st : St) (a : Act) (w : World) : Prop where
  mem : Mem gS w
  rows : gS.rw = []
  fr : FR gS nt sq a
  br : BR gS sq.bx
  rel : ∃ g, Inv P w0 N g st.bx st.fz st.rw w ∧ FR g nt st a ∧ gS.le g ∧ Bs gS g
theorem RelT.still {H : RelT P w0 N nt gS sq st a w} : Mem gS w := H.mem
theorem MemS {w' : World} (h : Mem gS w) (hr : gS.rw = []) (HI : Inv P w0 N g st.bx st.fz st.rw w') (hl : gS.le g) (hb : Bs gS g) : Mem gS w' := by
  have no : ∀ {i : Nat} {x : Rw}, gS.rw[i]? = some x → False := fun {i x} h => by rw [hr] at h; simp at h
  exact ⟨fun b o u hu => HI.mem.ro _ _ _ (hl.ro _ _ _ hu), fun i x hx => by obtain ⟨y, h1, h2, h3, h4⟩ := hb i x hx; have := HI.mem.bx i y h1; rw [h2, h3, h4] at this; exact this,
    fun i x h => (no h).elim, h.fro, h.bro, h.bb, h.rro, h.rwo, h.rb, h.rr⟩
theorem FR.lose {dst : Option Tmp} (hF : FR g nt st a) (v : Value) : FR g nt (st.lose dst) (a.put dst v) := by
  cases dst with
  | none => exact hF
  | some d =>
    refine ⟨by simp [Act.put, hF.sz], hF.df, fun p hp hgp => ?_, fun p hp hgp => ?_⟩
    rotate_left
    · obtain ⟨h1, h2, h3⟩ := dropT_mem hp
      rw [getD_put h2]
      refine hF.u p h1 fun hc => hgp ?_
      cases hq : p.2.1 with
      | none => trivial
      | some k => obtain ⟨j, b⟩ := k; rw [hq] at hc; show (a.put (some d) v).tmps.getD j undef = .bool b; rw [getD_put (h3 j b hq)]; exact hc
    obtain ⟨h1, h2, h3⟩ := dropT_mem hp
    rw [getD_put h2]
    refine hF.t p h1 ?_
    cases hc : p.2.1 with
    | none => trivial
    | some k =>
      obtain ⟨j, b⟩ := k
      rw [hc] at hgp
      have : (a.put (some d) v).tmps.getD j undef = .bool b := hgp
      rw [getD_put (h3 j b hc)] at this
      exact this
theorem lose_bx (st : St) (dst : Option Tmp) : (st.lose dst).bx = st.bx := by cases dst <;> rfl
theorem put_bx (st : St) (dst : Option Tmp) (c : Gd) (r : AV) : (st.put dst c r).bx = st.bx ∧ (st.put dst c r).fz = st.fz ∧ (st.put dst c r).rw = st.rw := by cases dst <;> exact ⟨rfl, rfl, rfl⟩
/-- What an operation that leaves the world comes to. -/
theorem stillE_sound (hτ : τ.ok P) {md : Option Nat} (hN : ∀ q, md = some q → N.bx.length ≤ q) (HI : Inv P w0 N g st.bx st.fz st.rw w) (hF : FR g nt st a) {c : Gd} (hg : gholds a c) {o : Oper} (h : stillE τ md st c o.op = some (st', r, cd)) (hc : cd) :
    ∃ g' z, g.lex g' ∧ Inv P w0 N g' st'.bx st'.fz st'.rw w ∧ st'.t = st.t ∧ (execOp a.eval o).run P w = .ok (.value z) w ∧ RV g' r z := by
  unfold stillE at h
  split at h
  · rename_i q hq
    injection h with h; subst h
    split at hq
    · rename_i t x lo hi ho
      split at hq
      · rename_i q0 _
        have E := fun x => ev_sound hF hg x
        have RO_ : ∀ x : Option Operand, RO g (x.map (st.ev c)) (x.map a.eval) := fun x => by cases x with | none => trivial | some x => exact E x
        have hq' : frzE τ q0 st t (st.ev c x) (lo.map (st.ev c)) (hi.map (st.ev c)) = some (st', r, cd) := hq
        obtain ⟨g', z, h1, h2, h3, h4, h5⟩ := frzE_still hτ HI (hN _ rfl) hq' hc (E x) (RO_ lo) (RO_ hi)
        exact ⟨g', z, h1, h2, h3, by unfold execOp; rw [ho]; simp [h4], h5⟩
      · cases hq
    · cases hq
  · split at h
    · rename_i r0 cd0 hq
      obtain ⟨rfl, rfl, rfl⟩ := ER.inj h
      obtain ⟨z, h1, h2⟩ := qop2_sound (P := P) hτ hF HI.br hg hq hc
      exact ⟨g, z, Gh.lex.refl g, HI, rfl, h2 w HI.mem, h1⟩
    · cases h
theorem stillE_st {md : Option Nat} {q : Nat × Bool} {o : Op} (h : stillE τ md st (some q) o = some (st', r, cd)) : st' = st := by
  unfold stillE at h
  split at h
  · rename_i x hx
    split at hx
    · simp [isNoneG] at hx
    · cases hx
  · split at h
    · exact (ER.inj h).1.symm
    · cases h
theorem qop2_memless (hτ : τ.ok P) (hF : FR g nt st a) (hB : BR g st.bx) {c : Gd} (hg : gholds a c) {o : Oper} (hm : memless o.op = true) (h : qop2 τ st c o.op = some (r, cd)) (hc : cd) :
    ∃ z, RV g r z ∧ ∀ w, (execOp a.eval o).run P w = .ok (.value z) w := by
  unfold qop2 at h
  split at h
  · rename_i t ps ho
    obtain ⟨z, h1, h2⟩ := buildq_sound (P := P) hτ hF hg h hc
    exact ⟨z, h1, fun w => by unfold execOp; rw [ho]; simp [h2 w]⟩
  · obtain ⟨z, h1, h2⟩ := qop_sound (P := P) hτ hF hB hg h hc
    exact ⟨z, h1, fun w => h2 w (.inl hm)⟩
theorem vstepT_wpT {ops : Array Oper} {Q : Exit → Act → World → Prop} {L A : List Nat} {rest : List Oper} {k : Nat} {o : Oper} {md : Option Nat} (hτ : τ.ok P) (hN : ∀ q, md = some q → N.bx.length ≤ q) (h : vstepT τ md nt ops L A k o sq st = some (sq', st', cd)) (hc : cd)
    (H : RelT P w0 N nt gS sq st a w) (kk : ∀ a w, RelT P w0 N nt gS sq' st' a w → wpT P ops Q (Mem gS) L A rest (k + 1) a w) : wpT P ops Q (Mem gS) L A (o :: rest) k a w := by
  obtain ⟨hM, hrw, hFq, hBq, g, HI, hF, hl, hbs⟩ := H
  unfold vstepT at h
  split at h
  · cases h
  · rename_i c hgd
    split at h
    · rename_i hdst
      unfold wpT
      split at h
      · rename_i hL
        split at h
        · rename_i hcond
          simp only [Bool.and_eq_true] at hcond
          obtain ⟨hng, hlo⟩ := hcond
          have hcn : c = none := by cases c with | none => rfl | some k => simp [isNoneG] at hng
          subst hcn
          have hw : Region.wanted o (yielded ops a.tmps) = true := (gdOf_wanted hgd).2 trivial
          rw [if_pos hw, if_pos hL]
          split at h
          · rename_i st1 r1 cd1 he
            injection h with h
            simp only [Prod.mk.injEq] at h
            obtain ⟨rfl, rfl, rfl⟩ := h
            obtain ⟨g', w', k1, k2, k3, k4⟩ := eop_sound hτ (md := none) (fun _ h => (by cases h)) HI hF (c := none) trivial he hc
            have hbs' : Bs gS g' := by
              simp only [loudOk, Bool.or_eq_true, Bool.not_eq_true', List.isEmpty_iff] at hlo
              rcases hlo with h | h
              · exact hbs.trans (k1.2 h)
              · intro i x hx
                have := hBq.len; rw [h] at this
                rw [List.length_eq_zero_iff.1 this] at hx; simp at hx
            have hl' := hl.trans k1.1
            have fin : ∀ v, RV g' r1 v → RelT P w0 N nt gS (sq.lose o.dst) (st1.put o.dst none r1) (a.put o.dst v) w' := fun v hv =>
              ⟨MemS hM hrw k2 hl' hbs', hrw, hFq.lose v, by rw [lose_bx]; exact hBq, g', by rw [(put_bx _ _ _ _).1, (put_bx _ _ _ _).2.1, (put_bx _ _ _ _).2.2]; exact k2, (hF.mono k1.1).put hdst (fun _ => hv) k3 (fun h => absurd trivial h), hl', hbs'⟩
            unfold Oper.wp
            rcases k4 with ⟨z, h1, h2⟩ | ⟨h1, h2⟩
            · rw [h1, Oper.upon_value]; exact ⟨(fin z h2).mem, kk _ _ (fin z h2)⟩
            · rw [h1, Oper.upon_skip]; have := fin undef (by rw [h2]; trivial); exact ⟨this.mem, kk _ _ this⟩
          · cases h
        · cases h
      · rename_i hL
        have hL' : L.contains k = false := by simpa using hL
        -- a quiet operation by what is known for ever
        have quiet : ∀ {r0 : AV} {cd0 : Prop}, qop2 τ sq c o.op = some (r0, cd0) → gcond sq c cd0 → (∀ a w, RelT P w0 N nt gS (sq.put o.dst c r0) (st.put o.dst c r0) a w → wpT P ops Q (Mem gS) L A rest (k + 1) a w) →
            (if Region.wanted o (yielded ops a.tmps) = true then (if L.contains k = true then o.wp P a w (fun a' w' => Mem gS w' ∧ wpT P ops Q (Mem gS) L A rest (k + 1) a' w') NoQ
              else ∃ v, Qr P o a w v ∧ (A.contains k = true → ∀ w', Mem gS w' → Vr P o a w' v) ∧ wpT P ops Q (Mem gS) L A rest (k + 1) (a.put o.dst v) w)
            else wpT P ops Q (Mem gS) L A rest (k + 1) (a.put o.dst undef) w) := by
          intro r0 cd0 hq hc0 kk
          by_cases hw : Region.wanted o (yielded ops a.tmps) = true
          · rw [if_pos hw, if_neg hL]
            obtain ⟨z, h1, h2⟩ := qop2_sound (P := P) hτ hFq hBq ((gdOf_wanted hgd).1 hw) hq (gcond_elim hFq hc0 ((gdOf_wanted hgd).1 hw))
            have hv : ∀ w', Mem gS w' → Vr P o a w' z := h2
            refine ⟨z, (hv w hM).qr, fun _ => hv, kk _ _ ⟨hM, hrw, hFq.put hdst (fun _ => h1) rfl (fun h => absurd ((gdOf_wanted hgd).1 hw) h), by rw [(put_bx _ _ _ _).1]; exact hBq, g, by rw [(put_bx _ _ _ _).1, (put_bx _ _ _ _).2.1, (put_bx _ _ _ _).2.2]; exact HI, hF.put hdst (fun _ => h1.mono hl) rfl (fun h => absurd ((gdOf_wanted hgd).1 hw) h), hl, hbs⟩⟩
          · rw [if_neg hw]
            exact kk _ _ ⟨hM, hrw, hFq.put hdst (fun hg => absurd ((gdOf_wanted hgd).2 hg) hw) rfl (fun _ => rfl), by rw [(put_bx _ _ _ _).1]; exact hBq, g, by rw [(put_bx _ _ _ _).1, (put_bx _ _ _ _).2.1, (put_bx _ _ _ _).2.2]; exact HI, hF.put hdst (fun hg => absurd ((gdOf_wanted hgd).2 hg) hw) rfl (fun _ => rfl), hl, hbs⟩
        split at h
        · split at h
          · rename_i r1 cd1 hq
            injection h with h
            simp only [Prod.mk.injEq] at h
            obtain ⟨rfl, rfl, rfl⟩ := h
            exact quiet (qopA_some hq) hc kk
          · split at h
            · rename_i r1 cd1 hq
              injection h with h
              simp only [Prod.mk.injEq] at h
              obtain ⟨rfl, rfl, rfl⟩ := h
              split at hq
              · rename_i hml
                by_cases hw : Region.wanted o (yielded ops a.tmps) = true
                · rw [if_pos hw, if_neg hL]
                  obtain ⟨z, h1, h2⟩ := qop2_memless (P := P) hτ hF HI.br ((gdOf_wanted hgd).1 hw) hml hq (gcond_elim hF hc ((gdOf_wanted hgd).1 hw))
                  have hv : ∀ w', Mem gS w' → Vr P o a w' z := fun w' _ => h2 w'
                  exact ⟨z, (hv w hM).qr, fun _ => hv, kk _ _ ⟨hM, hrw, hFq.lose z, by rw [lose_bx]; exact hBq, g, by rw [(put_bx _ _ _ _).1, (put_bx _ _ _ _).2.1, (put_bx _ _ _ _).2.2]; exact HI, hF.put hdst (fun _ => h1) rfl (fun h => absurd ((gdOf_wanted hgd).1 hw) h), hl, hbs⟩⟩
                · rw [if_neg hw]
                  exact kk _ _ ⟨hM, hrw, hFq.lose undef, by rw [lose_bx]; exact hBq, g, by rw [(put_bx _ _ _ _).1, (put_bx _ _ _ _).2.1, (put_bx _ _ _ _).2.2]; exact HI, hF.put hdst (fun hg => absurd ((gdOf_wanted hgd).2 hg) hw) rfl (fun _ => rfl), hl, hbs⟩
              · cases hq
            · cases h
        · rename_i hA
          have hA' : A.contains k = false := by simpa using hA
          split at h
          · rename_i st1 r1 cd1 he
            have still : gcond st c cd1 → (∀ a w, RelT P w0 N nt gS (sq.lose o.dst) (st1.put o.dst c r1) a w → wpT P ops Q (Mem gS) L A rest (k + 1) a w) →
                (if Region.wanted o (yielded ops a.tmps) = true then (if L.contains k = true then o.wp P a w (fun a' w' => Mem gS w' ∧ wpT P ops Q (Mem gS) L A rest (k + 1) a' w') NoQ
                  else ∃ v, Qr P o a w v ∧ (A.contains k = true → ∀ w', Mem gS w' → Vr P o a w' v) ∧ wpT P ops Q (Mem gS) L A rest (k + 1) (a.put o.dst v) w)
                else wpT P ops Q (Mem gS) L A rest (k + 1) (a.put o.dst undef) w) := by
              intro hc1 kk
              by_cases hw : Region.wanted o (yielded ops a.tmps) = true
              · rw [if_pos hw, if_neg hL]
                obtain ⟨g', z, k1, k2, k3, k4, k5⟩ := stillE_sound (P := P) hτ hN HI hF ((gdOf_wanted hgd).1 hw) he (gcond_elim hF hc1 ((gdOf_wanted hgd).1 hw))
                refine ⟨z, (show Vr P o a w z from k4).qr, fun h => (by rw [hA'] at h; cases h), kk _ _ ⟨hM, hrw, hFq.lose z, by rw [lose_bx]; exact hBq, g', by rw [(put_bx _ _ _ _).1, (put_bx _ _ _ _).2.1, (put_bx _ _ _ _).2.2]; exact k2, (hF.mono k1.1).put hdst (fun _ => k5) k3 (fun h => absurd ((gdOf_wanted hgd).1 hw) h), hl.trans k1.1, hbs.trans k1.2⟩⟩
              · rw [if_neg hw]
                have hst1 : st1 = st ∨ c = none := by
                  cases c with
                  | none => exact .inr rfl
                  | some q => exact .inl (stillE_st he)
                rcases hst1 with h1 | h1
                · subst h1
                  exact kk _ _ ⟨hM, hrw, hFq.lose undef, by rw [lose_bx]; exact hBq, g, by rw [(put_bx _ _ _ _).1, (put_bx _ _ _ _).2.1, (put_bx _ _ _ _).2.2]; exact HI, hF.put hdst (fun hg => absurd ((gdOf_wanted hgd).2 hg) hw) rfl (fun _ => rfl), hl, hbs⟩
                · subst h1; exact absurd ((gdOf_wanted hgd).2 trivial) hw
            split at h
            · rename_i r' cd' hq
              split at h
              · injection h with h
                simp only [Prod.mk.injEq] at h
                obtain ⟨rfl, rfl, rfl⟩ := h
                exact still hc kk
              · injection h with h
                simp only [Prod.mk.injEq] at h
                obtain ⟨rfl, rfl, rfl⟩ := h
                exact quiet (qopN_some hq) hc kk
            · injection h with h
              simp only [Prod.mk.injEq] at h
              obtain ⟨rfl, rfl, rfl⟩ := h
              exact still hc kk
          · cases h
    · cases h
theorem vrunT_conds {md : Option Nat} {ops : Array Oper} {L A : List Nat} : ∀ (l : List Oper) (k : Nat) (sq st : St) (c : Prop), (vrunT τ md nt ops L A l k sq st c).2.2.1 → c := by
  intro l
  induction l with
  | nil => intro k sq st c h; exact h
  | cons o l ih =>
    intro k sq st c h
    unfold vrunT at h
    split at h
    · exact (ih _ _ _ _ h).1
    · exact h
theorem vrunT_wpT {ops : Array Oper} {Q : Exit → Act → World → Prop} {L A : List Nat} {md : Option Nat} (hτ : τ.ok P) (hN : ∀ q, md = some q → N.bx.length ≤ q) : ∀ (l : List Oper) (k : Nat) (sq st : St) (c c' : Prop) (l' : List Oper) (k' : Nat), vrunT τ md nt ops L A l k sq st c = (sq', st', c', l', k') → c' →
    ∀ (a : Act) (w : World), RelT P w0 N nt gS sq st a w → (∀ a w, RelT P w0 N nt gS sq' st' a w → wpT P ops Q (Mem gS) L A l' k' a w) → wpT P ops Q (Mem gS) L A l k a w := by
  intro l
  induction l with
  | nil => intro k sq st c c' l' k' h _ a w H kk; simp only [vrunT, Prod.mk.injEq] at h; obtain ⟨rfl, rfl, rfl, rfl, rfl⟩ := h; exact kk _ _ H
  | cons o l ih =>
    intro k sq st c c' l' k' h hc a w H kk
    unfold vrunT at h
    split at h
    · rename_i sq1 st1 cd1 hs
      have hc1 : cd1 := by have := vrunT_conds (τ := τ) (nt := nt) (md := md) (ops := ops) (L := L) (A := A) l (k + 1) sq1 st1 (c ∧ cd1); rw [h] at this; exact (this hc).2
      exact vstepT_wpT hτ hN hs hc1 H fun a w H' => ih (k + 1) sq1 st1 _ c' l' k' h hc a w H' kk
    · simp only [Prod.mk.injEq] at h
      obtain ⟨rfl, rfl, rfl, rfl, rfl⟩ := h
      exact kk _ _ H
theorem Inv.loose {bx : List (Ty × AV)} {fz : List Nat} {rw_ : List (TypeId × Nat)} (h : Inv P w0 N g bx fz rw_ w) : Inv P { w with heap := #[] } ⟨fun _ _ => none, [], []⟩ g bx fz rw_ w :=
  ⟨h.mem, ⟨⟨rfl, rfl, rfl, Nat.zero_le _, fun k hk => absurd hk (Nat.not_lt_zero _)⟩, fun _ _ _ => .inl (Nat.zero_le _), fun _ _ _ _ _ => .inl (Nat.zero_le _), fun b hb => absurd hb (Nat.not_lt_zero _), ⟨fun _ _ _ h => (by cases h), fun _ _ h => (by cases h), fun _ _ h => (by cases h)⟩⟩, h.br, h.fz, h.wr, h.wz⟩
/-- A region that draws its order. -/
theorem v_draw {id : Nat} {Q : Exit → Act → World → Prop} {l : List Oper} (nb : Nat) (L A : List Nat) (hm : P.follows .mixedOrders = true) (hchk : chk l.toArray (Region.before l.toArray) L A = true) (H : Rel P w0 N nt st a w)
    (hb : (st.bx.take nb).all (fun x => low nb 0 4 x.2) = true)
    (k : ∀ gS, RelT P w0 N nt gS ⟨st.t.filter fun p => low nb 0 4 p.2.2, st.bx.take nb, st.fz, []⟩ st a w.drew → wpT P l.toArray Q (Mem gS) L A l 0 a w.drew) : (Code.region id l.toArray true).wp P Q a w := by
  obtain ⟨g, HI, hF⟩ := H
  have HI' := HI.drew
  have hc := HI'.loose.cut (nr := 0) (Nat.zero_le _) (Nat.zero_le _) hb
  have hgb : ∀ (i : Nat) x, (g.cut nb 0).bx[i]? = some x → g.bx[i]? = some x := fun i x hx => by
    have : (g.bx.take nb)[i]? = some x := hx
    rw [List.getElem?_take] at this
    split at this
    · exact this
    · cases this
  have hle : (g.cut nb 0).le g := ⟨fun _ _ _ h => h, fun i x hx => ⟨x, hgb i x hx, rfl, rfl⟩, fun i r hr => by simp [Gh.cut] at hr⟩
  have hbs : Bs (g.cut nb 0) g := fun i x hx => ⟨x, hgb i x hx, rfl, rfl, rfl⟩
  have HT : RelT P w0 N nt (g.cut nb 0) ⟨st.t.filter fun p => low nb 0 4 p.2.2, st.bx.take nb, st.fz, []⟩ st a w.drew :=
    ⟨hc.mem, by simp [Gh.cut], ⟨hF.sz, hF.df, fun p hp hg => by
      simp only [List.mem_filter] at hp
      exact (hF.t p hp.1 hg).low_ (d := 3) hp.2, fun p hp hg => hF.u p (List.mem_filter.1 hp).1 hg⟩, hc.br, g, HI', hF, hle, hbs⟩
  exact wp_region_T L A (Mem (g.cut nb 0)) hm hchk HT.mem (k _ HT)
theorem v_drawNil {ops : Array Oper} {Q : Exit → Act → World → Prop} {L A : List Nat} {k : Nat} (H : RelT P w0 N nt gS sq st a w) (h : Rel P w0 N nt st a w → Q .normal a w) : wpT P ops Q (Mem gS) L A [] k a w := by
  obtain ⟨_, _, _, _, g, HI, hF, _⟩ := H
  exact h ⟨g, HI, hF⟩
/-- A call in such a region. -/
theorem v_callT {ops : Array Oper} {Q : Exit → Act → World → Prop} {L A : List Nat} {k : Nat} {rest : List Oper} {o : Oper} {f : FuncId} {xs : List Operand} {ats : Array TypeId} {bxc bx' : List (Ty × AV)} {fzc fz' : List Nat} {rwc rw' : List (TypeId × Nat)} {args : List AV} {res : AV} (js ks : List Nat)
    (hc : VX P f bxc fzc rwc args bx' fz' rw' res) (H : RelT P w0 N nt gS sq st a w) (hL : L.contains k = true) (hjs : js.all (fun j => decide (sq.bx.length ≤ j)) = true)
    (hgd : o.guard = none) (ho : o.op = .call ⟨.value (.func f), xs.toArray, ats⟩) (hchk : (okSel js st.bx.length && okSel ks st.rw.length && usesB js st.bx && fzOk js st.fz fzc 0 && xs.all (fun x => argOk js (st.ev none x)) && uses some 4 res && bx'.all (fun x => uses some 4 x.2) && okDst nt none o.dst) = true)
    (hb : bxs (pickB js ks st.bx) bxc) (hr : ks.filterMap (st.rw[·]?) = rwc) (ha : allP (sub 4) (cargs st js ks xs) args)
    (kk : ∀ a w, RelT P w0 N nt gS (sq.lose o.dst) ((⟨st.t, mergeL st.bx js (renB js ks st.bx.length st.rw.length bx'), st.fz ++ fz'.map (nth js st.bx.length), mergeL st.rw ks rw'⟩ : St).put o.dst none (ren (fun k => some (nth js st.bx.length k)) (fun k => some (nth ks st.rw.length k)) 4 res)) a w → wpT P ops Q (Mem gS) L A rest (k + 1) a w) : wpT P ops Q (Mem gS) L A (o :: rest) k a w := by
  obtain ⟨hfok, hcall⟩ := hc
  obtain ⟨hM, hrw, hFq, hBq, g, HI, hF, hle, hbs⟩ := H
  simp only [Bool.and_eq_true] at hchk
  obtain ⟨⟨⟨⟨⟨⟨⟨c1, c2⟩, c3⟩, c4⟩, c5⟩, c6⟩, c7⟩, c8⟩ := hchk
  obtain ⟨hj, nj⟩ := okSel_ok c1
  obtain ⟨hk, nk⟩ := okSel_ok c2
  obtain ⟨h1, h2⟩ := cargs_ok HI hF hj hk c5 ha
  unfold wpT
  rw [if_pos (by simp [Region.wanted, hgd]), if_pos hL]
  unfold Oper.wp
  rw [run_callF hfok xs ats ho w, Oper.upon_enter]
  have HP : Inv P w (g.pick js ks) (g.pick js ks) bxc fzc rwc w := HI.pick js ks hj hk nj nk (usesB_ok c3) hb (fun i j hi hm => by simpa using fzOk_ok c4 i j hi hm) hr
    ⟨Kept.refl _ _, fun i x hx => .inr ⟨x, hx, rfl⟩, fun i r k hr hrk => .inr ⟨r, hr, hrk⟩, fun _ _ _ _ => rfl, Gh.le.refl _⟩
  refine (hcall w (g.pick js ks) (xs.map a.eval) HP (by simp [h1]) h2).mono fun e w' hp => ?_
  obtain ⟨g1, v, rfl, HI1, hv⟩ := hp
  obtain ⟨k1, k2, k3, k4⟩ := HI.call HI1 hj hk nj nk (fun x hx => List.all_eq_true.1 c7 x hx)
  have hv' := hv.ren_ (g1 := g1) (g2 := ⟨g1.ro, mergeL g.bx js g1.bx, mergeL g.rw ks g1.rw⟩) (fb := fun k => some (nth js st.bx.length k)) (fr := fun k => some (nth ks st.rw.length k)) (d := 3) rfl (fun i j x hij hx => by injection hij with hij; subst hij; exact k3 i x hx) (fun i j x hij hx => by injection hij with hij; subst hij; exact k4 i x hx) (uses_some c6)
  have hbs' : Bs gS ⟨g1.ro, mergeL g.bx js g1.bx, mergeL g.rw ks g1.rw⟩ := fun i x hx => by
    obtain ⟨y, h3, h4⟩ := hbs i x hx
    refine ⟨y, merge_old (fun hm => ?_) h3, h4⟩
    have h5 := List.all_eq_true.1 hjs i hm
    simp only [decide_eq_true_eq] at h5
    have h6 := (List.getElem?_eq_some_iff.1 hx).1
    rw [hBq.len] at h6; omega
  have hM' := MemS (st := ⟨st.t, mergeL st.bx js (renB js ks st.bx.length st.rw.length bx'), st.fz ++ fz'.map (nth js st.bx.length), mergeL st.rw ks rw'⟩) hM hrw k2 (hle.trans k1) hbs'
  refine ⟨hM', kk _ _ ⟨hM', hrw, hFq.lose v, by rw [lose_bx]; exact hBq, _, ?_, (hF.mono k1).put c8 (fun _ => hv') rfl (fun h => absurd trivial h), hle.trans k1, hbs'⟩⟩
  rw [(put_bx _ _ _ _).1, (put_bx _ _ _ _).2.1, (put_bx _ _ _ _).2.2]
  exact k2
theorem v_moreT {ops : Array Oper} {Q : Exit → Act → World → Prop} {L A : List Nat} {q : Nat} {l l' : List Oper} {k k' : Nat} {c' : Prop} (hτ : τ.ok P) (hN : N.bx.length ≤ q) (H : RelT P w0 N nt gS sq st a w) (h : vrunT τ (some q) nt ops L A l k sq st True = (sq', st', c', l', k')) (hc : c')
    (kk : ∀ a w, RelT P w0 N nt gS sq' st' a w → wpT P ops Q (Mem gS) L A l' k' a w) : wpT P ops Q (Mem gS) L A l k a w :=
  vrunT_wpT hτ (hNq hN) l k sq st True c' l' k' h hc a w H kk
end
end Go.Proofs.Ytlagngkafllbiaa

/- Calls under a guard. -/
namespace Go.Proofs.Ytlagngkafllbiaa
open Go Go.RowKit
/-- What a known state is made plain by. -/

theorem pk : type_of% (And.intro @eq_self.{1} <| And.intro @Bool.not_true <| And.intro @Bool.not_false <| And.intro @cond_true.{1} <| And.intro @cond_false.{1} <| And.intro @List.cons_append.{0} <| And.intro @List.nil_append.{0} <| And.intro @List.append_nil.{0} <| And.intro @List.length_cons.{0} <| And.intro @List.length_nil.{0} <| And.intro @List.length_append.{0} <| And.intro @Nat.zero_add <| And.intro @Nat.add_zero <| And.intro @List.set_cons_zero.{0} <| And.intro @List.set_cons_succ.{0} <| And.intro @List.getElem?_cons_zero.{0} <| And.intro @List.getElem?_cons_succ.{0} <| And.intro @or_self <| And.intro @or_false <| And.intro @false_or <| And.intro @decide_true <| And.intro @decide_false <| And.intro @List.map_cons.{0, 0} <| And.intro @List.map_nil.{0, 0} <| And.intro @Int.toNat_natCast <| And.intro @Option.some.injEq.{0} <| And.intro @List.filter_cons.{0} <| And.intro @List.filter_nil.{0} <| And.intro @List.contains_cons.{0} <| And.intro @List.contains_nil.{0} <| And.intro @Bool.or_self <| And.intro @Bool.or_false <| And.intro @Bool.false_or <| And.intro @Bool.or_true <| And.intro @Bool.true_or <| And.intro @Bool.false_eq_true <| And.intro @List.take_succ_cons.{0} <| And.intro @List.take_zero.{0} <| And.intro @List.take_nil.{0} <| And.intro @rep1 <| And.intro @rep2 <| And.intro @rep3 <| And.intro @rep4 <| And.intro @rep5 <| And.intro @UInt8.ofNat_toNat <| And.intro @wrapu8 <| And.intro @wrapu16 <| And.intro @wrapu32 <| And.intro @wrapu64 <| And.intro @Nat.min_def <| And.intro @sub_refl <| And.intro @List.getD_nil.{0} <| And.intro @List.getD_cons_zero.{0} <| And.intro @List.getD_cons_succ.{0} <| And.intro @List.drop_succ_cons.{0} <| And.intro @List.drop_nil.{0} <| And.intro @Option.bind_some.{0, 0} <| And.intro @Option.bind_none.{0, 0} <| And.intro @Option.getD_some.{0} <| And.intro @Nat.sub_zero <| And.intro @Nat.sub_self <| And.intro @Nat.add_sub_cancel_left <| And.intro @Bool.and_self <| And.intro @Bool.and_true <| And.intro @Bool.true_and <| And.intro @List.all_cons.{0} <| And.intro @List.all_nil.{0} <| And.intro @Option.map_some.{0, 0} <| And.intro @Option.map_none.{0, 0} <| And.intro @Int.toNat_zero <| And.intro @List.drop_zero.{0} <| And.intro @List.take_length.{0} <| And.intro @and_self <| And.intro @and_true <| And.intro @true_and <| @implies_true.{0}) :=
  And.intro @eq_self.{1} <| And.intro @Bool.not_true <| And.intro @Bool.not_false <| And.intro @cond_true.{1} <| And.intro @cond_false.{1} <| And.intro @List.cons_append.{0} <| And.intro @List.nil_append.{0} <| And.intro @List.append_nil.{0} <| And.intro @List.length_cons.{0} <| And.intro @List.length_nil.{0} <| And.intro @List.length_append.{0} <| And.intro @Nat.zero_add <| And.intro @Nat.add_zero <| And.intro @List.set_cons_zero.{0} <| And.intro @List.set_cons_succ.{0} <| And.intro @List.getElem?_cons_zero.{0} <| And.intro @List.getElem?_cons_succ.{0} <| And.intro @or_self <| And.intro @or_false <| And.intro @false_or <| And.intro @decide_true <| And.intro @decide_false <| And.intro @List.map_cons.{0, 0} <| And.intro @List.map_nil.{0, 0} <| And.intro @Int.toNat_natCast <| And.intro @Option.some.injEq.{0} <| And.intro @List.filter_cons.{0} <| And.intro @List.filter_nil.{0} <| And.intro @List.contains_cons.{0} <| And.intro @List.contains_nil.{0} <| And.intro @Bool.or_self <| And.intro @Bool.or_false <| And.intro @Bool.false_or <| And.intro @Bool.or_true <| And.intro @Bool.true_or <| And.intro @Bool.false_eq_true <| And.intro @List.take_succ_cons.{0} <| And.intro @List.take_zero.{0} <| And.intro @List.take_nil.{0} <| And.intro @rep1 <| And.intro @rep2 <| And.intro @rep3 <| And.intro @rep4 <| And.intro @rep5 <| And.intro @UInt8.ofNat_toNat <| And.intro @wrapu8 <| And.intro @wrapu16 <| And.intro @wrapu32 <| And.intro @wrapu64 <| And.intro @Nat.min_def <| And.intro @sub_refl <| And.intro @List.getD_nil.{0} <| And.intro @List.getD_cons_zero.{0} <| And.intro @List.getD_cons_succ.{0} <| And.intro @List.drop_succ_cons.{0} <| And.intro @List.drop_nil.{0} <| And.intro @Option.bind_some.{0, 0} <| And.intro @Option.bind_none.{0, 0} <| And.intro @Option.getD_some.{0} <| And.intro @Nat.sub_zero <| And.intro @Nat.sub_self <| And.intro @Nat.add_sub_cancel_left <| And.intro @Bool.and_self <| And.intro @Bool.and_true <| And.intro @Bool.true_and <| And.intro @List.all_cons.{0} <| And.intro @List.all_nil.{0} <| And.intro @Option.map_some.{0, 0} <| And.intro @Option.map_none.{0, 0} <| And.intro @Int.toNat_zero <| And.intro @List.drop_zero.{0} <| And.intro @List.take_length.{0} <| And.intro @and_self <| And.intro @and_true <| And.intro @true_and <| @implies_true.{0}
theorem cd {c : Prop} (h : c := by ((repeat' (apply And.intro)) <;> first | exact True.intro | assumption | omega | (intro hg; simp at hg; omega) | (intro hg; simp at hg; (repeat' (apply And.intro)) <;> first | omega | (simp; omega)) | (simp; done) | (simp; omega) | (simp [ilo, ihi, IntKind.bits]; omega) | (simp [fit, AV.put]; done) | (simp [fit, AV.put]; omega))) : c := h
section
variable {P : Program} {τ : Tab} {w0 w : World} {N : Gh} {g gS : Gh} {st st' sq sq' : St} {nt : Nat} {a : Act}
def cargsG (st : St) (c : Gd) (js ks : List Nat) (xs : List Operand) : List AV := xs.map fun x => ren (idx? js) (idx? ks) 4 (st.ev c x)
theorem cargs_okG {c : Gd} (hg : gholds a c) (HI : Inv P w0 N g st.bx st.fz st.rw w) (hF : FR g nt st a) {js ks : List Nat} (hj : ∀ j ∈ js, j < st.bx.length) (hk : ∀ k ∈ ks, k < st.rw.length) {xs : List Operand} {args : List AV} (hx : xs.all (fun x => argOk js (st.ev c x)) = true) (ha : allP (sub 4) (cargsG st c js ks xs) args) :
    args.length = xs.length ∧ ∀ (i : Nat) x v, args[i]? = some x → (xs.map a.eval)[i]? = some v → RV (g.pick js ks) x v := by
  obtain ⟨h1, h2⟩ := allP_get ha
  refine ⟨by rw [← h1]; simp [cargsG], fun i x v hi hv => ?_⟩
  obtain ⟨y, hy, hs⟩ := h2 i x hi
  unfold cargsG at hy
  rw [List.getElem?_map] at hy hv
  obtain ⟨o, ho, rfl⟩ := Option.map_eq_some_iff.1 hy
  rw [ho] at hv
  simp only [Option.map_some, Option.some.injEq] at hv
  subst hv
  have hc := List.all_eq_true.1 hx o (List.mem_of_getElem? ho)
  simp only [argOk, Bool.and_eq_true, Bool.not_eq_true'] at hc
  have hr := ev_sound hF hg o
  have hlr : g.rw.length = st.rw.length := by rw [← HI.wr, List.length_map]
  have hp := hr.pick_ (js := js) (ks := ks) (d := 3) (fun j hm => by rw [HI.br.len]; exact hj j hm) (fun k hm => by rw [hlr]; exact hk k hm) hc.1.1
  have ht : ∀ az, st.ev c o ≠ .tup az := fun az e => by rw [e] at hc; simp at hc
  exact ((hp.rv1 (ren_any hc.1.2) (ren_tup ht)).sub_ hs).rv
/-- A call under a guard that leaves boxes and rows as they are. -/
theorem v_callG {ops : Array Oper} {Q : Exit → Act → World → Prop} {rest : List Oper} {o : Oper} {f : FuncId} {xs : List Operand} {ats : Array TypeId} {bxc bx' : List (Ty × AV)} {fzc fz' : List Nat} {rwc rw' : List (TypeId × Nat)} {args : List AV} {res : AV} {c : Gd} (js ks : List Nat)
    (hc : VX P f bxc fzc rwc args bx' fz' rw' res) (H : Rel P w0 N nt st a w)
    (hgd : gdOf ops o = some c) (ho : o.op = .call ⟨.value (.func f), xs.toArray, ats⟩) (hchk : (okSel js st.bx.length && okSel ks st.rw.length && usesB js st.bx && fzOk js st.fz fzc 0 && xs.all (fun x => argOk js (st.ev c x)) && uses some 4 res && bx'.all (fun x => uses some 4 x.2) && okDst nt c o.dst) = true)
    (hb : bxs (pickB js ks st.bx) bxc) (hr : ks.filterMap (st.rw[·]?) = rwc) (ha : allP (sub 4) (cargsG st c js ks xs) args)
    (hmb : mergeL st.bx js (renB js ks st.bx.length st.rw.length bx') = st.bx) (hmf : fz'.map (nth js st.bx.length) = []) (hmr : mergeL st.rw ks rw' = st.rw)
    (k : ∀ a w, Rel P w0 N nt (st.put o.dst c (ren (fun k => some (nth js st.bx.length k)) (fun k => some (nth ks st.rw.length k)) 4 res)) a w → wpList P ops Q rest a w) : wpList P ops Q (o :: rest) a w := by
  obtain ⟨hfok, hcall⟩ := hc
  obtain ⟨g, HI, hF⟩ := H
  simp only [Bool.and_eq_true] at hchk
  obtain ⟨⟨⟨⟨⟨⟨⟨c1, c2⟩, c3⟩, c4⟩, c5⟩, c6⟩, c7⟩, c8⟩ := hchk
  obtain ⟨hj, nj⟩ := okSel_ok c1
  obtain ⟨hk, nk⟩ := okSel_ok c2
  refine wpList_step fun K hK => ?_
  by_cases hw : Region.wanted o (yielded ops a.tmps) = true
  · rw [if_pos hw]
    obtain ⟨h1, h2⟩ := cargs_okG ((gdOf_wanted hgd).1 hw) HI hF hj hk c5 ha
    unfold Oper.wp
    rw [run_callF hfok xs ats ho w, Oper.upon_enter]
    have HP : Inv P w (g.pick js ks) (g.pick js ks) bxc fzc rwc w := HI.pick js ks hj hk nj nk (usesB_ok c3) hb (fun i j hi hm => by simpa using fzOk_ok c4 i j hi hm) hr
      ⟨Kept.refl _ _, fun i x hx => .inr ⟨x, hx, rfl⟩, fun i r k hr hrk => .inr ⟨r, hr, hrk⟩, fun _ _ _ _ => rfl, Gh.le.refl _⟩
    refine (hcall w (g.pick js ks) (xs.map a.eval) HP (by simp [h1]) h2).mono fun e w' hp => ?_
    obtain ⟨g1, v, rfl, HI1, hv⟩ := hp
    obtain ⟨k1, k2, k3, k4⟩ := HI.call HI1 hj hk nj nk (fun x hx => List.all_eq_true.1 c7 x hx)
    have hv' := hv.ren_ (g1 := g1) (g2 := ⟨g1.ro, mergeL g.bx js g1.bx, mergeL g.rw ks g1.rw⟩) (fb := fun k => some (nth js st.bx.length k)) (fr := fun k => some (nth ks st.rw.length k)) (d := 3) rfl (fun i j x hij hx => by injection hij with hij; subst hij; exact k3 i x hx) (fun i j x hij hx => by injection hij with hij; subst hij; exact k4 i x hx) (uses_some c6)
    rw [hmb, hmf, hmr, List.append_nil] at k2
    refine hK _ _ (k _ _ ⟨_, ?_, (hF.mono k1).put c8 (fun _ => hv') rfl (fun h => absurd ((gdOf_wanted hgd).1 hw) h)⟩)
    cases o.dst <;> exact k2
  · rw [if_neg hw]
    refine hK _ _ (k _ _ ⟨g, ?_, hF.put c8 (fun hg => absurd ((gdOf_wanted hgd).2 hg) hw) rfl (fun _ => rfl)⟩)
    cases o.dst <;> exact HI
/-- The same where the order is drawn. -/
theorem v_callTG {ops : Array Oper} {Q : Exit → Act → World → Prop} {L A : List Nat} {k : Nat} {rest : List Oper} {o : Oper} {f : FuncId} {xs : List Operand} {ats : Array TypeId} {bxc bx' : List (Ty × AV)} {fzc fz' : List Nat} {rwc rw' : List (TypeId × Nat)} {args : List AV} {res : AV} {c : Gd} (js ks : List Nat)
    (hc : VX P f bxc fzc rwc args bx' fz' rw' res) (H : RelT P w0 N nt gS sq st a w) (hL : L.contains k = true) (hjs : js.all (fun j => decide (sq.bx.length ≤ j)) = true)
    (hgd : gdOf ops o = some c) (ho : o.op = .call ⟨.value (.func f), xs.toArray, ats⟩) (hchk : (okSel js st.bx.length && okSel ks st.rw.length && usesB js st.bx && fzOk js st.fz fzc 0 && xs.all (fun x => argOk js (st.ev c x)) && uses some 4 res && bx'.all (fun x => uses some 4 x.2) && okDst nt c o.dst) = true)
    (hb : bxs (pickB js ks st.bx) bxc) (hr : ks.filterMap (st.rw[·]?) = rwc) (ha : allP (sub 4) (cargsG st c js ks xs) args)
    (hmb : mergeL st.bx js (renB js ks st.bx.length st.rw.length bx') = st.bx) (hmf : fz'.map (nth js st.bx.length) = []) (hmr : mergeL st.rw ks rw' = st.rw)
    (kk : ∀ a w, RelT P w0 N nt gS (sq.lose o.dst) (st.put o.dst c (ren (fun k => some (nth js st.bx.length k)) (fun k => some (nth ks st.rw.length k)) 4 res)) a w → wpT P ops Q (Mem gS) L A rest (k + 1) a w) : wpT P ops Q (Mem gS) L A (o :: rest) k a w := by
  obtain ⟨hfok, hcall⟩ := hc
  obtain ⟨hM, hrw, hFq, hBq, g, HI, hF, hle, hbs⟩ := H
  simp only [Bool.and_eq_true] at hchk
  obtain ⟨⟨⟨⟨⟨⟨⟨c1, c2⟩, c3⟩, c4⟩, c5⟩, c6⟩, c7⟩, c8⟩ := hchk
  obtain ⟨hj, nj⟩ := okSel_ok c1
  obtain ⟨hk, nk⟩ := okSel_ok c2
  unfold wpT
  by_cases hw : Region.wanted o (yielded ops a.tmps) = true
  · rw [if_pos hw, if_pos hL]
    obtain ⟨h1, h2⟩ := cargs_okG ((gdOf_wanted hgd).1 hw) HI hF hj hk c5 ha
    unfold Oper.wp
    rw [run_callF hfok xs ats ho w, Oper.upon_enter]
    have HP : Inv P w (g.pick js ks) (g.pick js ks) bxc fzc rwc w := HI.pick js ks hj hk nj nk (usesB_ok c3) hb (fun i j hi hm => by simpa using fzOk_ok c4 i j hi hm) hr
      ⟨Kept.refl _ _, fun i x hx => .inr ⟨x, hx, rfl⟩, fun i r k hr hrk => .inr ⟨r, hr, hrk⟩, fun _ _ _ _ => rfl, Gh.le.refl _⟩
    refine (hcall w (g.pick js ks) (xs.map a.eval) HP (by simp [h1]) h2).mono fun e w' hp => ?_
    obtain ⟨g1, v, rfl, HI1, hv⟩ := hp
    obtain ⟨k1, k2, k3, k4⟩ := HI.call HI1 hj hk nj nk (fun x hx => List.all_eq_true.1 c7 x hx)
    have hv' := hv.ren_ (g1 := g1) (g2 := ⟨g1.ro, mergeL g.bx js g1.bx, mergeL g.rw ks g1.rw⟩) (fb := fun k => some (nth js st.bx.length k)) (fr := fun k => some (nth ks st.rw.length k)) (d := 3) rfl (fun i j x hij hx => by injection hij with hij; subst hij; exact k3 i x hx) (fun i j x hij hx => by injection hij with hij; subst hij; exact k4 i x hx) (uses_some c6)
    have hbs' : Bs gS ⟨g1.ro, mergeL g.bx js g1.bx, mergeL g.rw ks g1.rw⟩ := fun i x hx => by
      obtain ⟨y, h3, h4⟩ := hbs i x hx
      refine ⟨y, merge_old (fun hm => ?_) h3, h4⟩
      have h5 := List.all_eq_true.1 hjs i hm
      simp only [decide_eq_true_eq] at h5
      have h6 := (List.getElem?_eq_some_iff.1 hx).1
      rw [hBq.len] at h6; omega
    rw [hmb, hmf, hmr, List.append_nil] at k2
    have hM' := MemS (st := st) hM hrw k2 (hle.trans k1) hbs'
    refine ⟨hM', kk _ _ ⟨hM', hrw, hFq.lose v, by rw [lose_bx]; exact hBq, _, ?_, (hF.mono k1).put c8 (fun _ => hv') rfl (fun h => absurd ((gdOf_wanted hgd).1 hw) h), hle.trans k1, hbs'⟩⟩
    rw [(put_bx _ _ _ _).1, (put_bx _ _ _ _).2.1, (put_bx _ _ _ _).2.2]
    exact k2
  · rw [if_neg hw]
    exact kk _ _ ⟨hM, hrw, hFq.lose undef, by rw [lose_bx]; exact hBq, g, by rw [(put_bx _ _ _ _).1, (put_bx _ _ _ _).2.1, (put_bx _ _ _ _).2.2]; exact HI, hF.put c8 (fun hg => absurd ((gdOf_wanted hgd).2 hg) hw) rfl (fun _ => rfl), hle, hbs⟩
end
end Go.Proofs.Ytlagngkafllbiaa

/- Guards that are known to hold; pointers to what changes no more. -/
namespace Go.Proofs.Ytlagngkafllbiaa
open Go Go.RowKit
section
variable {P : Program} {τ : Tab} {w0 w : World} {N : Gh} {g gS : Gh} {st st' sq sq' : St} {nt : Nat} {a : Act}
theorem cd2 {c : Prop} (h : c := by ((repeat' (apply And.intro)) <;> (intros; first | omega | (simp at *; omega) | (simp_all; done) | (simp_all; omega)))) : c := h
theorem not_wanted {ops : Array Oper} {o : Oper} {t : Nat} {b : Bool} (hF : FR g nt st a) (hgd : gdOf ops o = some (some (t, b))) (hk : st.tmp none t = .v (.bool (!b))) : ¬ Region.wanted o (yielded ops a.tmps) = true := fun hw => by
  have h1 := tmp_sound hF (c := none) trivial t
  rw [hk] at h1
  have h2 : a.tmps.getD t undef = .bool b := (gdOf_wanted hgd).1 hw
  rw [h1.v_inv] at h2
  injection h2 with h2
  cases b <;> cases h2
theorem v_skipT {ops : Array Oper} {Q : Exit → Act → World → Prop} {L A : List Nat} {i : Nat} {rest : List Oper} {o : Oper} {t : Nat} {b : Bool} (r : AV) (H : RelT P w0 N nt gS sq st a w) (hgd : gdOf ops o = some (some (t, b))) (hk : st.tmp none t = .v (.bool (!b))) (hd : okDst nt (some (t, b)) o.dst = true)
    (kk : ∀ a w, RelT P w0 N nt gS (sq.lose o.dst) (st.put o.dst (some (t, b)) r) a w → wpT P ops Q (Mem gS) L A rest (i + 1) a w) : wpT P ops Q (Mem gS) L A (o :: rest) i a w := by
  obtain ⟨hM, hrw, hFq, hBq, g, HI, hF, hle, hbs⟩ := H
  have hw := not_wanted hF hgd hk
  unfold wpT
  rw [if_neg hw]
  exact kk _ _ ⟨hM, hrw, hFq.lose undef, by rw [lose_bx]; exact hBq, g, by rw [(put_bx _ _ _ _).1, (put_bx _ _ _ _).2.1, (put_bx _ _ _ _).2.2]; exact HI, hF.put hd (fun hg => absurd ((gdOf_wanted hgd).2 hg) hw) rfl (fun _ => rfl), hle, hbs⟩
/-- A box that changes no more: a pointer to it is one to what stays for ever. -/
theorem v_ref (H : Rel P w0 N nt st a w) (d i : Nat) {T : Ty} {x : AV} (hN : N.bx.length ≤ i) (hb : st.bx[i]? = some (T, x)) (hp : pure_ 4 x = true) (hd : find d st.t = some (none, .ptr i [])) :
    Rel P w0 N nt ⟨nilT d (.ref T (strip 4 x)) st.t, st.bx, i :: st.fz, st.rw⟩ a w := by
  obtain ⟨g, HI, hF⟩ := H
  obtain ⟨y, hy, hT, hrc⟩ := HI.br.at_ i T x hb
  obtain ⟨g1, l1, I1, ⟨y', hy', hblk, hcells, hty⟩, hro⟩ := HI.freeze hy hN
  refine ⟨g1, I1, (hF.mono l1.1).sz, hF.df, fun p hp' hg => ?_, fun p hp hg => by rcases nilT_mem hp with h | h; (subst h; exact absurd trivial hg); exact hF.u p h hg⟩
  rcases nilT_mem hp' with h | h
  · subst h
    have h1 := (hF.t _ (find_mem hd) trivial).ptr_inv
    have hv : a.tmps.getD d undef = .pointer (some ⟨y.blk, 0, none⟩) := by
      generalize a.tmps.getD d undef = u at h1
      cases h1 with
      | ptr h ho =>
        rw [hy] at h
        injection h with h
        subst h
        simp only [Ty.loc, Option.some.injEq, Prod.mk.injEq] at ho
        rw [ho.1]
    have : RV g1 (.ref T (strip 4 x)) (a.tmps.getD d undef) := by
      rw [hv]
      exact (RC.ref (g := g1) y.cells ((hrc.mono l1.1).strip_ hp) (fun j u hu => by rw [Nat.zero_add]; exact hro j u hu)).rvp
    exact this
  · exact (hF.mono l1.1).t p h hg
/-- A window on a whole array of bytes that changes no more: bytes with their room. -/
theorem v_bc (H : Rel P w0 N nt st a w) (d i : Nat) {m n : Nat} {l : List UInt8} (hN : N.bx.length ≤ i) (hb : st.bx[i]? = some (.ba m, .ba l)) (hm : 0 < m) (hd : find d st.t = some (none, .win i [] 0 n)) :
    Rel P w0 N nt ⟨nilT d (.bc l n (some i)) st.t, st.bx, i :: st.fz, st.rw⟩ a w := by
  obtain ⟨g, HI, hF⟩ := H
  obtain ⟨y, hy, hT, hrc⟩ := HI.br.at_ i _ _ hb
  obtain ⟨g1, l1, I1, ⟨y', hy', hblk, hcells, hty⟩, hro⟩ := HI.freeze hy hN
  have hc : y.cells = l.map B8 ∧ l.length = m := by
    generalize y.cells = cs at hrc
    cases hrc with
    | ba h => exact ⟨rfl, h⟩
  refine ⟨g1, I1, (hF.mono l1.1).sz, hF.df, fun p hp' hg => ?_, fun p hp hg => by rcases nilT_mem hp with h | h; (subst h; exact absurd trivial hg); exact hF.u p h hg⟩
  rcases nilT_mem hp' with h | h
  · subst h
    have h1 := (hF.t _ (find_mem hd) trivial).win_inv
    have : RV g1 (.bc l n (some i)) (a.tmps.getD d undef) := by
      generalize a.tmps.getD d undef = u at h1
      cases h1 with
      | win h ho hn hc2 hm2 hA =>
        rw [hy] at h
        injection h with h
        subst h
        rw [hT] at ho
        simp only [Ty.loc, Option.some.injEq, Prod.mk.injEq, Ty.ba.injEq] at ho
        obtain ⟨rfl, rfl⟩ := ho
        rw [Nat.zero_add] at hn
        subst hn
        rcases hA with hA | hA
        · omega
        · rw [hA]
          have e := RC.bc (g := g1) (l := l) (n := n) (tok := some i) (A := some ⟨y.blk, 0, none⟩) (by rw [hc.2]; exact hc2) (by rw [hc.2]; exact hm2) (.inr ⟨y.blk, 0, rfl, fun j hj => by rw [Nat.zero_add]; exact hro j _ (by rw [hc.1]; simp [hj])⟩)
            (fun k hk => by injection hk with hk; subst hk; exact ⟨y', hy', by rw [hblk], by rw [hty, hT, hc.2]⟩)
          rw [hc.2] at e
          exact e.rvp
    exact this
  · exact (hF.mono l1.1).t p h hg
/-- A few steps. -/
theorem v_some {ops : Array Oper} {Q : Exit → Act → World → Prop} {q : Nat} {o : Oper} {l : List Oper} {c' : Prop} (n : Nat) (hτ : τ.ok P) (hN : N.bx.length ≤ q) (H : Rel P w0 N nt st a w) (h : vrun τ (some q) nt ops ((o :: l).take n) st True = (st', c', [])) (hc : c')
    (k : ∀ a w, Rel P w0 N nt st' a w → wpList P ops Q ((o :: l).drop n) a w) : wpList P ops Q (o :: l) a w := v_steps n hτ hN H h hc k
theorem v_someT {ops : Array Oper} {Q : Exit → Act → World → Prop} {L A : List Nat} {q k k' : Nat} {o : Oper} {l : List Oper} {c' : Prop} (n : Nat) (hτ : τ.ok P) (hN : N.bx.length ≤ q) (H : RelT P w0 N nt gS sq st a w) (h : vrunT τ (some q) nt ops L A ((o :: l).take n) k sq st True = (sq', st', c', [], k')) (hc : c')
    (kk : ∀ a w, RelT P w0 N nt gS sq' st' a w → wpT P ops Q (Mem gS) L A ((o :: l).drop n) k' a w) : wpT P ops Q (Mem gS) L A (o :: l) k a w := by
  have key : ∀ (l1 l2 : List Oper) (k : Nat) (sq st : St) (c : Prop), vrunT τ (some q) nt ops L A l1 k sq st c = (sq', st', c', [], k') → c' → ∀ a w, RelT P w0 N nt gS sq st a w → (∀ a w, RelT P w0 N nt gS sq' st' a w → wpT P ops Q (Mem gS) L A l2 k' a w) → wpT P ops Q (Mem gS) L A (l1 ++ l2) k a w := by
    intro l1 l2
    induction l1 with
    | nil => intro k sq st c h _ a w H kk; simp only [vrunT, Prod.mk.injEq] at h; obtain ⟨rfl, rfl, _, _, rfl⟩ := h; exact kk _ _ H
    | cons o l1 ih =>
      intro k sq st c h hc a w H kk
      unfold vrunT at h
      split at h
      · rename_i sq1 st1 cd1 hs
        have hc1 : cd1 := by have := vrunT_conds (τ := τ) (nt := nt) (md := some q) (ops := ops) (L := L) (A := A) l1 (k + 1) sq1 st1 (c ∧ cd1); rw [h] at this; exact (this hc).2
        exact vstepT_wpT hτ (hNq hN) hs hc1 H fun a w H' => ih (k + 1) sq1 st1 _ h hc a w H' kk
      · simp at h
  have := key ((o :: l).take n) ((o :: l).drop n) k sq st True h hc a w H kk
  rwa [List.take_append_drop] at this
end
theorem cb {c : Prop} (h : c := by (simp [pickB, bxs, ren, idx?, sub_refl, sub, allP] <;> omega)) : c := h
theorem cw {c : Prop} (h : c := by (first | rfl | (simp <;> omega))) : c := h
theorem ca {c : Prop} (h : c := by (first | exact trivial | exact ⟨sub_refl _ _, trivial⟩ | exact ⟨sub_refl _ _, sub_refl _ _, trivial⟩ | exact ⟨sub_refl _ _, sub_refl _ _, sub_refl _ _, trivial⟩ | exact ⟨⟨rfl, sub_refl _ _, trivial⟩, sub_refl _ _, trivial⟩ | (simp [cargs, cargsG, St.ev, St.tmp, find, ren, idx?, sub_refl, sub, allP, resv, resC, bss] <;> omega))) : c := h
end Go.Proofs.Ytlagngkafllbiaa
/- Bits in bytes, the highest first. -/
namespace Go.Proofs.Ytlagngkafllbiaa
open Go Go.RowKit
def b8 (f : Nat → Bool) : UInt8 := (if f 0 then 128 else 0) ||| (if f 1 then 64 else 0) ||| (if f 2 then 32 else 0) ||| (if f 3 then 16 else 0) ||| (if f 4 then 8 else 0) ||| (if f 5 then 4 else 0) ||| (if f 6 then 2 else 0) ||| (if f 7 then 1 else 0)
def bitsB (n : Nat) (f : Nat → Bool) : List UInt8 := (List.range ((n + 7) / 8)).map fun j => b8 fun k => f (8 * j + k)
theorem bitsB_len (n : Nat) (f : Nat → Bool) : (bitsB n f).length = (n + 7) / 8 := by simp [bitsB]
theorem b8_congr {f g : Nat → Bool} (h : ∀ i, i < 8 → f i = g i) : b8 f = b8 g := by
  unfold b8; rw [h 0 (by decide), h 1 (by decide), h 2 (by decide), h 3 (by decide), h 4 (by decide), h 5 (by decide), h 6 (by decide), h 7 (by decide)]
def b8x (x0 x1 x2 x3 x4 x5 x6 x7 : Bool) : UInt8 := (if x0 then 128 else 0) ||| (if x1 then 64 else 0) ||| (if x2 then 32 else 0) ||| (if x3 then 16 else 0) ||| (if x4 then 8 else 0) ||| (if x5 then 4 else 0) ||| (if x6 then 2 else 0) ||| (if x7 then 1 else 0)
theorem b8_x (f : Nat → Bool) : b8 f = b8x (f 0) (f 1) (f 2) (f 3) (f 4) (f 5) (f 6) (f 7) := rfl
set_option maxRecDepth 100000 in
theorem b8x_set : ∀ x0 x1 x2 x3 x4 x5 x6 x7 : Bool, (b8x x0 x1 x2 x3 x4 x5 x6 x7 ||| 128 = b8x true x1 x2 x3 x4 x5 x6 x7) ∧ (b8x x0 x1 x2 x3 x4 x5 x6 x7 ||| 64 = b8x x0 true x2 x3 x4 x5 x6 x7) ∧ (b8x x0 x1 x2 x3 x4 x5 x6 x7 ||| 32 = b8x x0 x1 true x3 x4 x5 x6 x7) ∧ (b8x x0 x1 x2 x3 x4 x5 x6 x7 ||| 16 = b8x x0 x1 x2 true x4 x5 x6 x7)
    ∧ (b8x x0 x1 x2 x3 x4 x5 x6 x7 ||| 8 = b8x x0 x1 x2 x3 true x5 x6 x7) ∧ (b8x x0 x1 x2 x3 x4 x5 x6 x7 ||| 4 = b8x x0 x1 x2 x3 x4 true x6 x7) ∧ (b8x x0 x1 x2 x3 x4 x5 x6 x7 ||| 2 = b8x x0 x1 x2 x3 x4 x5 true x7) ∧ (b8x x0 x1 x2 x3 x4 x5 x6 x7 ||| 1 = b8x x0 x1 x2 x3 x4 x5 x6 true) := by decide +kernel
theorem b8_set (f : Nat → Bool) (m : Nat) (hm : m < 8) : b8 f ||| UInt8.ofNat (128 / 2 ^ m) = b8 fun k => f k || decide (k = m) := by
  obtain ⟨h0, h1, h2, h3, h4, h5, h6, h7⟩ := b8x_set (f 0) (f 1) (f 2) (f 3) (f 4) (f 5) (f 6) (f 7)
  rw [b8_x, b8_x]
  match m, hm with
  | 0, _ => simpa using h0
  | 1, _ => simpa using h1
  | 2, _ => simpa using h2
  | 3, _ => simpa using h3
  | 4, _ => simpa using h4
  | 5, _ => simpa using h5
  | 6, _ => simpa using h6
  | 7, _ => simpa using h7
/-- A bit of a byte. -/
def bitAt (c : UInt8) (m : Nat) : Bool := (c &&& UInt8.ofNat (128 / 2 ^ m)) != 0
set_option maxRecDepth 100000 in
theorem b8x_get : ∀ x0 x1 x2 x3 x4 x5 x6 x7 : Bool, bitAt (b8x x0 x1 x2 x3 x4 x5 x6 x7) 0 = x0 ∧ bitAt (b8x x0 x1 x2 x3 x4 x5 x6 x7) 1 = x1 ∧ bitAt (b8x x0 x1 x2 x3 x4 x5 x6 x7) 2 = x2 ∧ bitAt (b8x x0 x1 x2 x3 x4 x5 x6 x7) 3 = x3
    ∧ bitAt (b8x x0 x1 x2 x3 x4 x5 x6 x7) 4 = x4 ∧ bitAt (b8x x0 x1 x2 x3 x4 x5 x6 x7) 5 = x5 ∧ bitAt (b8x x0 x1 x2 x3 x4 x5 x6 x7) 6 = x6 ∧ bitAt (b8x x0 x1 x2 x3 x4 x5 x6 x7) 7 = x7 := by decide +kernel
theorem b8_get (f : Nat → Bool) (m : Nat) (hm : m < 8) : bitAt (b8 f) m = f m := by
  obtain ⟨h0, h1, h2, h3, h4, h5, h6, h7⟩ := b8x_get (f 0) (f 1) (f 2) (f 3) (f 4) (f 5) (f 6) (f 7)
  rw [b8_x]
  match m, hm with
  | 0, _ => exact h0
  | 1, _ => exact h1
  | 2, _ => exact h2
  | 3, _ => exact h3
  | 4, _ => exact h4
  | 5, _ => exact h5
  | 6, _ => exact h6
  | 7, _ => exact h7
theorem bitsB_get (n : Nat) (f : Nat → Bool) (j : Nat) (hj : j < (n + 7) / 8) : (bitsB n f).getD j 0 = b8 fun k => f (8 * j + k) := by
  simp [bitsB, List.getD, List.getElem?_range, hj]
theorem bitsB_bit (n : Nat) (f : Nat → Bool) (t : Nat) (ht : t < n) : bitAt ((bitsB n f).getD (t / 8) 0) (t % 8) = f t := by
  rw [bitsB_get n f _ (by omega), b8_get _ _ (by omega)]
  congr 1; omega
theorem bitsB_congr {n : Nat} {f g : Nat → Bool} (h : ∀ t, t < 8 * ((n + 7) / 8) → f t = g t) : bitsB n f = bitsB n g := by
  unfold bitsB
  refine List.map_congr_left fun j hj => ?_
  have hj := List.mem_range.1 hj
  exact b8_congr fun i hi => h _ (by omega)
theorem bitsB_zero (n : Nat) (f : Nat → Bool) : List.replicate ((n + 7) / 8) 0 = bitsB n (fun t => decide (t < 0) && f t) := by
  unfold bitsB
  rw [List.map_congr_left (g := fun _ => (0 : UInt8)) (fun j _ => by simp [b8]), List.map_const', List.length_range]
theorem u8_or_of (x y : Nat) (hx : x < 256) (hy : y < 256) : UInt8.ofNat (bits .or .u8 (x : Int) (y : Int)).toNat = UInt8.ofNat x ||| UInt8.ofNat y := by
  rw [u8_or_nat x y hx hy, Int.toNat_natCast]
  apply UInt8.toNat_inj.1
  rw [UInt8.toNat_or, UInt8.toNat_ofNat', UInt8.toNat_ofNat', UInt8.toNat_ofNat', Nat.mod_eq_of_lt hx, Nat.mod_eq_of_lt hy, Nat.mod_eq_of_lt]
  exact Nat.or_lt_two_pow (n := 8) (by omega) (by omega)
theorem pow128 (m : Nat) : 128 / 2 ^ m < 256 := Nat.lt_of_le_of_lt (Nat.div_le_self _ _) (by decide)
theorem bit_step (n : Nat) (f : Nat → Bool) (k : Nat) (hk : k < n) (hf : f k = true) :
    (bitsB n fun t => decide (t < k) && f t).set (k / 8) (UInt8.ofNat (bits .or .u8 ((((bitsB n fun t => decide (t < k) && f t).getD (k / 8) 0).toNat : Nat) : Int) (128 / 2 ^ (k % 8))).toNat) = bitsB n fun t => decide (t < k + 1) && f t := by
  have e : (128 / 2 ^ (k % 8) : Int) = ((128 / 2 ^ (k % 8) : Nat) : Int) := by rw [Int.natCast_ediv, Int.natCast_pow]; rfl
  rw [e, u8_or_of _ _ (UInt8.toNat_lt _) (pow128 _), UInt8.ofNat_toNat, bitsB_get n _ _ (by omega), b8_set _ _ (by omega)]
  apply List.ext_getElem
  · rw [List.length_set, bitsB_len, bitsB_len]
  · intro j h1 h2
    rw [bitsB_len] at h2
    rw [List.getElem_set]
    have e2 : (bitsB n fun t => decide (t < k + 1) && f t)[j] = b8 fun i => decide (8 * j + i < k + 1) && f (8 * j + i) := by simp [bitsB]
    rw [e2]
    split
    · rename_i hj
      subst hj
      refine b8_congr fun i hi => ?_
      by_cases hi2 : i = k % 8
      · have h3 : 8 * (k / 8) + i = k := by omega
        rw [h3, hf]; simp [hi2]
      · have : decide (8 * (k / 8) + i < k + 1) = decide (8 * (k / 8) + i < k) := by congr 1; apply propext; omega
        rw [this]; simp [hi2]
    · rename_i hj
      have e3 : (bitsB n fun t => decide (t < k) && f t)[j]'(by rw [bitsB_len]; omega) = b8 fun i => decide (8 * j + i < k) && f (8 * j + i) := by simp [bitsB]
      rw [e3]
      refine b8_congr fun i hi => ?_
      have : decide (8 * j + i < k + 1) = decide (8 * j + i < k) := by congr 1; apply propext; omega
      rw [this]
theorem bit_skip (n : Nat) (f : Nat → Bool) (k : Nat) (hf : f k = false) : (bitsB n fun t => decide (t < k + 1) && f t) = bitsB n fun t => decide (t < k) && f t := by
  refine bitsB_congr fun t ht => ?_
  by_cases h : t = k
  · subst h; simp [hf]
  · have : decide (t < k + 1) = decide (t < k) := by congr 1; apply propext; omega
    rw [this]
theorem or_rng0 (x y : Int) : (0 ≤ bits .or .u8 x y) = True := eq_true (by
  show 0 ≤ IntKind.u8.wrap _
  rw [IntKind.wrap_u8]; omega)
theorem or_rng1 (x y : Int) : (bits .or .u8 x y ≤ 255) = True := eq_true (by
  show IntKind.u8.wrap _ ≤ 255
  rw [IntKind.wrap_u8]; omega)
theorem and_bit (c : UInt8) (m : Nat) : (!decide (bits .and .u8 (c.toNat : Int) (128 / 2 ^ m) = 0)) = bitAt c m := by
  have e : (128 / 2 ^ m : Int) = ((128 / 2 ^ m : Nat) : Int) := by rw [Int.natCast_ediv, Int.natCast_pow]; rfl
  have h : bits .and .u8 (c.toNat : Int) (128 / 2 ^ m) = (((c &&& UInt8.ofNat (128 / 2 ^ m)).toNat : Nat) : Int) := by
    rw [e, u8_and_nat _ _ (UInt8.toNat_lt _) (pow128 _), UInt8.toNat_and, UInt8.toNat_ofNat', Nat.mod_eq_of_lt (pow128 _)]
  rw [h]
  unfold bitAt
  by_cases h0 : c &&& UInt8.ofNat (128 / 2 ^ m) = 0
  · simp [h0]
  · have h1 : (c &&& UInt8.ofNat (128 / 2 ^ m)).toNat ≠ 0 := fun e => h0 (UInt8.toNat_inj.1 (by simpa using e))
    have h2 : (((c &&& UInt8.ofNat (128 / 2 ^ m)).toNat : Nat) : Int) ≠ 0 := by omega
    rw [decide_eq_false h2]; simpa using h0
end Go.Proofs.Ytlagngkafllbiaa
/- Keys as ways down: bits, how many are shared, what rises. In plain Lean. -/
namespace Go.Proofs.Ytlagngkafllbiaa
open Go Go.RowKit
def bitN (p : List UInt8) (d : Nat) : Bool := bitAt (p.getD (d / 8) 0) (d % 8)
def pbit (p : List UInt8) (d : Int) : Int := if 0 ≤ d ∧ d < 256 then (if bitN p d.toNat then 1 else 0) else -1
def comF (p q : List UInt8) : Nat → Nat → Nat
  | 0, d => d
  | f + 1, d => if bitN p d = bitN q d then comF p q f (d + 1) else d
def com (p q : List UInt8) : Nat := comF p q 256 0
def agree (d : Nat) (p q : List UInt8) : Prop := ∀ t, t < d → bitN p t = bitN q t
theorem comF_spec (p q : List UInt8) : ∀ f d, d ≤ comF p q f d ∧ comF p q f d ≤ d + f ∧ (∀ t, d ≤ t → t < comF p q f d → bitN p t = bitN q t) ∧ (comF p q f d < d + f → bitN p (comF p q f d) ≠ bitN q (comF p q f d))
  | 0, d => ⟨Nat.le_refl _, Nat.le_refl _, fun t h1 h2 => by simp only [comF] at h2; omega, fun h => by simp only [comF] at h; omega⟩
  | f + 1, d => by
    have ih := comF_spec p q f (d + 1)
    simp only [comF]
    split
    · rename_i he
      obtain ⟨h1, h2, h3, h4⟩ := ih
      refine ⟨by omega, by omega, fun t ht hl => ?_, fun h => h4 (by omega)⟩
      by_cases htd : t = d
      · subst htd; exact he
      · exact h3 t (by omega) hl
    · rename_i he
      exact ⟨Nat.le_refl _, by omega, fun t h1 h2 => by omega, fun _ => he⟩
theorem com_le (p q : List UInt8) : com p q ≤ 256 := by have := (comF_spec p q 256 0).2.1; simpa [com] using this
theorem com_agree (p q : List UInt8) : agree (com p q) p q := fun t ht => (comF_spec p q 256 0).2.2.1 t (Nat.zero_le _) ht
theorem com_ne (p q : List UInt8) (h : com p q < 256) : bitN p (com p q) ≠ bitN q (com p q) := (comF_spec p q 256 0).2.2.2 (by simpa [com] using h)
theorem com_of {p q : List UInt8} {c : Nat} (hc : c ≤ 256) (h : agree c p q) (hn : c < 256 → bitN p c ≠ bitN q c) : com p q = c := by
  have h1 := com_le p q; have h2 := com_agree p q; have h3 := com_ne p q
  rcases Nat.lt_trichotomy (com p q) c with hl | he | hg
  · exact absurd (h _ hl) (h3 (by omega))
  · exact he
  · exact absurd (h2 _ hg) (hn (by omega))
theorem com_self (p : List UInt8) : com p p = 256 := com_of (Nat.le_refl _) (fun _ _ => rfl) (fun h => absurd h (by decide))
theorem agree.symm {d : Nat} {p q : List UInt8} (h : agree d p q) : agree d q p := fun t ht => (h t ht).symm
theorem agree.trans {d : Nat} {p q r : List UInt8} (h : agree d p q) (k : agree d q r) : agree d p r := fun t ht => (h t ht).trans (k t ht)
set_option maxRecDepth 100000 in
theorem bitAt_test8 : ∀ n : Fin 256, ∀ m : Fin 8, bitAt (UInt8.ofNat n.val) m.val = n.val.testBit (7 - m.val) := by decide +kernel
theorem bitAt_test (c : UInt8) (m : Nat) (hm : m < 8) : bitAt c m = c.toNat.testBit (7 - m) := by
  have := bitAt_test8 ⟨c.toNat, c.toNat_lt⟩ ⟨m, hm⟩
  simpa using this
set_option maxRecDepth 100000 in
theorem lead8 : ∀ n : Fin 256, n.val ≠ 0 → Lib.bitLen n.val ≤ 8 ∧ 8 - Lib.bitLen n.val < 8 ∧ (∀ t : Fin 8, t.val < 8 - Lib.bitLen n.val → bitAt (UInt8.ofNat n.val) t.val = false) ∧ bitAt (UInt8.ofNat n.val) (8 - Lib.bitLen n.val) = true := by decide +kernel
/-- The first bit in which two bytes part. -/
theorem lead_xor (x y : UInt8) (h : x ≠ y) : 8 - Lib.bitLen (x ^^^ y).toNat < 8 ∧ Lib.bitLen (x ^^^ y).toNat ≤ 8 ∧ (∀ t, t < 8 - Lib.bitLen (x ^^^ y).toNat → bitAt x t = bitAt y t) ∧ bitAt x (8 - Lib.bitLen (x ^^^ y).toNat) ≠ bitAt y (8 - Lib.bitLen (x ^^^ y).toNat) := by
  have hx : ∀ m, m < 8 → bitAt (x ^^^ y) m = (bitAt x m ^^ bitAt y m) := fun m hm => by
    rw [bitAt_test _ _ hm, bitAt_test _ _ hm, bitAt_test _ _ hm, UInt8.toNat_xor, Nat.testBit_xor]
  have hne : (x ^^^ y).toNat ≠ 0 := fun e => h (by
    have : x ^^^ y = 0 := UInt8.toNat_inj.1 (by simpa using e)
    exact UInt8.xor_eq_zero_iff.1 this)
  obtain ⟨h1, h2, h3, h4⟩ := lead8 ⟨(x ^^^ y).toNat, (x ^^^ y).toNat_lt⟩ hne
  simp only [UInt8.ofNat_toNat] at h3 h4 h1 h2
  refine ⟨h2, h1, fun t ht => ?_, fun e => ?_⟩
  · have := h3 ⟨t, by omega⟩ ht
    rw [hx t (by omega)] at this
    simpa using this
  · rw [hx _ h2, e] at h4
    simp at h4
/-- The lesser key, by bits. -/
def ltB (p q : List UInt8) : Prop := ∃ c, c < 256 ∧ agree c p q ∧ bitN p c = false ∧ bitN q c = true
theorem ltB.trans {p q r : List UInt8} (h : ltB p q) (k : ltB q r) : ltB p r := by
  obtain ⟨c, hc, h1, h2, h3⟩ := h
  obtain ⟨d, hd, k1, k2, k3⟩ := k
  rcases Nat.lt_trichotomy c d with hl | rfl | hg
  · exact ⟨c, hc, fun t ht => (h1 t ht).trans (k1 t (by omega)), h2, (k1 c hl) ▸ h3⟩
  · rw [h3] at k2; cases k2
  · exact ⟨d, hd, fun t ht => (h1 t (by omega)).trans (k1 t ht), (h1 d hg).trans k2, k3⟩
theorem bitN_cons_lt (x : UInt8) (p : List UInt8) (t : Nat) (h : t < 8) : bitN (x :: p) t = bitAt x t := by
  unfold bitN; rw [Nat.div_eq_of_lt h, Nat.mod_eq_of_lt h]; rfl
theorem bitN_cons_ge (x : UInt8) (p : List UInt8) (t : Nat) : bitN (x :: p) (t + 8) = bitN p t := by
  unfold bitN; rw [Nat.add_div_right _ (by decide), Nat.add_mod_right]; rfl
theorem agree_all : ∀ p q : List UInt8, p.length = q.length → agree (8 * p.length) p q → p = q
  | [], [], _, _ => rfl
  | [], _ :: _, h, _ => by cases h
  | _ :: _, [], h, _ => by cases h
  | x :: p, y :: q, h, ha => by
    have hl : p.length = q.length := by simpa using h
    have e := agree_all p q hl fun t ht => by
      have := ha (t + 8) (by rw [List.length_cons]; omega)
      rwa [bitN_cons_ge, bitN_cons_ge] at this
    by_cases hx : x = y
    · rw [e, hx]
    · exfalso
      obtain ⟨l1, l2, l3, l4⟩ := lead_xor x y hx
      have := ha (8 - Lib.bitLen (x ^^^ y).toNat) (by rw [List.length_cons]; omega)
      rw [bitN_cons_lt _ _ _ l1, bitN_cons_lt _ _ _ l1] at this
      exact l4 this
theorem agree_eq {p q : List UInt8} (hp : p.length = 32) (hq : q.length = 32) (h : agree 256 p q) : p = q := agree_all p q (by omega) (by rw [hp]; exact h)
end Go.Proofs.Ytlagngkafllbiaa
/- Bytes put one behind the other. -/
namespace Go.Proofs.Ytlagngkafllbiaa
open Go Go.RowKit
/-- The state made plain. -/
theorem nf_Oct {P : Program} {w0 w : World} {N : Gh} {nt : Nat} {st s2 : St} {a : Act} (H : Rel P w0 N nt st a w) (h : st = s2 := by (try simp only [pk, elemB, St.put, St.ev, St.tmp, St.keep, find, dropT, slots, AV.put, AV.loc, fitI, convI, IntKind.signed, IntKind.bits, strip, St.lose, mergeL, setAll, nth, renB, ren, idx?, sub, allP, low, bnd, Int.reduceEq, Nat.reduceAdd, Nat.reduceLT, reduceIte, reduceCtorEq, Nat.reduceEqDiff, Nat.reduceLeDiff, Nat.reduceBEq, Int.reducePow, Int.reduceToNat]); rfl) : Rel P w0 N nt s2 a w := h ▸ H
theorem ct_Oct {c : Prop} (h : c := by ((try simp only [pk, elemB, St.put, St.ev, St.tmp, St.keep, find, dropT, slots, AV.put, AV.loc, fitI, convI, IntKind.signed, IntKind.bits, strip, St.lose, mergeL, setAll, nth, renB, ren, idx?, sub, allP, low, bnd, Int.reduceEq, Nat.reduceAdd, Nat.reduceLT, reduceIte, reduceCtorEq, Nat.reduceEqDiff, Nat.reduceLeDiff, Nat.reduceBEq, Int.reducePow, Int.reduceToNat, fit, gcond, ilo, ihi]); first | done | exact cd | exact cd2 | skip)) : c := h
theorem bss_len (ls : List (List UInt8)) : (bss ls).length = ls.length := by simp [bss]
theorem bss_get (ls : List (List UInt8)) (k : Nat) (hk : k < ls.length) : (bss ls).getD k .any = .bs ls[k] none := by simp [bss, List.getD, hk]
theorem flat_take (ls : List (List UInt8)) (k : Nat) (hk : k < ls.length) : (ls.take (k + 1)).flatten = (ls.take k).flatten ++ ls[k] := by rw [List.take_succ_eq_append_getElem hk, List.flatten_append]; simp only [List.flatten_cons, List.flatten_nil, List.append_nil]
theorem flat_take_le (ls : List (List UInt8)) (k : Nat) : (ls.take k).flatten.length ≤ ls.flatten.length := by
  conv => rhs; rw [← List.take_append_drop k ls]
  rw [List.flatten_append, List.length_append]; omega
theorem join_v (ls : List (List UInt8)) (hb : ls.flatten.length ≤ 34359738368) (hl : ls.length ≤ 34359738368) :
    VC Try.prog 82 [.sl .sc (bss ls) none] [(5, ls.flatten.length)] (.bs ls.flatten (some 0)) := by
  have hbl := bss_len ls
  refine v_enter Try.func82 rfl (by kernel_rfl) (by show 1 ≤ 17; decide) ?_
  intro N w0 a w hN hR H
  repeat (first | refine wp_seq ?_ | refine wp_block ?_ | refine wp_skip ?_ | refine wp_exit ?_ | ((first | refine v_some 5 tab_ok hN H (by rfl) ct_Oct ?_ | refine v_more tab_ok hN H (by rfl) (by rfl) ct_Oct ?_); clear H; intro a w H; replace H := nf_Oct H; (try simp only [List.drop_succ_cons, List.drop_zero, List.drop_nil]); try refine wpList_nil ?_) | refine wp_region_lit ?_)
  have H := v_nilB tab_ok H 3 5 (j := ti5) rfl (by decide) (by rfl)
  rw [hbl] at H
  refine v_loop (fun k : Nat => ⟨[(8, none, .v (.int .i64 (k : Int))), (3, none, .bs (ls.take k).flatten (some 0)), (7, none, .v (.int .i64 (ls.length : Int))), (6, none, .sl .sc (bss ls) none)], [], [], [(5, (ls.take k).flatten.length)]⟩) (fun k => k ≤ ls.length) (fun k => ls.length - k) 0 (Nat.zero_le _) (H.to 0 1 ⟨hN, Nat.le_trans hR (by decide)⟩ ⟨rfl, rfl, rfl, rfl, trivial⟩ rfl rfl rfl rfl rfl) ?_
  clear H
  intro k a w hk H
  repeat (first | refine wp_seq ?_ | refine wp_block ?_ | refine wp_skip ?_ | refine wp_exit ?_ | ((first | refine v_some 5 tab_ok hN H (by rfl) ct_Oct ?_ | refine v_more tab_ok hN H (by rfl) (by rfl) ct_Oct ?_); clear H; intro a w H; replace H := nf_Oct H; (try simp only [List.drop_succ_cons, List.drop_zero, List.drop_nil]); try refine wpList_nil ?_) | refine wp_region_lit ?_)
  refine v_cond H (by rfl) (fun hb => ?_) (fun hb => ?_)
  · have hlt : k < ls.length := by simpa using hb
    have hf := flat_take_le ls (k + 1)
    rw [flat_take ls k hlt, List.length_append] at hf
    refine wp_skip ?_
    refine wp_seq ?_
    refine wp_block ?_
    refine wp_seq ?_
    (try refine wp_region_lit ?_); refine v_steps 2 tab_ok hN H (by rfl) ct_Oct ?_; clear H; intro a w H; replace H := nf_Oct H
    rw [bss_get ls k hlt] at H
    repeat (first | refine wp_seq ?_ | refine wp_block ?_ | refine wp_skip ?_ | refine wp_exit ?_ | ((first | refine v_some 5 tab_ok hN H (by rfl) ct_Oct ?_ | refine v_more tab_ok hN H (by rfl) (by rfl) ct_Oct ?_); clear H; intro a w H; replace H := nf_Oct H; (try simp only [List.drop_succ_cons, List.drop_zero, List.drop_nil]); try refine wpList_nil ?_) | refine wp_region_lit ?_)
    exact ⟨k + 1, hlt, by omega, H.to 0 1 ⟨hN, Nat.le_trans hR (by decide)⟩ ⟨rfl, by rw [flat_take ls k hlt]; rfl, rfl, rfl, trivial⟩ rfl (by rw [flat_take ls k hlt, List.length_append]; rfl) rfl rfl rfl⟩
  · have hge : k = ls.length := by simp at hb; omega
    subst hge
    repeat (first | refine wp_seq ?_ | refine wp_block ?_ | refine wp_skip ?_ | refine wp_exit ?_ | ((first | refine v_some 5 tab_ok hN H (by rfl) ct_Oct ?_ | refine v_more tab_ok hN H (by rfl) (by rfl) ct_Oct ?_); clear H; intro a w H; replace H := nf_Oct H; (try simp only [List.drop_succ_cons, List.drop_zero, List.drop_nil]); try refine wpList_nil ?_) | refine wp_region_lit ?_)
    refine wp_ret ?_
    exact v_end [] [0] tab_ok ⟨hN, hR⟩ (rs := [.tmp 2]) (ress := [_]) rfl H (by rfl) (by rfl) cb cw ca rfl
end Go.Proofs.Ytlagngkafllbiaa
/- The texts of the digests. -/
namespace Go.Proofs.Ytlagngkafllbiaa
open Go Go.RowKit
/-- The state made plain. -/
theorem nf_Tag {P : Program} {w0 w : World} {N : Gh} {nt : Nat} {st s2 : St} {a : Act} (H : Rel P w0 N nt st a w) (h : st = s2 := by (try simp only [pk, elemB, St.put, St.ev, St.tmp, St.keep, find, dropT, slots, AV.put, AV.loc, fitI, convI, IntKind.signed, IntKind.bits, strip, St.lose, mergeL, setAll, nth, renB, ren, idx?, sub, allP, low, bnd, Int.reduceEq, Nat.reduceAdd, Nat.reduceLT, reduceIte, reduceCtorEq, Nat.reduceEqDiff, Nat.reduceLeDiff, Nat.reduceBEq, Int.reducePow, Int.reduceToNat, ti24_t, ti24_z, ti5_t, ti5_z]); rfl) : Rel P w0 N nt s2 a w := h ▸ H
theorem nt_Tag {P : Program} {w0 w : World} {N gS : Gh} {nt : Nat} {q q2 st s2 : St} {a : Act} (H : RelT P w0 N nt gS q st a w) (h1 : q = q2 := by (try simp only [pk, elemB, St.put, St.ev, St.tmp, St.keep, find, dropT, slots, AV.put, AV.loc, fitI, convI, IntKind.signed, IntKind.bits, strip, St.lose, mergeL, setAll, nth, renB, ren, idx?, sub, allP, low, bnd, Int.reduceEq, Nat.reduceAdd, Nat.reduceLT, reduceIte, reduceCtorEq, Nat.reduceEqDiff, Nat.reduceLeDiff, Nat.reduceBEq, Int.reducePow, Int.reduceToNat, ti24_t, ti24_z, ti5_t, ti5_z]); rfl) (h : st = s2 := by (try simp only [pk, elemB, St.put, St.ev, St.tmp, St.keep, find, dropT, slots, AV.put, AV.loc, fitI, convI, IntKind.signed, IntKind.bits, strip, St.lose, mergeL, setAll, nth, renB, ren, idx?, sub, allP, low, bnd, Int.reduceEq, Nat.reduceAdd, Nat.reduceLT, reduceIte, reduceCtorEq, Nat.reduceEqDiff, Nat.reduceLeDiff, Nat.reduceBEq, Int.reducePow, Int.reduceToNat, ti24_t, ti24_z, ti5_t, ti5_z]); rfl) : RelT P w0 N nt gS q2 s2 a w := h1 ▸ h ▸ H
theorem ct_Tag {c : Prop} (h : c := by ((try simp only [pk, elemB, St.put, St.ev, St.tmp, St.keep, find, dropT, slots, AV.put, AV.loc, fitI, convI, IntKind.signed, IntKind.bits, strip, St.lose, mergeL, setAll, nth, renB, ren, idx?, sub, allP, low, bnd, Int.reduceEq, Nat.reduceAdd, Nat.reduceLT, reduceIte, reduceCtorEq, Nat.reduceEqDiff, Nat.reduceLeDiff, Nat.reduceBEq, Int.reducePow, Int.reduceToNat, ti24_t, ti24_z, ti5_t, ti5_z, ti24, ti5, fit, gcond, ilo, ihi]); first | done | exact cd | exact cd2 | skip)) : c := h
set_option maxRecDepth 20000 in
theorem text_v (t : UInt8) (ls : List (List UInt8)) (hb : ls.flatten.length ≤ 34359738367) (hl : ls.length ≤ 34359738367) :
    VC Try.prog 54 [.v (B8 t), .sl .sc (bss ls) none] [(5, (t :: ls.flatten).length)] (.bs (t :: ls.flatten) (some 0)) := by
  have hbl := bss_len ls
  have ht := t.toNat_lt
  refine v_enter Try.func54 rfl (by kernel_rfl) (by show 2 ≤ 11; decide) ?_
  intro N w0 a w hN hR H
  repeat (first | refine wp_seq ?_ | refine wp_block ?_ | refine wp_skip ?_ | refine wp_exit ?_ | ((first | refine v_some 5 tab_ok hN H (by rfl) ct_Tag ?_ | refine v_more tab_ok hN H (by rfl) (by rfl) ct_Tag ?_); clear H; intro a w H; replace H := nf_Tag H; (try simp only [List.drop_succ_cons, List.drop_zero, List.drop_nil]); try refine wpList_nil ?_) | refine wp_region_lit ?_)
  refine v_call [] [] (join_v ([t] :: ls) (by rw [List.flatten_cons, List.length_append]; simp only [List.length_cons, List.length_nil]; omega) (by simp only [List.length_cons]; omega)) H rfl rfl (by rfl) cb cw ca ?_; clear H; intro a w H; replace H := nf_Tag H; try refine wpList_nil ?_
  repeat (first | refine wp_seq ?_ | refine wp_block ?_ | refine wp_skip ?_ | refine wp_exit ?_ | ((first | refine v_some 5 tab_ok hN H (by rfl) ct_Tag ?_ | refine v_more tab_ok hN H (by rfl) (by rfl) ct_Tag ?_); clear H; intro a w H; replace H := nf_Tag H; (try simp only [List.drop_succ_cons, List.drop_zero, List.drop_nil]); try refine wpList_nil ?_) | refine wp_region_lit ?_)
  refine wp_ret ?_
  exact v_end [] [2] tab_ok ⟨hN, hR⟩ (rs := [.tmp 4]) (ress := [_]) rfl H (by rfl) (by rfl) cb cw ca rfl
set_option maxRecDepth 20000 in
theorem leafText_v (k v : List UInt8) (hk : k.length = 32) (hv : v.length = 32) :
    VC Try.prog 52 [.ba k, .ba v] [(5, 65)] (.bs (1 :: (k ++ v)) (some 0)) := by
  refine v_enter Try.func52 rfl (by kernel_rfl) (by show 2 ≤ 9; decide) ?_
  intro N w0 a w hN hR H
  repeat (first | refine wp_seq ?_ | refine wp_block ?_ | refine wp_skip ?_ | refine wp_exit ?_ | ((first | refine v_some 5 tab_ok hN H (by rfl) ct_Tag ?_ | refine v_more tab_ok hN H (by rfl) (by rfl) ct_Tag ?_); clear H; intro a w H; replace H := nf_Tag H; (try simp only [List.drop_succ_cons, List.drop_zero, List.drop_nil]); try refine wpList_nil ?_) | refine wp_region_lit ?_)
  repeat (first | refine wp_seq ?_ | refine wp_block ?_)
  refine v_draw 2 [2, 3] [] (by kernel_rfl) (by kernel_rfl) H (by rfl) (fun gS H => ?_); try replace H := nt_Tag H; first | (simp only [List.take_of_length_le (Nat.le_of_eq hk), List.take_of_length_le (Nat.le_of_eq hv)] at H; replace H := nt_Tag H) | skip
  refine v_moreT tab_ok hN H (by rfl) (by (try simp only [List.take_of_length_le (Nat.le_of_eq hk), List.take_of_length_le (Nat.le_of_eq hv)]); first | done | exact ct_Tag) ?_; clear H; intro a w H; try replace H := nt_Tag H; first | (simp only [List.take_of_length_le (Nat.le_of_eq hk), List.take_of_length_le (Nat.le_of_eq hv)] at H; replace H := nt_Tag H) | skip
  refine v_callT [] [] (text_v 1 [k, v] (by simp; omega) (by simp)) H (by rfl) (by rfl) rfl rfl (by rfl) (by simp [pickB, bxs, ren, idx?, sub_refl, sub, allP, List.take_of_length_le (Nat.le_of_eq hk), List.take_of_length_le (Nat.le_of_eq hv)] <;> omega) (by first | rfl | (simp [List.take_of_length_le (Nat.le_of_eq hk), List.take_of_length_le (Nat.le_of_eq hv)] <;> omega)) (by first | exact trivial | exact ⟨sub_refl _ _, trivial⟩ | exact ⟨sub_refl _ _, sub_refl _ _, trivial⟩ | exact ⟨sub_refl _ _, sub_refl _ _, sub_refl _ _, trivial⟩ | exact ⟨⟨rfl, sub_refl _ _, trivial⟩, sub_refl _ _, trivial⟩ | (simp [cargs, cargsG, St.ev, St.tmp, find, ren, idx?, sub_refl, sub, allP, resv, resC, bss, List.take_of_length_le (Nat.le_of_eq hk), List.take_of_length_le (Nat.le_of_eq hv)] <;> omega)) ?_; clear H; intro a w H; try replace H := nt_Tag H; first | (simp only [List.take_of_length_le (Nat.le_of_eq hk), List.take_of_length_le (Nat.le_of_eq hv)] at H; replace H := nt_Tag H) | skip
  refine v_moreT tab_ok hN H (by rfl) (by (try simp only [List.take_of_length_le (Nat.le_of_eq hk), List.take_of_length_le (Nat.le_of_eq hv)]); first | done | exact ct_Tag) ?_; clear H; intro a w H; try replace H := nt_Tag H; first | (simp only [List.take_of_length_le (Nat.le_of_eq hk), List.take_of_length_le (Nat.le_of_eq hv)] at H; replace H := nt_Tag H) | skip
  refine v_drawNil H (fun H => ?_)
  refine wp_ret ?_
  exact v_end [] [1] tab_ok ⟨hN, hR⟩ (rs := [.tmp 4]) (ress := [_]) rfl H (by rfl) (by rfl) (by simp [pickB, bxs, ren, idx?, sub_refl, sub, allP, hk, hv] <;> omega) (by first | rfl | (simp [hk, hv] <;> omega)) (by first | exact trivial | exact ⟨sub_refl _ _, trivial⟩ | exact ⟨sub_refl _ _, sub_refl _ _, trivial⟩ | exact ⟨sub_refl _ _, sub_refl _ _, sub_refl _ _, trivial⟩ | exact ⟨⟨rfl, sub_refl _ _, trivial⟩, sub_refl _ _, trivial⟩ | (simp [cargs, cargsG, St.ev, St.tmp, find, ren, idx?, sub_refl, sub, allP, resv, resC, bss, hk, hv] <;> omega)) rfl
set_option maxRecDepth 20000 in
theorem innerText_v (k v : List UInt8) (hk : k.length = 32) (hv : v.length = 32) :
    VC Try.prog 29 [.ba k, .ba v] [(5, 65)] (.bs (2 :: (k ++ v)) (some 0)) := by
  refine v_enter Try.func29 rfl (by kernel_rfl) (by show 2 ≤ 9; decide) ?_
  intro N w0 a w hN hR H
  repeat (first | refine wp_seq ?_ | refine wp_block ?_ | refine wp_skip ?_ | refine wp_exit ?_ | ((first | refine v_some 5 tab_ok hN H (by rfl) (by (try simp only [hk, hv]); first | done | exact ct_Tag) ?_ | refine v_more tab_ok hN H (by rfl) (by rfl) (by (try simp only [hk, hv]); first | done | exact ct_Tag) ?_); clear H; intro a w H; replace H := nf_Tag H; first | (simp only [hk, hv] at H; replace H := nf_Tag H) | skip; (try simp only [List.drop_succ_cons, List.drop_zero, List.drop_nil]); try refine wpList_nil ?_) | refine wp_region_lit ?_)
  repeat (first | refine wp_seq ?_ | refine wp_block ?_)
  refine v_draw 2 [2, 3] [] (by kernel_rfl) (by kernel_rfl) H (by rfl) (fun gS H => ?_); try replace H := nt_Tag H; first | (simp only [List.take_of_length_le (Nat.le_of_eq hk), List.take_of_length_le (Nat.le_of_eq hv)] at H; replace H := nt_Tag H) | skip
  refine v_moreT tab_ok hN H (by rfl) (by (try simp only [List.take_of_length_le (Nat.le_of_eq hk), List.take_of_length_le (Nat.le_of_eq hv)]); first | done | exact ct_Tag) ?_; clear H; intro a w H; try replace H := nt_Tag H; first | (simp only [List.take_of_length_le (Nat.le_of_eq hk), List.take_of_length_le (Nat.le_of_eq hv)] at H; replace H := nt_Tag H) | skip
  refine v_callT [] [] (text_v 2 [k, v] (by simp; omega) (by simp)) H (by rfl) (by rfl) rfl rfl (by rfl) (by simp [pickB, bxs, ren, idx?, sub_refl, sub, allP, List.take_of_length_le (Nat.le_of_eq hk), List.take_of_length_le (Nat.le_of_eq hv)] <;> omega) (by first | rfl | (simp [List.take_of_length_le (Nat.le_of_eq hk), List.take_of_length_le (Nat.le_of_eq hv)] <;> omega)) (by first | exact trivial | exact ⟨sub_refl _ _, trivial⟩ | exact ⟨sub_refl _ _, sub_refl _ _, trivial⟩ | exact ⟨sub_refl _ _, sub_refl _ _, sub_refl _ _, trivial⟩ | exact ⟨⟨rfl, sub_refl _ _, trivial⟩, sub_refl _ _, trivial⟩ | (simp [cargs, cargsG, St.ev, St.tmp, find, ren, idx?, sub_refl, sub, allP, resv, resC, bss, List.take_of_length_le (Nat.le_of_eq hk), List.take_of_length_le (Nat.le_of_eq hv)] <;> omega)) ?_; clear H; intro a w H; try replace H := nt_Tag H; first | (simp only [List.take_of_length_le (Nat.le_of_eq hk), List.take_of_length_le (Nat.le_of_eq hv)] at H; replace H := nt_Tag H) | skip
  refine v_moreT tab_ok hN H (by rfl) (by (try simp only [List.take_of_length_le (Nat.le_of_eq hk), List.take_of_length_le (Nat.le_of_eq hv)]); first | done | exact ct_Tag) ?_; clear H; intro a w H; try replace H := nt_Tag H; first | (simp only [List.take_of_length_le (Nat.le_of_eq hk), List.take_of_length_le (Nat.le_of_eq hv)] at H; replace H := nt_Tag H) | skip
  refine v_drawNil H (fun H => ?_)
  refine wp_ret ?_
  exact v_end [] [1] tab_ok ⟨hN, hR⟩ (rs := [.tmp 4]) (ress := [_]) rfl H (by rfl) (by rfl) (by simp [pickB, bxs, ren, idx?, sub_refl, sub, allP, hk, hv] <;> omega) (by first | rfl | (simp [hk, hv] <;> omega)) (by first | exact trivial | exact ⟨sub_refl _ _, trivial⟩ | exact ⟨sub_refl _ _, sub_refl _ _, trivial⟩ | exact ⟨sub_refl _ _, sub_refl _ _, sub_refl _ _, trivial⟩ | exact ⟨⟨rfl, sub_refl _ _, trivial⟩, sub_refl _ _, trivial⟩ | (simp [cargs, cargsG, St.ev, St.tmp, find, ren, idx?, sub_refl, sub, allP, resv, resC, bss, hk, hv] <;> omega)) rfl
set_option maxRecDepth 20000 in
theorem emptyText_v :
    VC Try.prog 53 [] [(5, 1)] (.bs [0] (some 0)) := by
  refine v_enter Try.func53 rfl (by kernel_rfl) (by decide) ?_
  intro N w0 a w hN hR H
  repeat (first | refine wp_seq ?_ | refine wp_block ?_ | refine wp_skip ?_ | refine wp_exit ?_ | ((first | refine v_some 5 tab_ok hN H (by rfl) ct_Tag ?_ | refine v_more tab_ok hN H (by rfl) (by rfl) ct_Tag ?_); clear H; intro a w H; replace H := nf_Tag H; (try simp only [List.drop_succ_cons, List.drop_zero, List.drop_nil]); try refine wpList_nil ?_) | refine wp_region_lit ?_)
  refine v_call [] [] (text_v 0 [] (by simp) (by simp)) H rfl rfl (by rfl) cb cw ca ?_; clear H; intro a w H; replace H := nf_Tag H; try refine wpList_nil ?_
  repeat (first | refine wp_seq ?_ | refine wp_block ?_ | refine wp_skip ?_ | refine wp_exit ?_ | ((first | refine v_some 5 tab_ok hN H (by rfl) ct_Tag ?_ | refine v_more tab_ok hN H (by rfl) (by rfl) ct_Tag ?_); clear H; intro a w H; replace H := nf_Tag H; (try simp only [List.drop_succ_cons, List.drop_zero, List.drop_nil]); try refine wpList_nil ?_) | refine wp_region_lit ?_)
  refine wp_ret ?_
  exact v_end [] [0] tab_ok ⟨hN, hR⟩ (rs := [.tmp 0]) (ress := [_]) rfl H (by rfl) (by rfl) cb cw ca rfl
end Go.Proofs.Ytlagngkafllbiaa
/- The program's SHA-256, byte by byte. -/
namespace Go.Proofs.Ytlagngkafllbiaa
open Go Go.RowKit
/-- The state made plain. -/
theorem nf_State {P : Program} {w0 w : World} {N : Gh} {nt : Nat} {st s2 : St} {a : Act} (H : Rel P w0 N nt st a w) (h : st = s2 := by (try simp only [pk, elemB, St.put, St.ev, St.tmp, St.keep, find, dropT, slots, AV.put, AV.loc, fitI, convI, IntKind.signed, IntKind.bits, strip, St.lose, mergeL, setAll, nth, renB, ren, idx?, sub, allP, low, bnd, Int.reduceEq, Nat.reduceAdd, Nat.reduceLT, reduceIte, reduceCtorEq, Nat.reduceEqDiff, Nat.reduceLeDiff, Nat.reduceBEq, Int.reducePow, Int.reduceToNat, ti105_t, ti105_z, ti101_t, ti101_z]); rfl) : Rel P w0 N nt s2 a w := h ▸ H
theorem nt_State {P : Program} {w0 w : World} {N gS : Gh} {nt : Nat} {q q2 st s2 : St} {a : Act} (H : RelT P w0 N nt gS q st a w) (h1 : q = q2 := by (try simp only [pk, elemB, St.put, St.ev, St.tmp, St.keep, find, dropT, slots, AV.put, AV.loc, fitI, convI, IntKind.signed, IntKind.bits, strip, St.lose, mergeL, setAll, nth, renB, ren, idx?, sub, allP, low, bnd, Int.reduceEq, Nat.reduceAdd, Nat.reduceLT, reduceIte, reduceCtorEq, Nat.reduceEqDiff, Nat.reduceLeDiff, Nat.reduceBEq, Int.reducePow, Int.reduceToNat, ti105_t, ti105_z, ti101_t, ti101_z]); rfl) (h : st = s2 := by (try simp only [pk, elemB, St.put, St.ev, St.tmp, St.keep, find, dropT, slots, AV.put, AV.loc, fitI, convI, IntKind.signed, IntKind.bits, strip, St.lose, mergeL, setAll, nth, renB, ren, idx?, sub, allP, low, bnd, Int.reduceEq, Nat.reduceAdd, Nat.reduceLT, reduceIte, reduceCtorEq, Nat.reduceEqDiff, Nat.reduceLeDiff, Nat.reduceBEq, Int.reducePow, Int.reduceToNat, ti105_t, ti105_z, ti101_t, ti101_z]); rfl) : RelT P w0 N nt gS q2 s2 a w := h1 ▸ h ▸ H
theorem ct_State {c : Prop} (h : c := by ((try simp only [pk, elemB, St.put, St.ev, St.tmp, St.keep, find, dropT, slots, AV.put, AV.loc, fitI, convI, IntKind.signed, IntKind.bits, strip, St.lose, mergeL, setAll, nth, renB, ren, idx?, sub, allP, low, bnd, Int.reduceEq, Nat.reduceAdd, Nat.reduceLT, reduceIte, reduceCtorEq, Nat.reduceEqDiff, Nat.reduceLeDiff, Nat.reduceBEq, Int.reducePow, Int.reduceToNat, ti105_t, ti105_z, ti101_t, ti101_z, ti105, ti101, fit, gcond, ilo, ihi]); first | done | exact cd | exact cd2 | skip)) : c := h
theorem ren_s8v (fb fr : Nat → Option Nat) (d : Nat) (s : S8) : ren fb fr (d + 1) (s8v s) = s8v s := by cases d <;> rfl
/-- A state of the program's. -/
def shv (s : S8) (b : List UInt8) (n all : Nat) : AV := .st [.v (.bool true), s8v s, .ba b, .v (.int .i64 (n : Int)), .v (.int .i64 (all : Int))]
theorem ren_shv (fb fr : Nat → Option Nat) (d : Nat) (s : S8) (b : List UInt8) (n all : Nat) : ren fb fr (d + 2) (shv s b n all) = shv s b n all := by cases d <;> rfl
theorem begin_v : VC Try.prog 56 [] [] (s8v h0) := by
  refine v_enter Try.func56 rfl (by kernel_rfl) (by decide) ?_
  intro N w0 a w hN hR H
  repeat (first | refine wp_seq ?_ | refine wp_block ?_ | refine wp_skip ?_ | refine wp_exit ?_ | ((first | refine v_some 5 tab_ok hN H (by rfl) (by (try simp only [ren_s8v, ren_shv, s8v, shv, W32, h0]); first | done | exact ct_State) ?_ | refine v_more tab_ok hN H (by rfl) (by rfl) (by (try simp only [ren_s8v, ren_shv, s8v, shv, W32, h0]); first | done | exact ct_State) ?_); clear H; intro a w H; replace H := nf_State H; first | (simp only [ren_s8v, ren_shv] at H; replace H := nf_State H) | skip; (try simp only [List.drop_succ_cons, List.drop_zero, List.drop_nil]); try refine wpList_nil ?_) | refine wp_region_lit ?_)
  refine wp_ret ?_
  exact v_end [] [] tab_ok ⟨hN, hR⟩ (rs := [.cell 0 101]) (ress := [_]) rfl H (by rfl) (by rfl) (by simp [pickB, bxs, ren, idx?, sub_refl, sub, allP, ren_s8v, ren_shv] <;> omega) (by first | rfl | (simp [ren_s8v, ren_shv] <;> omega)) (by first | exact trivial | exact ⟨sub_refl _ _, trivial⟩ | exact ⟨sub_refl _ _, sub_refl _ _, trivial⟩ | exact ⟨sub_refl _ _, sub_refl _ _, sub_refl _ _, trivial⟩ | exact ⟨⟨rfl, sub_refl _ _, trivial⟩, sub_refl _ _, trivial⟩ | (simp [cargs, cargsG, St.ev, St.tmp, find, ren, idx?, sub_refl, sub, allP, resv, resC, bss, ren_s8v, ren_shv] <;> omega)) rfl
theorem new_v : VX Try.prog 32 [] [] [] [] [(ti105.ty, shv h0 (List.replicate 64 0) 0 0)] [] [] (.ptr 0 []) := by
  refine v_enter Try.func32 rfl (by kernel_rfl) (by decide) ?_
  intro N w0 a w hN hR H
  repeat (first | refine wp_seq ?_ | refine wp_block ?_ | refine wp_skip ?_ | refine wp_exit ?_ | ((first | refine v_some 5 tab_ok hN H (by rfl) (by (try simp only [ren_s8v, ren_shv, s8v, shv, W32, h0]); first | done | exact ct_State) ?_ | refine v_more tab_ok hN H (by rfl) (by rfl) (by (try simp only [ren_s8v, ren_shv, s8v, shv, W32, h0]); first | done | exact ct_State) ?_); clear H; intro a w H; replace H := nf_State H; first | (simp only [ren_s8v, ren_shv] at H; replace H := nf_State H) | skip; (try simp only [List.drop_succ_cons, List.drop_zero, List.drop_nil]); try refine wpList_nil ?_) | refine wp_region_lit ?_)
  refine v_call [] [] (begin_v) H rfl rfl (by rfl) (by simp [pickB, bxs, ren, idx?, sub_refl, sub, allP, ren_s8v, ren_shv] <;> omega) (by first | rfl | (simp [ren_s8v, ren_shv] <;> omega)) (by first | exact trivial | exact ⟨sub_refl _ _, trivial⟩ | exact ⟨sub_refl _ _, sub_refl _ _, trivial⟩ | exact ⟨sub_refl _ _, sub_refl _ _, sub_refl _ _, trivial⟩ | exact ⟨⟨rfl, sub_refl _ _, trivial⟩, sub_refl _ _, trivial⟩ | (simp [cargs, cargsG, St.ev, St.tmp, find, ren, idx?, sub_refl, sub, allP, resv, resC, bss, ren_s8v, ren_shv] <;> omega)) ?_; clear H; intro a w H; replace H := nf_State H; first | (simp only [ren_s8v, ren_shv] at H; replace H := nf_State H) | skip; try refine wpList_nil ?_
  repeat (first | refine wp_seq ?_ | refine wp_block ?_ | refine wp_skip ?_ | refine wp_exit ?_ | ((first | refine v_some 5 tab_ok hN H (by rfl) (by (try simp only [ren_s8v, ren_shv, s8v, shv, W32, h0]); first | done | exact ct_State) ?_ | refine v_more tab_ok hN H (by rfl) (by rfl) (by (try simp only [ren_s8v, ren_shv, s8v, shv, W32, h0]); first | done | exact ct_State) ?_); clear H; intro a w H; replace H := nf_State H; first | (simp only [ren_s8v, ren_shv] at H; replace H := nf_State H) | skip; (try simp only [List.drop_succ_cons, List.drop_zero, List.drop_nil]); try refine wpList_nil ?_) | refine wp_region_lit ?_)
  refine wp_ret ?_
  exact v_end [0] [] tab_ok ⟨hN, hR⟩ (rs := [.tmp 0]) (ress := [_]) rfl H (by rfl) (by rfl) (by simp [pickB, bxs, ren, idx?, sub_refl, sub, allP, ren_s8v, ren_shv, shv] <;> omega) (by first | rfl | (simp [ren_s8v, ren_shv, shv] <;> omega)) (by first | exact trivial | exact ⟨sub_refl _ _, trivial⟩ | exact ⟨sub_refl _ _, sub_refl _ _, trivial⟩ | exact ⟨sub_refl _ _, sub_refl _ _, sub_refl _ _, trivial⟩ | exact ⟨⟨rfl, sub_refl _ _, trivial⟩, sub_refl _ _, trivial⟩ | (simp [cargs, cargsG, St.ev, St.tmp, find, ren, idx?, sub_refl, sub, allP, resv, resC, bss, ren_s8v, ren_shv, shv] <;> omega)) rfl
theorem none_v (s : S8) (b : List UInt8) (n all : Nat) : VX Try.prog 57 [(ti105.ty, shv s b n all)] [] [] [.ptr 0 []] [(ti105.ty, shv s b n all)] [] [] (.v (.bool false)) := by
  refine v_enter Try.func57 rfl (by kernel_rfl) (by show 1 ≤ 12; decide) ?_
  intro N w0 a w hN hR H
  repeat (first | refine wp_seq ?_ | refine wp_block ?_ | refine wp_skip ?_ | refine wp_exit ?_ | ((first | refine v_some 5 tab_ok hN H (by rfl) (by (try simp only [ren_s8v, ren_shv, s8v, shv, W32, h0]); first | done | exact ct_State) ?_ | refine v_more tab_ok hN H (by rfl) (by rfl) (by (try simp only [ren_s8v, ren_shv, s8v, shv, W32, h0]); first | done | exact ct_State) ?_); clear H; intro a w H; replace H := nf_State H; first | (simp only [ren_s8v, ren_shv] at H; replace H := nf_State H) | skip; (try simp only [List.drop_succ_cons, List.drop_zero, List.drop_nil]); try refine wpList_nil ?_) | refine wp_region_lit ?_)
  refine wp_ret ?_
  exact v_end [0] [] tab_ok ⟨hN, hR⟩ (rs := [.tmp 2]) (ress := [_]) rfl H (by rfl) (by rfl) (by simp [pickB, bxs, ren, idx?, sub_refl, sub, allP, ren_s8v, ren_shv] <;> omega) (by first | rfl | (simp [ren_s8v, ren_shv] <;> omega)) (by first | exact trivial | exact ⟨sub_refl _ _, trivial⟩ | exact ⟨sub_refl _ _, sub_refl _ _, trivial⟩ | exact ⟨sub_refl _ _, sub_refl _ _, sub_refl _ _, trivial⟩ | exact ⟨⟨rfl, sub_refl _ _, trivial⟩, sub_refl _ _, trivial⟩ | (simp [cargs, cargsG, St.ev, St.tmp, find, ren, idx?, sub_refl, sub, allP, resv, resC, bss, ren_s8v, ren_shv] <;> omega)) rfl

/-- What a write makes of the state: a part of a block at a time. -/
def feed : Nat → S8 → List UInt8 → Nat → List UInt8 → S8 × List UInt8 × Nat
  | 0, s, b, n, _ => (s, b, n)
  | f + 1, s, b, n, l => if l = [] then (s, b, n) else
      let b' := b.take n ++ l.take (64 - n) ++ b.drop (n + (l.take (64 - n)).length)
      if n + (l.take (64 - n)).length = 64 then feed f (step s b') b' 0 (l.drop (l.take (64 - n)).length) else feed f s b' (n + (l.take (64 - n)).length) (l.drop (l.take (64 - n)).length)
set_option maxRecDepth 20000 in
theorem write_v (s : S8) (b : List UInt8) (n all : Nat) (l : List UInt8) (hb : b.length = 64) (hn : n < 64) (hl : l.length ≤ 34359738368) (ha : all ≤ 34359738368) :
    VX Try.prog 33 [(ti105.ty, shv s b n all)] [] [] [.ptr 0 [], .bs l none]
      [(ti105.ty, shv (feed l.length s b n l).1 (feed l.length s b n l).2.1 (feed l.length s b n l).2.2 (all + l.length))] [] [] (.v (.int .i64 (l.length : Int))) := by
  refine v_enter Try.func33 rfl (by kernel_rfl) (by show 2 ≤ 65; decide) ?_
  intro N w0 a w hN hR H
  repeat (first | refine wp_seq ?_ | refine wp_block ?_ | refine wp_skip ?_ | refine wp_exit ?_ | ((first | refine v_some 5 tab_ok hN H (by rfl) (by (try simp only [ren_s8v, ren_shv, s8v, shv, W32, h0]); first | done | exact ct_State) ?_ | refine v_more tab_ok hN H (by rfl) (by rfl) (by (try simp only [ren_s8v, ren_shv, s8v, shv, W32, h0]); first | done | exact ct_State) ?_); clear H; intro a w H; replace H := nf_State H; first | (simp only [ren_s8v, ren_shv] at H; replace H := nf_State H) | skip; (try simp only [List.drop_succ_cons, List.drop_zero, List.drop_nil]); try refine wpList_nil ?_) | refine wp_region_lit ?_)
  refine v_call [0] [] (none_v s b n all) H rfl rfl (by rfl) (by simp [pickB, bxs, ren, idx?, sub_refl, sub, allP, ren_s8v, ren_shv] <;> omega) (by first | rfl | (simp [ren_s8v, ren_shv] <;> omega)) (by first | exact trivial | exact ⟨sub_refl _ _, trivial⟩ | exact ⟨sub_refl _ _, sub_refl _ _, trivial⟩ | exact ⟨sub_refl _ _, sub_refl _ _, sub_refl _ _, trivial⟩ | exact ⟨⟨rfl, sub_refl _ _, trivial⟩, sub_refl _ _, trivial⟩ | (simp [cargs, cargsG, St.ev, St.tmp, find, ren, idx?, sub_refl, sub, allP, resv, resC, bss, ren_s8v, ren_shv] <;> omega)) ?_; clear H; intro a w H; replace H := nf_State H; first | (simp only [ren_s8v, ren_shv] at H; replace H := nf_State H) | skip; try refine wpList_nil ?_
  refine v_cond H (by rfl) (fun hb => ?_) (fun hb => ?_)
  · cases hb
  repeat (first | refine wp_seq ?_ | refine wp_block ?_ | refine wp_skip ?_ | refine wp_exit ?_ | ((first | refine v_some 5 tab_ok hN H (by rfl) (by (try simp only [ren_s8v, ren_shv, shv, s8v, shv, W32, h0]); first | done | exact ct_State) ?_ | refine v_more tab_ok hN H (by rfl) (by rfl) (by (try simp only [ren_s8v, ren_shv, shv, s8v, shv, W32, h0]); first | done | exact ct_State) ?_); clear H; intro a w H; replace H := nf_State H; first | (simp only [ren_s8v, ren_shv, shv] at H; replace H := nf_State H) | skip; (try simp only [List.drop_succ_cons, List.drop_zero, List.drop_nil]); try refine wpList_nil ?_) | refine wp_region_lit ?_)
  refine v_loop (fun i : S8 × List UInt8 × Nat × List UInt8 => ⟨[(0, none, .ptr 0 []), (1, none, .bs l none), (5, none, .bs i.2.2.2 none)], [(ti105.ty, .st [.v (.bool true), s8v i.1, .ba i.2.1, .v (.int .i64 (i.2.2.1 : Int)), .v (.int .i64 ((all : Int) + (l.length : Int)))])], [], []⟩)
    (fun i => i.2.1.length = 64 ∧ i.2.2.1 < 64 ∧ i.2.2.2.length ≤ l.length ∧ ∃ f, i.2.2.2.length ≤ f ∧ feed f i.1 i.2.1 i.2.2.1 i.2.2.2 = feed l.length s b n l) (fun i => i.2.2.2.length) (s, b, n, l) ⟨by assumption, hn, Nat.le_refl _, l.length, Nat.le_refl _, rfl⟩
    (H.to 1 0 ⟨hN, hR⟩ ⟨rfl, rfl, rfl, trivial⟩ rfl rfl rfl rfl rfl) ?_
  clear H
  rintro ⟨s', b', n', rest⟩ a w ⟨hb', hn', hr', f, hf, hfe⟩ H
  dsimp only at hb' hn' hr' hf hfe
  repeat (first | refine wp_seq ?_ | refine wp_block ?_ | refine wp_skip ?_ | refine wp_exit ?_ | ((first | refine v_some 5 tab_ok hN H (by rfl) (by (try simp only [ren_s8v, ren_shv, shv, s8v, shv, W32, h0]); first | done | exact ct_State) ?_ | refine v_more tab_ok hN H (by rfl) (by rfl) (by (try simp only [ren_s8v, ren_shv, shv, s8v, shv, W32, h0]); first | done | exact ct_State) ?_); clear H; intro a w H; replace H := nf_State H; first | (simp only [ren_s8v, ren_shv, shv] at H; replace H := nf_State H) | skip; (try simp only [List.drop_succ_cons, List.drop_zero, List.drop_nil]); try refine wpList_nil ?_) | refine wp_region_lit ?_)
  refine v_cond H (by rfl) (fun hb => ?_) (fun hb => ?_)
  · have h0 : 0 < rest.length := by simpa using hb
    repeat (first | refine wp_seq ?_ | refine wp_block ?_ | refine wp_skip ?_ | refine wp_exit ?_ | ((first | refine v_some 5 tab_ok hN H (by rfl) (by (try simp only [ren_s8v, ren_shv, shv, s8v, shv, W32, h0]); first | done | exact ct_State) ?_ | refine v_more tab_ok hN H (by rfl) (by rfl) (by (try simp only [ren_s8v, ren_shv, shv, s8v, shv, W32, h0]); first | done | exact ct_State) ?_); clear H; intro a w H; replace H := nf_State H; first | (simp only [ren_s8v, ren_shv, shv] at H; replace H := nf_State H) | skip; (try simp only [List.drop_succ_cons, List.drop_zero, List.drop_nil]); try refine wpList_nil ?_) | refine wp_region_lit ?_)
    repeat (first | refine wp_seq ?_ | refine wp_block ?_)
    refine v_draw 0 [9] [] (by kernel_rfl) (by kernel_rfl) H (by rfl) (fun gS H => ?_); try replace H := nt_State H; first | (simp only [ren_s8v, ren_shv, shv] at H; replace H := nt_State H) | skip
    refine v_moreT tab_ok hN H (by rfl) (by (try simp only [ren_s8v, ren_shv, shv, s8v, shv, W32, h0]); first | done | exact ct_State) ?_; clear H; intro a w H; try replace H := nt_State H; first | (simp only [ren_s8v, ren_shv, shv] at H; replace H := nt_State H) | skip
    refine v_drawNil H (fun H => ?_)
    obtain ⟨k, hk⟩ : ∃ k, k = (rest.take (64 - n')).length := ⟨_, rfl⟩
    rw [← hk] at H
    rw [List.length_take] at hk
    have hk1 : n' + k ≤ 64 ∧ 0 < k ∧ k ≤ rest.length := by omega
    have hk2 : (rest.take (64 - n')).length = k := by rw [List.length_take]; omega
    have hlb : (b'.take n' ++ rest.take (64 - n') ++ b'.drop (n' + k)).length = 64 := by simp only [List.length_append, List.length_take, List.length_drop]; omega
    obtain ⟨f, rfl⟩ : ∃ g, f = g + 1 := ⟨f - 1, by omega⟩
    have hne : rest ≠ [] := fun e => by subst e; simp at h0
    rw [feed, if_neg hne] at hfe
    dsimp only at hfe
    rw [hk2] at hfe
    have hdl : (rest.drop k).length = rest.length - k := List.length_drop
    repeat (first | refine wp_seq ?_ | refine wp_block ?_ | refine wp_skip ?_ | refine wp_exit ?_ | ((first | refine v_some 5 tab_ok hN H (by rfl) (by (try simp only [ren_s8v, ren_shv, shv, s8v, shv, W32, h0]); first | done | exact ct_State) ?_ | refine v_more tab_ok hN H (by rfl) (by rfl) (by (try simp only [ren_s8v, ren_shv, shv, s8v, shv, W32, h0]); first | done | exact ct_State) ?_); clear H; intro a w H; replace H := nf_State H; first | (simp only [ren_s8v, ren_shv, shv] at H; replace H := nf_State H) | skip; (try simp only [List.drop_succ_cons, List.drop_zero, List.drop_nil]); try refine wpList_nil ?_) | refine wp_region_lit ?_)
    refine v_cond H (by rfl) (fun hb => ?_) (fun hb => ?_)
    · have he : n' + k = 64 := by simp at hb; omega
      rw [if_pos he] at hfe
      repeat (first | refine wp_seq ?_ | refine wp_block ?_ | refine wp_skip ?_ | refine wp_exit ?_ | ((first | refine v_some 5 tab_ok hN H (by rfl) (by (try simp only [ren_s8v, ren_shv, shv, s8v, shv, W32, h0]); first | done | exact ct_State) ?_ | refine v_more tab_ok hN H (by rfl) (by rfl) (by (try simp only [ren_s8v, ren_shv, shv, s8v, shv, W32, h0]); first | done | exact ct_State) ?_); clear H; intro a w H; replace H := nf_State H; first | (simp only [ren_s8v, ren_shv, shv] at H; replace H := nf_State H) | skip; (try simp only [List.drop_succ_cons, List.drop_zero, List.drop_nil]); try refine wpList_nil ?_) | refine wp_region_lit ?_)
      repeat (first | refine wp_seq ?_ | refine wp_block ?_)
      refine v_draw 0 [10, 13, 16] [0, 1] (by kernel_rfl) (by kernel_rfl) H (by rfl) (fun gS H => ?_); try replace H := nt_State H; first | (simp only [ren_s8v, ren_shv, shv] at H; replace H := nt_State H) | skip
      refine v_moreT tab_ok hN H (by rfl) (by (try simp only [ren_s8v, ren_shv, shv, s8v, shv, W32, h0]); first | done | exact ct_State) ?_; clear H; intro a w H; try replace H := nt_State H; first | (simp only [ren_s8v, ren_shv, shv] at H; replace H := nt_State H) | skip
      refine v_callT [] [] (step_v s' (b'.take n' ++ rest.take (64 - n') ++ b'.drop (n' + k)) hlb) H (by rfl) (by rfl) rfl rfl (by rfl) (by simp [pickB, bxs, ren, idx?, sub_refl, sub, allP, ren_s8v, ren_shv, shv] <;> omega) (by first | rfl | (simp [ren_s8v, ren_shv, shv] <;> omega)) (by first | exact trivial | exact ⟨sub_refl _ _, trivial⟩ | exact ⟨sub_refl _ _, sub_refl _ _, trivial⟩ | exact ⟨sub_refl _ _, sub_refl _ _, sub_refl _ _, trivial⟩ | exact ⟨⟨rfl, sub_refl _ _, trivial⟩, sub_refl _ _, trivial⟩ | (simp [cargs, cargsG, St.ev, St.tmp, find, ren, idx?, sub_refl, sub, allP, resv, resC, bss, ren_s8v, ren_shv, shv] <;> omega)) ?_; clear H; intro a w H; try replace H := nt_State H; first | (simp only [ren_s8v, ren_shv, shv] at H; replace H := nt_State H) | skip
      refine v_moreT tab_ok hN H (by rfl) (by (try simp only [ren_s8v, ren_shv, shv, s8v, shv, W32, h0]); first | done | exact ct_State) ?_; clear H; intro a w H; try replace H := nt_State H; first | (simp only [ren_s8v, ren_shv, shv] at H; replace H := nt_State H) | skip
      refine v_drawNil H (fun H => ?_)
      repeat (first | refine wp_seq ?_ | refine wp_block ?_ | refine wp_skip ?_ | refine wp_exit ?_ | ((first | refine v_some 5 tab_ok hN H (by rfl) (by (try simp only [ren_s8v, ren_shv, shv, s8v, shv, W32, h0]); first | done | exact ct_State) ?_ | refine v_more tab_ok hN H (by rfl) (by rfl) (by (try simp only [ren_s8v, ren_shv, shv, s8v, shv, W32, h0]); first | done | exact ct_State) ?_); clear H; intro a w H; replace H := nf_State H; first | (simp only [ren_s8v, ren_shv, shv] at H; replace H := nf_State H) | skip; (try simp only [List.drop_succ_cons, List.drop_zero, List.drop_nil]); try refine wpList_nil ?_) | refine wp_region_lit ?_)
      exact ⟨(_, _, 0, rest.drop k), ⟨hlb, by show 0 < 64; decide, by dsimp only; omega, f, by dsimp only; omega, hfe⟩, by dsimp only; omega, H.to 1 0 ⟨hN, hR⟩ ⟨rfl, rfl, rfl, trivial⟩ rfl rfl rfl rfl rfl⟩
    · have he : ¬ n' + k = 64 := by simp at hb; omega
      rw [if_neg he] at hfe
      repeat (first | refine wp_seq ?_ | refine wp_block ?_ | refine wp_skip ?_ | refine wp_exit ?_ | ((first | refine v_some 5 tab_ok hN H (by rfl) (by (try simp only [ren_s8v, ren_shv, shv, s8v, shv, W32, h0]); first | done | exact ct_State) ?_ | refine v_more tab_ok hN H (by rfl) (by rfl) (by (try simp only [ren_s8v, ren_shv, shv, s8v, shv, W32, h0]); first | done | exact ct_State) ?_); clear H; intro a w H; replace H := nf_State H; first | (simp only [ren_s8v, ren_shv, shv] at H; replace H := nf_State H) | skip; (try simp only [List.drop_succ_cons, List.drop_zero, List.drop_nil]); try refine wpList_nil ?_) | refine wp_region_lit ?_)
      exact ⟨(s', _, n' + k, rest.drop k), ⟨hlb, by dsimp only; omega, by dsimp only; omega, f, by dsimp only; omega, hfe⟩, by dsimp only; omega, H.to 1 0 ⟨hN, hR⟩ ⟨rfl, rfl, rfl, trivial⟩ rfl rfl rfl rfl rfl⟩
  · have h0 : rest = [] := by simp at hb; exact hb
    subst h0
    have hfe2 : feed l.length s b n l = (s', b', n') := by
      rw [← hfe]; cases f with
      | zero => rfl
      | succ f => rw [feed, if_pos rfl]
    rw [hfe2]
    repeat (first | refine wp_seq ?_ | refine wp_block ?_ | refine wp_skip ?_ | refine wp_exit ?_ | ((first | refine v_some 5 tab_ok hN H (by rfl) (by (try simp only [ren_s8v, ren_shv, shv, s8v, shv, W32, h0]); first | done | exact ct_State) ?_ | refine v_more tab_ok hN H (by rfl) (by rfl) (by (try simp only [ren_s8v, ren_shv, shv, s8v, shv, W32, h0]); first | done | exact ct_State) ?_); clear H; intro a w H; replace H := nf_State H; first | (simp only [ren_s8v, ren_shv, shv] at H; replace H := nf_State H) | skip; (try simp only [List.drop_succ_cons, List.drop_zero, List.drop_nil]); try refine wpList_nil ?_) | refine wp_region_lit ?_)
    refine wp_ret ?_
    exact v_end [0] [] tab_ok ⟨hN, hR⟩ (rs := [.tmp 4]) (ress := [_]) rfl H (by rfl) (by rfl) (by simp [pickB, bxs, ren, idx?, sub_refl, sub, allP, ren_s8v, ren_shv, shv] <;> omega) (by first | rfl | (simp [ren_s8v, ren_shv, shv] <;> omega)) (by first | exact trivial | exact ⟨sub_refl _ _, trivial⟩ | exact ⟨sub_refl _ _, sub_refl _ _, trivial⟩ | exact ⟨sub_refl _ _, sub_refl _ _, sub_refl _ _, trivial⟩ | exact ⟨⟨rfl, sub_refl _ _, trivial⟩, sub_refl _ _, trivial⟩ | (simp [cargs, cargsG, St.ev, St.tmp, find, ren, idx?, sub_refl, sub, allP, resv, resC, bss, ren_s8v, ren_shv, shv] <;> omega)) rfl
end Go.Proofs.Ytlagngkafllbiaa
/- Numbers as bytes. -/
namespace Go.Proofs.Ytlagngkafllbiaa
open Go Go.RowKit
/-- The state made plain. -/
theorem nf_Put {P : Program} {w0 w : World} {N : Gh} {nt : Nat} {st s2 : St} {a : Act} (H : Rel P w0 N nt st a w) (h : st = s2 := by (try simp only [pk, elemB, St.put, St.ev, St.tmp, St.keep, find, dropT, slots, AV.put, AV.loc, fitI, convI, IntKind.signed, IntKind.bits, strip, St.lose, mergeL, setAll, nth, renB, ren, idx?, sub, allP, low, bnd, Int.reduceEq, Nat.reduceAdd, Nat.reduceLT, reduceIte, reduceCtorEq, Nat.reduceEqDiff, Nat.reduceLeDiff, Nat.reduceBEq, Int.reducePow, Int.reduceToNat, ti24_t, ti24_z, ti5_t, ti5_z]); rfl) : Rel P w0 N nt s2 a w := h ▸ H
theorem ct_Put {c : Prop} (h : c := by ((try simp only [pk, elemB, St.put, St.ev, St.tmp, St.keep, find, dropT, slots, AV.put, AV.loc, fitI, convI, IntKind.signed, IntKind.bits, strip, St.lose, mergeL, setAll, nth, renB, ren, idx?, sub, allP, low, bnd, Int.reduceEq, Nat.reduceAdd, Nat.reduceLT, reduceIte, reduceCtorEq, Nat.reduceEqDiff, Nat.reduceLeDiff, Nat.reduceBEq, Int.reducePow, Int.reduceToNat, ti24_t, ti24_z, ti5_t, ti5_z, ti24, ti5, fit, gcond, ilo, ihi]); first | done | exact cd | exact cd2 | skip)) : c := h
def be4n (x : Nat) : List UInt8 := [UInt8.ofNat (x / 16777216), UInt8.ofNat (x / 65536), UInt8.ofNat (x / 256), UInt8.ofNat x]
set_option maxRecDepth 20000 in
theorem put32_v (x : Nat) (hx : x < 4294967296) : VC Try.prog 59 [.v (.int .i64 (x : Int))] [(5, 4)] (.tup [.bs (be4n x) (some 0), .v (.int .i64 0)]) := by
  refine v_enter Try.func59 rfl (by kernel_rfl) (by show 1 ≤ 22; decide) ?_
  intro N w0 a w hN hR H
  repeat (first | refine wp_seq ?_ | refine wp_block ?_ | refine wp_skip ?_ | refine wp_exit ?_ | ((first | refine v_some 5 tab_ok hN H (by rfl) ct_Put ?_ | refine v_more tab_ok hN H (by rfl) (by rfl) ct_Put ?_); clear H; intro a w H; replace H := nf_Put H; (try simp only [List.drop_succ_cons, List.drop_zero, List.drop_nil]); try refine wpList_nil ?_) | refine wp_region_lit ?_)
  refine v_cond H (by rfl) (fun hb => ?_) (fun hb => ?_)
  · simp at hb; omega
  repeat (first | refine wp_seq ?_ | refine wp_block ?_ | refine wp_skip ?_ | refine wp_exit ?_ | ((first | refine v_some 5 tab_ok hN H (by rfl) ct_Put ?_ | refine v_more tab_ok hN H (by rfl) (by rfl) ct_Put ?_); clear H; intro a w H; replace H := nf_Put H; (try simp only [List.drop_succ_cons, List.drop_zero, List.drop_nil]); try refine wpList_nil ?_) | refine wp_region_lit ?_)
  have e1 := u8n x 16777216; have e2 := u8n x 65536; have e3 := u8n x 256; have e4 := u8m x
  simp only [Int.cast_ofNat_Int] at e1 e2 e3
  rw [e1, e2, e3, e4] at H
  refine wp_ret ?_
  exact v_end [] [0] tab_ok ⟨hN, hR⟩ (rs := [.tmp 2, .tmp 3]) (ress := [_, _]) rfl H (by rfl) (by rfl) cb cw ca rfl

theorem be4n_len (x : Nat) : (be4n x).length = 4 := rfl
/-- The state after a text. -/
structure Good (l : List UInt8) (s : S8) (b : List UInt8) (n : Nat) : Prop where
  bl : b.length = 64
  nn : n = l.length % 64
  ss : s = steps h0 (l.length / 64) l
  bb : b.take n = l.drop (64 * (l.length / 64))
theorem Good.lt {l : List UInt8} {s : S8} {b : List UInt8} {n : Nat} (h : Good l s b n) : n < 64 := by rw [h.nn]; exact Nat.mod_lt _ (by decide)
theorem good_nil : Good [] h0 (List.replicate 64 0) 0 := ⟨by simp, rfl, by simp [steps_zero], rfl⟩
theorem feed_good : ∀ (f : Nat) (m l : List UInt8) (s : S8) (b : List UInt8) (n : Nat), m.length ≤ f → Good l s b n → Good (l ++ m) (feed f s b n m).1 (feed f s b n m).2.1 (feed f s b n m).2.2
  | 0, m, l, s, b, n, hm, h => by
    have : m = [] := List.length_eq_zero_iff.1 (by omega)
    subst this; simpa [feed] using h
  | f + 1, m, l, s, b, n, hm, h => by
    have hlt := h.lt
    by_cases hz : m = []
    · subst hz; rw [feed, if_pos rfl]; simpa using h
    · have hm0 : 0 < m.length := List.length_pos_iff.2 hz
      rw [feed, if_neg hz]
      dsimp only
      obtain ⟨k, hk⟩ : ∃ k, k = (m.take (64 - n)).length := ⟨_, rfl⟩
      rw [← hk]
      rw [List.length_take] at hk
      have hkm : m.take (64 - n) = m.take k := by
        rw [hk]
        rcases Nat.le_total (64 - n) m.length with h1 | h1
        · rw [Nat.min_eq_left h1]
        · rw [Nat.min_eq_right h1, List.take_length, List.take_of_length_le h1]
      rw [hkm]
      have hbl := h.bl
      have hlb : (b.take n ++ m.take k ++ b.drop (n + k)).length = 64 := by simp only [List.length_append, List.length_take, List.length_drop]; omega
      have hdl : (m.drop k).length ≤ f := by rw [List.length_drop]; omega
      have hn := h.nn
      have hll : (l ++ m.take k).length = l.length + k := by rw [List.length_append, List.length_take]; omega
      have hsplit : l ++ m = (l ++ m.take k) ++ m.drop k := by rw [List.append_assoc, List.take_append_drop]
      have htk : (b.take n ++ m.take k ++ b.drop (n + k)).take (n + k) = b.take n ++ m.take k := by
        rw [List.take_append_of_le_length (by simp only [List.length_append, List.length_take]; omega), List.take_of_length_le (by simp only [List.length_append, List.length_take]; omega)]
      have hdr : (l ++ m.take k).drop (64 * (l.length / 64)) = b.take n ++ m.take k := by
        rw [List.drop_append_of_le_length (by omega), h.bb]
      by_cases he : n + k = 64
      · rw [if_pos he, hsplit]
        refine feed_good f (m.drop k) (l ++ m.take k) _ _ 0 hdl ⟨hlb, by rw [hll]; omega, ?_, ?_⟩
        · have hq : (l ++ m.take k).length / 64 = l.length / 64 + 1 := by rw [hll]; omega
          have e1 : (b.take n ++ m.take k).take 64 = b.take n ++ m.take k := List.take_of_length_le (by simp only [List.length_append, List.length_take]; omega)
          rw [hq, steps_next, steps_append _ _ _ _ (by omega), ← h.ss, hdr, e1, he, List.drop_of_length_le (by omega), List.append_nil]
        · have : 64 * ((l ++ m.take k).length / 64) = (l ++ m.take k).length := by rw [hll]; omega
          rw [this, List.drop_length]; rfl
      · rw [if_neg he, hsplit]
        have hnk : n + k < 64 := by omega
        have hq : (l ++ m.take k).length / 64 = l.length / 64 := by rw [hll]; omega
        refine feed_good f (m.drop k) (l ++ m.take k) _ _ (n + k) hdl ⟨hlb, by rw [hll]; omega, ?_, ?_⟩
        · rw [hq, steps_append _ _ _ _ (by omega)]; exact h.ss
        · rw [hq, htk, hdr]
/-- A write, by texts. -/
theorem write_g (l m : List UInt8) (s : S8) (b : List UInt8) (n : Nat) (h : Good l s b n) (hl : m.length ≤ 34359738368) (all : Nat) (ha : all ≤ 34359738368) :
    ∃ s' b' n', Good (l ++ m) s' b' n' ∧ VX Try.prog 33 [(ti105.ty, shv s b n all)] [] [] [.ptr 0 [], .bs m none]
      [(ti105.ty, shv s' b' n' (all + m.length))] [] [] (.v (.int .i64 (m.length : Int))) :=
  ⟨_, _, _, feed_good m.length m l s b n (Nat.le_refl _) h, write_v s b n all m h.bl h.lt hl ha⟩
end Go.Proofs.Ytlagngkafllbiaa
/- The program's SHA-256 of a text. -/
namespace Go.Proofs.Ytlagngkafllbiaa
open Go Go.RowKit
/-- The state made plain. -/
theorem nf_Sum {P : Program} {w0 w : World} {N : Gh} {nt : Nat} {st s2 : St} {a : Act} (H : Rel P w0 N nt st a w) (h : st = s2 := by (try simp only [pk, elemB, St.put, St.ev, St.tmp, St.keep, find, dropT, slots, AV.put, AV.loc, fitI, convI, IntKind.signed, IntKind.bits, strip, St.lose, mergeL, setAll, nth, renB, ren, idx?, sub, allP, low, bnd, Int.reduceEq, Nat.reduceAdd, Nat.reduceLT, reduceIte, reduceCtorEq, Nat.reduceEqDiff, Nat.reduceLeDiff, Nat.reduceBEq, Int.reducePow, Int.reduceToNat, ti105_t, ti105_z, ti101_t, ti101_z, ti24_t, ti24_z, ti5_t, ti5_z, ti30_t, ti30_z]); rfl) : Rel P w0 N nt s2 a w := h ▸ H
theorem ct_Sum {c : Prop} (h : c := by ((try simp only [pk, elemB, St.put, St.ev, St.tmp, St.keep, find, dropT, slots, AV.put, AV.loc, fitI, convI, IntKind.signed, IntKind.bits, strip, St.lose, mergeL, setAll, nth, renB, ren, idx?, sub, allP, low, bnd, Int.reduceEq, Nat.reduceAdd, Nat.reduceLT, reduceIte, reduceCtorEq, Nat.reduceEqDiff, Nat.reduceLeDiff, Nat.reduceBEq, Int.reducePow, Int.reduceToNat, ti105_t, ti105_z, ti101_t, ti101_z, ti24_t, ti24_z, ti5_t, ti5_z, ti30_t, ti30_z, ti105, ti101, ti24, ti5, ti30, fit, gcond, ilo, ihi]); first | done | exact cd | exact cd2 | skip)) : c := h
def outK (s : S8) : Nat → List UInt8
  | 0 => List.replicate 32 0
  | k + 1 => (outK s k).take (4 * k) ++ (be4n (s.l.getD k 0).toNat).take (32 - 4 * k) ++ (outK s k).drop (4 * k + ((be4n (s.l.getD k 0).toNat).take (32 - 4 * k)).length)
theorem outK_end (s : S8) : outK s 8 = out s := by
  simp [outK, be4n, out, be4, S8.l, List.replicate]
theorem n32lt (y : BitVec 32) : y.toNat < 4294967296 := y.isLt
theorem be8 (v : Nat) (hv : v < 18446744073709551616) : be v 8 = be4n (v / 4294967296) ++ be4n (v % 4294967296) := by
  simp only [be, be4n, List.cons_append, List.nil_append]
  have h1 : ∀ a b : Nat, a % 256 = b % 256 → UInt8.ofNat a = UInt8.ofNat b := fun a b h => UInt8.toNat_inj.1 (by simpa using h)
  have e7 : UInt8.ofNat (v / 256 ^ 7) = UInt8.ofNat (v / 4294967296 / 16777216) := h1 _ _ (by first | rfl | (simp only [Nat.reducePow]; omega))
  have e6 : UInt8.ofNat (v / 256 ^ 6) = UInt8.ofNat (v / 4294967296 / 65536) := h1 _ _ (by first | rfl | (simp only [Nat.reducePow]; omega))
  have e5 : UInt8.ofNat (v / 256 ^ 5) = UInt8.ofNat (v / 4294967296 / 256) := h1 _ _ (by first | rfl | (simp only [Nat.reducePow]; omega))
  have e4 : UInt8.ofNat (v / 256 ^ 4) = UInt8.ofNat (v / 4294967296) := h1 _ _ (by first | rfl | (simp only [Nat.reducePow]; omega))
  have e3 : UInt8.ofNat (v / 256 ^ 3) = UInt8.ofNat (v % 4294967296 / 16777216) := h1 _ _ (by first | rfl | (simp only [Nat.reducePow]; omega))
  have e2 : UInt8.ofNat (v / 256 ^ 2) = UInt8.ofNat (v % 4294967296 / 65536) := h1 _ _ (by first | rfl | (simp only [Nat.reducePow]; omega))
  have e1 : UInt8.ofNat (v / 256 ^ 1) = UInt8.ofNat (v % 4294967296 / 256) := h1 _ _ (by first | rfl | (simp only [Nat.reducePow]; omega))
  have e0 : UInt8.ofNat (v / 256 ^ 0) = UInt8.ofNat (v % 4294967296) := h1 _ _ (by first | rfl | (simp only [Nat.reducePow]; omega))
  rw [e7, e6, e5, e4, e3, e2, e1, e0]
set_option maxRecDepth 20000 in
theorem sumS_v (l : List UInt8) (s : S8) (b : List UInt8) (n : Nat) (h : Good l s b n) (hl : l.length ≤ 34359738000) :
    VX Try.prog 34 [(ti105.ty, shv s b n l.length)] [] [] [.ptr 0 []] [(ti105.ty, shv s b n l.length)] [] [] (.ba (sum l)) := by
  have hbl := h.bl
  refine v_enter Try.func34 rfl (by kernel_rfl) (by show 1 ≤ 68; decide) ?_
  intro N w0 a w hN hR H
  repeat (first | refine wp_seq ?_ | refine wp_block ?_ | refine wp_skip ?_ | refine wp_exit ?_ | ((first | refine v_some 5 tab_ok hN H (by rfl) (by (try simp only [ren_s8v, ren_shv, shv, s8v, shv, W32, h0]); first | done | exact ct_Sum) ?_ | refine v_more tab_ok hN H (by rfl) (by rfl) (by (try simp only [ren_s8v, ren_shv, shv, s8v, shv, W32, h0]); first | done | exact ct_Sum) ?_); clear H; intro a w H; replace H := nf_Sum H; first | (simp only [ren_s8v, ren_shv, shv] at H; replace H := nf_Sum H) | skip; (try simp only [List.drop_succ_cons, List.drop_zero, List.drop_nil]); try refine wpList_nil ?_) | refine wp_region_lit ?_)
  refine v_call [0] [] (none_v s b n l.length) H rfl rfl (by rfl) (by simp [pickB, bxs, ren, idx?, sub_refl, sub, allP, ren_s8v, ren_shv, shv] <;> omega) (by first | rfl | (simp [ren_s8v, ren_shv, shv] <;> omega)) (by first | exact trivial | exact ⟨sub_refl _ _, trivial⟩ | exact ⟨sub_refl _ _, sub_refl _ _, trivial⟩ | exact ⟨sub_refl _ _, sub_refl _ _, sub_refl _ _, trivial⟩ | exact ⟨⟨rfl, sub_refl _ _, trivial⟩, sub_refl _ _, trivial⟩ | (simp [cargs, cargsG, St.ev, St.tmp, find, ren, idx?, sub_refl, sub, allP, resv, resC, bss, ren_s8v, ren_shv, shv] <;> omega)) ?_; clear H; intro a w H; replace H := nf_Sum H; first | (simp only [ren_s8v, ren_shv, shv] at H; replace H := nf_Sum H) | skip; try refine wpList_nil ?_
  refine v_cond H (by rfl) (fun hb => ?_) (fun hb => ?_)
  · cases hb
  repeat (first | refine wp_seq ?_ | refine wp_block ?_ | refine wp_skip ?_ | refine wp_exit ?_ | ((first | refine v_some 5 tab_ok hN H (by rfl) (by (try simp only [ren_s8v, ren_shv, shv, s8v, shv, W32, h0]); first | done | exact ct_Sum) ?_ | refine v_more tab_ok hN H (by rfl) (by rfl) (by (try simp only [ren_s8v, ren_shv, shv, s8v, shv, W32, h0]); first | done | exact ct_Sum) ?_); clear H; intro a w H; replace H := nf_Sum H; first | (simp only [ren_s8v, ren_shv, shv] at H; replace H := nf_Sum H) | skip; (try simp only [List.drop_succ_cons, List.drop_zero, List.drop_nil]); try refine wpList_nil ?_) | refine wp_region_lit ?_)
  obtain ⟨s1, b1, n1, h1, hw1⟩ := write_g l [128] s b n h (by decide) l.length (by omega)
  refine v_call [2] [] (hw1) H rfl rfl (by rfl) (by simp [pickB, bxs, ren, idx?, sub_refl, sub, allP, ren_s8v, ren_shv, shv] <;> omega) (by first | rfl | (simp [ren_s8v, ren_shv, shv] <;> omega)) (by first | exact trivial | exact ⟨sub_refl _ _, trivial⟩ | exact ⟨sub_refl _ _, sub_refl _ _, trivial⟩ | exact ⟨sub_refl _ _, sub_refl _ _, sub_refl _ _, trivial⟩ | exact ⟨⟨rfl, sub_refl _ _, trivial⟩, sub_refl _ _, trivial⟩ | (simp [cargs, cargsG, St.ev, St.tmp, find, ren, idx?, sub_refl, sub, allP, resv, resC, bss, ren_s8v, ren_shv, shv] <;> omega)) ?_; clear H; intro a w H; replace H := nf_Sum H; first | (simp only [ren_s8v, ren_shv, shv] at H; replace H := nf_Sum H) | skip; try refine wpList_nil ?_
  repeat (first | refine wp_seq ?_ | refine wp_block ?_ | refine wp_skip ?_ | refine wp_exit ?_ | ((first | refine v_some 5 tab_ok hN H (by rfl) (by (try simp only [ren_s8v, ren_shv, shv, s8v, shv, W32, h0]); first | done | exact ct_Sum) ?_ | refine v_more tab_ok hN H (by rfl) (by rfl) (by (try simp only [ren_s8v, ren_shv, shv, s8v, shv, W32, h0]); first | done | exact ct_Sum) ?_); clear H; intro a w H; replace H := nf_Sum H; first | (simp only [ren_s8v, ren_shv, shv] at H; replace H := nf_Sum H) | skip; (try simp only [List.drop_succ_cons, List.drop_zero, List.drop_nil]); try refine wpList_nil ?_) | refine wp_region_lit ?_)
  have e4 : (l.length : Int) * 8 % 18446744073709551616 = ((l.length * 8 : Nat) : Int) := by omega
  rw [e4] at H
  refine v_loop (fun i : S8 × List UInt8 × Nat × Nat => ⟨[(0, none, .ptr 0 []), (2, none, .ptr 1 []), (3, none, .ptr 2 []), (4, none, .v (.int .u64 ((l.length * 8 : Nat) : Int)))], [(ti105.ty, .st [.v (.bool true), s8v s, .ba b, .v (.int .i64 (n : Int)), .v (.int .i64 (l.length : Int))]), (.ba 32, .ba (List.replicate 32 0)), (ti105.ty, .st [.v (.bool true), s8v i.1, .ba i.2.1, .v (.int .i64 (i.2.2.1 : Int)), .v (.int .i64 ((l.length + 1 + i.2.2.2 : Nat) : Int))])], [], []⟩)
    (fun i => Good (l ++ [128] ++ List.replicate i.2.2.2 0) i.1 i.2.1 i.2.2.1 ∧ i.2.2.2 ≤ padN l.length) (fun i => padN l.length - i.2.2.2) (s1, b1, n1, 0) ⟨by simpa using h1, Nat.zero_le _⟩
    (H.to 3 0 ⟨Nat.le_trans hN (by show 1 ≤ 3; decide), hR⟩ ⟨rfl, rfl, rfl, rfl, trivial⟩ rfl rfl rfl rfl rfl) ?_
  clear H
  rintro ⟨s2, b2, n2, z⟩ a w ⟨h2, hz⟩ H
  dsimp only at h2 hz
  have hn2 := h2.nn
  have hlen2 : (l ++ [128] ++ List.replicate z 0).length = l.length + 1 + z := by simp; omega
  rw [hlen2] at hn2
  have hpd : padN l.length < 64 ∧ (l.length + 1 + padN l.length) % 64 = 56 := by unfold padN; omega
  have hbl2 := h2.bl
  repeat (first | refine wp_seq ?_ | refine wp_block ?_ | refine wp_skip ?_ | refine wp_exit ?_ | ((first | refine v_some 5 tab_ok hN H (by rfl) (by (try simp only [ren_s8v, ren_shv, shv, s8v, shv, W32, h0]); first | done | exact ct_Sum) ?_ | refine v_more tab_ok hN H (by rfl) (by rfl) (by (try simp only [ren_s8v, ren_shv, shv, s8v, shv, W32, h0]); first | done | exact ct_Sum) ?_); clear H; intro a w H; replace H := nf_Sum H; first | (simp only [ren_s8v, ren_shv, shv] at H; replace H := nf_Sum H) | skip; (try simp only [List.drop_succ_cons, List.drop_zero, List.drop_nil]); try refine wpList_nil ?_) | refine wp_region_lit ?_)
  refine v_cond H (by rfl) (fun hb => ?_) (fun hb => ?_)
  · have hne : n2 ≠ 56 := fun e => by simp [e] at hb
    have hz1 : z + 1 ≤ padN l.length := by
      rcases Nat.lt_or_ge z (padN l.length) with h5 | h5
      · omega
      · have : z = padN l.length := by omega
        subst this; omega
    obtain ⟨s3, b3, n3, h3, hw3⟩ := write_g _ [0] s2 b2 n2 h2 (by decide) (l.length + 1 + z) (by omega)
    repeat (first | refine wp_seq ?_ | refine wp_block ?_ | refine wp_skip ?_ | refine wp_exit ?_ | ((first | refine v_some 5 tab_ok hN H (by rfl) (by (try simp only [ren_s8v, ren_shv, shv, s8v, shv, W32, h0]); first | done | exact ct_Sum) ?_ | refine v_more tab_ok hN H (by rfl) (by rfl) (by (try simp only [ren_s8v, ren_shv, shv, s8v, shv, W32, h0]); first | done | exact ct_Sum) ?_); clear H; intro a w H; replace H := nf_Sum H; first | (simp only [ren_s8v, ren_shv, shv] at H; replace H := nf_Sum H) | skip; (try simp only [List.drop_succ_cons, List.drop_zero, List.drop_nil]); try refine wpList_nil ?_) | refine wp_region_lit ?_)
    refine v_call [2] [] (hw3) H rfl rfl (by rfl) (by simp [pickB, bxs, ren, idx?, sub_refl, sub, allP, ren_s8v, ren_shv, shv] <;> omega) (by first | rfl | (simp [ren_s8v, ren_shv, shv] <;> omega)) (by first | exact trivial | exact ⟨sub_refl _ _, trivial⟩ | exact ⟨sub_refl _ _, sub_refl _ _, trivial⟩ | exact ⟨sub_refl _ _, sub_refl _ _, sub_refl _ _, trivial⟩ | exact ⟨⟨rfl, sub_refl _ _, trivial⟩, sub_refl _ _, trivial⟩ | (simp [cargs, cargsG, St.ev, St.tmp, find, ren, idx?, sub_refl, sub, allP, resv, resC, bss, ren_s8v, ren_shv, shv] <;> omega)) ?_; clear H; intro a w H; replace H := nf_Sum H; first | (simp only [ren_s8v, ren_shv, shv] at H; replace H := nf_Sum H) | skip; try refine wpList_nil ?_
    repeat (first | refine wp_seq ?_ | refine wp_block ?_ | refine wp_skip ?_ | refine wp_exit ?_ | ((first | refine v_some 5 tab_ok hN H (by rfl) (by (try simp only [ren_s8v, ren_shv, shv, s8v, shv, W32, h0]); first | done | exact ct_Sum) ?_ | refine v_more tab_ok hN H (by rfl) (by rfl) (by (try simp only [ren_s8v, ren_shv, shv, s8v, shv, W32, h0]); first | done | exact ct_Sum) ?_); clear H; intro a w H; replace H := nf_Sum H; first | (simp only [ren_s8v, ren_shv, shv] at H; replace H := nf_Sum H) | skip; (try simp only [List.drop_succ_cons, List.drop_zero, List.drop_nil]); try refine wpList_nil ?_) | refine wp_region_lit ?_)
    exact ⟨(s3, b3, n3, z + 1), ⟨by rw [List.append_assoc] at h3; simpa [← List.replicate_succ'] using h3, hz1⟩, by dsimp only; omega, H.to 3 0 ⟨Nat.le_trans hN (by show 1 ≤ 3; decide), hR⟩ ⟨rfl, rfl, rfl, rfl, trivial⟩ rfl rfl rfl rfl rfl⟩
  · have he : n2 = 56 := by simp at hb; omega
    have hz1 : z = padN l.length := by omega
    subst hz1
    subst he
    repeat (first | refine wp_seq ?_ | refine wp_block ?_ | refine wp_skip ?_ | refine wp_exit ?_ | ((first | refine v_some 5 tab_ok hN H (by rfl) (by (try simp only [ren_s8v, ren_shv, shv, s8v, shv, W32, h0]); first | done | exact ct_Sum) ?_ | refine v_more tab_ok hN H (by rfl) (by rfl) (by (try simp only [ren_s8v, ren_shv, shv, s8v, shv, W32, h0]); first | done | exact ct_Sum) ?_); clear H; intro a w H; replace H := nf_Sum H; first | (simp only [ren_s8v, ren_shv, shv] at H; replace H := nf_Sum H) | skip; (try simp only [List.drop_succ_cons, List.drop_zero, List.drop_nil]); try refine wpList_nil ?_) | refine wp_region_lit ?_)
    have e5 : ((l.length * 8 : Nat) : Int) / 4294967296 = ((l.length * 8 / 4294967296 : Nat) : Int) := by omega
    rw [e5] at H
    have hand : bits .and .u64 ((l.length * 8 : Nat) : Int) 4294967295 = ((l.length * 8 % 4294967296 : Nat) : Int) := by
      have h5 := u64_and_nat (l.length * 8) 4294967295 (by omega) (by decide)
      rw [show (4294967295 : Nat) = 2 ^ 32 - 1 from rfl, Nat.and_two_pow_sub_one_eq_mod] at h5
      exact h5
    refine v_call [] [] (put32_v (l.length * 8 / 4294967296) (by omega)) H rfl rfl (by rfl) (by simp [pickB, bxs, ren, idx?, sub_refl, sub, allP, ren_s8v, ren_shv, shv, hand] <;> omega) (by first | rfl | (simp [ren_s8v, ren_shv, shv, hand] <;> omega)) (by first | exact trivial | exact ⟨sub_refl _ _, trivial⟩ | exact ⟨sub_refl _ _, sub_refl _ _, trivial⟩ | exact ⟨sub_refl _ _, sub_refl _ _, sub_refl _ _, trivial⟩ | exact ⟨⟨rfl, sub_refl _ _, trivial⟩, sub_refl _ _, trivial⟩ | (simp [cargs, cargsG, St.ev, St.tmp, find, ren, idx?, sub_refl, sub, allP, resv, resC, bss, ren_s8v, ren_shv, shv, hand] <;> omega)) ?_; clear H; intro a w H; replace H := nf_Sum H; first | (simp only [ren_s8v, ren_shv, shv, hand] at H; replace H := nf_Sum H) | skip; try refine wpList_nil ?_
    repeat (first | refine wp_seq ?_ | refine wp_block ?_ | refine wp_skip ?_ | refine wp_exit ?_ | ((first | refine v_some 5 tab_ok hN H (by rfl) (by (try simp only [ren_s8v, ren_shv, shv, hand, s8v, shv, W32, h0, hand]); first | done | exact ct_Sum) ?_ | refine v_more tab_ok hN H (by rfl) (by rfl) (by (try simp only [ren_s8v, ren_shv, shv, hand, s8v, shv, W32, h0, hand]); first | done | exact ct_Sum) ?_); clear H; intro a w H; replace H := nf_Sum H; first | (simp only [ren_s8v, ren_shv, shv, hand] at H; replace H := nf_Sum H) | skip; (try simp only [List.drop_succ_cons, List.drop_zero, List.drop_nil]); try refine wpList_nil ?_) | refine wp_region_lit ?_)
    refine v_call [] [] (put32_v (l.length * 8 % 4294967296) (by omega)) H rfl rfl (by rfl) (by simp [pickB, bxs, ren, idx?, sub_refl, sub, allP, ren_s8v, ren_shv, shv, hand] <;> omega) (by first | rfl | (simp [ren_s8v, ren_shv, shv, hand] <;> omega)) (by first | exact trivial | exact ⟨sub_refl _ _, trivial⟩ | exact ⟨sub_refl _ _, sub_refl _ _, trivial⟩ | exact ⟨sub_refl _ _, sub_refl _ _, sub_refl _ _, trivial⟩ | exact ⟨⟨rfl, sub_refl _ _, trivial⟩, sub_refl _ _, trivial⟩ | (simp [cargs, cargsG, St.ev, St.tmp, find, ren, idx?, sub_refl, sub, allP, resv, resC, bss, ren_s8v, ren_shv, shv, hand] <;> omega)) ?_; clear H; intro a w H; replace H := nf_Sum H; first | (simp only [ren_s8v, ren_shv, shv, hand] at H; replace H := nf_Sum H) | skip; try refine wpList_nil ?_
    repeat (first | refine wp_seq ?_ | refine wp_block ?_ | refine wp_skip ?_ | refine wp_exit ?_ | ((first | refine v_some 5 tab_ok hN H (by rfl) (by (try simp only [ren_s8v, ren_shv, shv, hand, s8v, shv, W32, h0, hand]); first | done | exact ct_Sum) ?_ | refine v_more tab_ok hN H (by rfl) (by rfl) (by (try simp only [ren_s8v, ren_shv, shv, hand, s8v, shv, W32, h0, hand]); first | done | exact ct_Sum) ?_); clear H; intro a w H; replace H := nf_Sum H; first | (simp only [ren_s8v, ren_shv, shv, hand] at H; replace H := nf_Sum H) | skip; (try simp only [List.drop_succ_cons, List.drop_zero, List.drop_nil]); try refine wpList_nil ?_) | refine wp_region_lit ?_)
    obtain ⟨s3, b3, n3, h3, hw3⟩ := write_g _ (be4n (l.length * 8 / 4294967296)) s2 b2 56 h2 (by rw [be4n_len]; decide) (l.length + 1 + padN l.length) (by omega)
    refine v_call [2] [] (hw3) H rfl rfl (by rfl) (by simp [pickB, bxs, ren, idx?, sub_refl, sub, allP, ren_s8v, ren_shv, shv, hand] <;> omega) (by first | rfl | (simp [ren_s8v, ren_shv, shv, hand] <;> omega)) (by first | exact trivial | exact ⟨sub_refl _ _, trivial⟩ | exact ⟨sub_refl _ _, sub_refl _ _, trivial⟩ | exact ⟨sub_refl _ _, sub_refl _ _, sub_refl _ _, trivial⟩ | exact ⟨⟨rfl, sub_refl _ _, trivial⟩, sub_refl _ _, trivial⟩ | (simp [cargs, cargsG, St.ev, St.tmp, find, ren, idx?, sub_refl, sub, allP, resv, resC, bss, ren_s8v, ren_shv, shv, hand] <;> omega)) ?_; clear H; intro a w H; replace H := nf_Sum H; first | (simp only [ren_s8v, ren_shv, shv, hand] at H; replace H := nf_Sum H) | skip; try refine wpList_nil ?_
    repeat (first | refine wp_seq ?_ | refine wp_block ?_ | refine wp_skip ?_ | refine wp_exit ?_ | ((first | refine v_some 5 tab_ok hN H (by rfl) (by (try simp only [ren_s8v, ren_shv, shv, hand, s8v, shv, W32, h0, hand]); first | done | exact ct_Sum) ?_ | refine v_more tab_ok hN H (by rfl) (by rfl) (by (try simp only [ren_s8v, ren_shv, shv, hand, s8v, shv, W32, h0, hand]); first | done | exact ct_Sum) ?_); clear H; intro a w H; replace H := nf_Sum H; first | (simp only [ren_s8v, ren_shv, shv, hand] at H; replace H := nf_Sum H) | skip; (try simp only [List.drop_succ_cons, List.drop_zero, List.drop_nil]); try refine wpList_nil ?_) | refine wp_region_lit ?_)
    obtain ⟨s4, b4, n4, h4, hw4⟩ := write_g _ (be4n (l.length * 8 % 4294967296)) s3 b3 n3 h3 (by rw [be4n_len]; decide) (l.length + 1 + padN l.length + 4) (by omega)
    refine v_call [2] [] (hw4) H rfl rfl (by rfl) (by simp [pickB, bxs, ren, idx?, sub_refl, sub, allP, ren_s8v, ren_shv, shv, hand, be4n_len] <;> omega) (by first | rfl | (simp [ren_s8v, ren_shv, shv, hand, be4n_len] <;> omega)) (by first | exact trivial | exact ⟨sub_refl _ _, trivial⟩ | exact ⟨sub_refl _ _, sub_refl _ _, trivial⟩ | exact ⟨sub_refl _ _, sub_refl _ _, sub_refl _ _, trivial⟩ | exact ⟨⟨rfl, sub_refl _ _, trivial⟩, sub_refl _ _, trivial⟩ | (simp [cargs, cargsG, St.ev, St.tmp, find, ren, idx?, sub_refl, sub, allP, resv, resC, bss, ren_s8v, ren_shv, shv, hand, be4n_len] <;> omega)) ?_; clear H; intro a w H; replace H := nf_Sum H; first | (simp only [ren_s8v, ren_shv, shv, hand, be4n_len] at H; replace H := nf_Sum H) | skip; try refine wpList_nil ?_
    repeat (first | refine wp_seq ?_ | refine wp_block ?_ | refine wp_skip ?_ | refine wp_exit ?_ | ((first | refine v_some 5 tab_ok hN H (by rfl) (by (try simp only [ren_s8v, ren_shv, shv, hand, be4n_len, s8v, shv, W32, h0, hand]); first | done | exact ct_Sum) ?_ | refine v_more tab_ok hN H (by rfl) (by rfl) (by (try simp only [ren_s8v, ren_shv, shv, hand, be4n_len, s8v, shv, W32, h0, hand]); first | done | exact ct_Sum) ?_); clear H; intro a w H; replace H := nf_Sum H; first | (simp only [ren_s8v, ren_shv, shv, hand, be4n_len] at H; replace H := nf_Sum H) | skip; (try simp only [List.drop_succ_cons, List.drop_zero, List.drop_nil]); try refine wpList_nil ?_) | refine wp_region_lit ?_)
    have hpad : l ++ [128] ++ List.replicate (padN l.length) 0 ++ be4n (l.length * 8 / 4294967296) ++ be4n (l.length * 8 % 4294967296) = pad l := by
      rw [pad_def, be8 _ (by omega), List.append_assoc _ (be4n _)]
    rw [hpad] at h4
    have hout : out s4 = sum l := by rw [sum_def, ← h4.ss]
    refine v_loop (fun k : Nat => ⟨[(2, none, .ptr 1 []), (9, none, .ptr 3 []), (50, none, s8v s4), (51, none, .v (.int .i64 (k : Int)))], [(ti105.ty, .st [.v (.bool true), s8v s, .ba b, .v (.int .i64 (n : Int)), .v (.int .i64 (l.length : Int))]), (.ba 32, .ba (List.replicate 32 0)), (ti105.ty, .st [.v (.bool true), s8v s4, .ba b4, .v (.int .i64 (n4 : Int)), .v (.int .i64 ((l.length + 1 + padN l.length + 4 + 4 : Nat) : Int))]), (.ba 32, .ba (outK s4 k))], [], []⟩)
      (fun k => k ≤ 8) (fun k => 8 - k) 0 (by decide) (H.to 4 0 ⟨Nat.le_trans hN (by show 1 ≤ 4; decide), hR⟩ ⟨rfl, rfl, rfl, rfl, trivial⟩ rfl rfl rfl rfl rfl) ?_
    clear H
    intro k a w hk H
    have hN0 := hN
    replace hN : N.bx.length ≤ 100 := Nat.le_trans hN (by show 1 ≤ 100; decide)
    repeat (first | refine wp_seq ?_ | refine wp_block ?_ | refine wp_skip ?_ | refine wp_exit ?_ | ((first | refine v_some 5 tab_ok hN H (by rfl) (by (try simp only [ren_s8v, ren_shv, shv, hand, be4n_len, s8v, shv, W32, h0, hand]); first | done | exact ct_Sum) ?_ | refine v_more tab_ok hN H (by rfl) (by rfl) (by (try simp only [ren_s8v, ren_shv, shv, hand, be4n_len, s8v, shv, W32, h0, hand]); first | done | exact ct_Sum) ?_); clear H; intro a w H; replace H := nf_Sum H; first | (simp only [ren_s8v, ren_shv, shv, hand, be4n_len] at H; replace H := nf_Sum H) | skip; (try simp only [List.drop_succ_cons, List.drop_zero, List.drop_nil]); try refine wpList_nil ?_) | refine wp_region_lit ?_)
    refine v_cond H (by rfl) (fun hb => ?_) (fun hb => ?_)
    · have hk8 : k < 8 := by simp at hb; omega
      have hs8 : k = 0 ∨ k = 1 ∨ k = 2 ∨ k = 3 ∨ k = 4 ∨ k = 5 ∨ k = 6 ∨ k = 7 := by omega
      have hol : ∀ k, k ≤ 8 → (outK s4 k).length = 32 := fun k hk => by
        induction k with
        | zero => simp [outK]
        | succ k ih => have := ih (by omega); simp only [outK, List.length_append, List.length_take, List.length_drop, be4n_len]; omega
      have q0 := n32_lo s4.a; have q1 := n32_lo s4.b; have q2 := n32_lo s4.c; have q3 := n32_lo s4.d; have q4 := n32_lo s4.e; have q5 := n32_lo s4.f; have q6 := n32_lo s4.g; have q7 := n32_lo s4.h
      have r0 := n32_hi s4.a; have r1 := n32_hi s4.b; have r2 := n32_hi s4.c; have r3 := n32_hi s4.d; have r4 := n32_hi s4.e; have r5 := n32_hi s4.f; have r6 := n32_hi s4.g; have r7 := n32_hi s4.h
      have o0 := hol 0 (by decide); have o1 := hol 1 (by decide); have o2 := hol 2 (by decide); have o3 := hol 3 (by decide); have o4 := hol 4 (by decide); have o5 := hol 5 (by decide); have o6 := hol 6 (by decide); have o7 := hol 7 (by decide)
      rcases hs8 with rfl | rfl | rfl | rfl | rfl | rfl | rfl | rfl
      all_goals
        repeat (first | refine wp_seq ?_ | refine wp_block ?_ | refine wp_skip ?_ | refine wp_exit ?_ | ((first | refine v_some 5 tab_ok hN H (by rfl) (by (try simp only [ren_s8v, ren_shv, shv, hand, be4n_len, s8v, shv, W32, h0, hand]); first | done | exact ct_Sum) ?_ | refine v_more tab_ok hN H (by rfl) (by rfl) (by (try simp only [ren_s8v, ren_shv, shv, hand, be4n_len, s8v, shv, W32, h0, hand]); first | done | exact ct_Sum) ?_); clear H; intro a w H; replace H := nf_Sum H; first | (simp only [ren_s8v, ren_shv, shv, hand, be4n_len] at H; replace H := nf_Sum H) | skip; (try simp only [List.drop_succ_cons, List.drop_zero, List.drop_nil]); try refine wpList_nil ?_) | refine wp_region_lit ?_)
        refine v_call [] [] (put32_v _ (n32lt _)) H rfl rfl (by rfl) (by simp [pickB, bxs, ren, idx?, sub_refl, sub, allP, ren_s8v, ren_shv, shv, hand, be4n_len] <;> omega) (by first | rfl | (simp [ren_s8v, ren_shv, shv, hand, be4n_len] <;> omega)) (by first | exact trivial | exact ⟨sub_refl _ _, trivial⟩ | exact ⟨sub_refl _ _, sub_refl _ _, trivial⟩ | exact ⟨sub_refl _ _, sub_refl _ _, sub_refl _ _, trivial⟩ | exact ⟨⟨rfl, sub_refl _ _, trivial⟩, sub_refl _ _, trivial⟩ | (simp [cargs, cargsG, St.ev, St.tmp, find, ren, idx?, sub_refl, sub, allP, resv, resC, bss, ren_s8v, ren_shv, shv, hand, be4n_len] <;> omega)) ?_; clear H; intro a w H; replace H := nf_Sum H; first | (simp only [ren_s8v, ren_shv, shv, hand, be4n_len] at H; replace H := nf_Sum H) | skip; try refine wpList_nil ?_
        repeat (first | refine wp_seq ?_ | refine wp_block ?_ | refine wp_skip ?_ | refine wp_exit ?_ | ((first | refine v_some 5 tab_ok hN H (by rfl) (by (try simp only [ren_s8v, ren_shv, shv, hand, be4n_len, s8v, shv, W32, h0, hand]); first | done | exact ct_Sum) ?_ | refine v_more tab_ok hN H (by rfl) (by rfl) (by (try simp only [ren_s8v, ren_shv, shv, hand, be4n_len, s8v, shv, W32, h0, hand]); first | done | exact ct_Sum) ?_); clear H; intro a w H; replace H := nf_Sum H; first | (simp only [ren_s8v, ren_shv, shv, hand, be4n_len] at H; replace H := nf_Sum H) | skip; (try simp only [List.drop_succ_cons, List.drop_zero, List.drop_nil]); try refine wpList_nil ?_) | refine wp_region_lit ?_)
        refine ⟨_ + 1, by decide, ?_, H.to 4 0 ⟨Nat.le_trans hN0 (by show 1 ≤ 4; decide), hR⟩ ⟨rfl, rfl, rfl, rfl, trivial⟩ rfl rfl rfl rfl rfl⟩
        decide
    · have he8 : k = 8 := by simp at hb; omega
      subst he8
      rw [outK_end, hout] at H
      have hsl := sum_length l
      repeat (first | refine wp_seq ?_ | refine wp_block ?_ | refine wp_skip ?_ | refine wp_exit ?_ | ((first | refine v_some 5 tab_ok hN H (by rfl) (by (try simp only [ren_s8v, ren_shv, shv, hand, be4n_len, s8v, shv, W32, h0, hand]); first | done | exact ct_Sum) ?_ | refine v_more tab_ok hN H (by rfl) (by rfl) (by (try simp only [ren_s8v, ren_shv, shv, hand, be4n_len, s8v, shv, W32, h0, hand]); first | done | exact ct_Sum) ?_); clear H; intro a w H; replace H := nf_Sum H; first | (simp only [ren_s8v, ren_shv, shv, hand, be4n_len] at H; replace H := nf_Sum H) | skip; (try simp only [List.drop_succ_cons, List.drop_zero, List.drop_nil]); try refine wpList_nil ?_) | refine wp_region_lit ?_)
      replace hN := hN0
      refine wp_ret ?_
      exact v_end [0] [] tab_ok ⟨hN, hR⟩ (rs := [.cell 2 30]) (ress := [_]) rfl H (by rfl) (by rfl) (by simp [pickB, bxs, ren, idx?, sub_refl, sub, allP, ren_s8v, ren_shv, shv, hand, be4n_len] <;> omega) (by first | rfl | (simp [ren_s8v, ren_shv, shv, hand, be4n_len] <;> omega)) (by first | exact trivial | exact ⟨sub_refl _ _, trivial⟩ | exact ⟨sub_refl _ _, sub_refl _ _, trivial⟩ | exact ⟨sub_refl _ _, sub_refl _ _, sub_refl _ _, trivial⟩ | exact ⟨⟨rfl, sub_refl _ _, trivial⟩, sub_refl _ _, trivial⟩ | (simp [cargs, cargsG, St.ev, St.tmp, find, ren, idx?, sub_refl, sub, allP, resv, resC, bss, ren_s8v, ren_shv, shv, hand, be4n_len] <;> omega)) rfl
end Go.Proofs.Ytlagngkafllbiaa
/- Digests: SHA-256 of a text; of a byte and parts. -/
namespace Go.Proofs.Ytlagngkafllbiaa
open Go Go.RowKit
/-- The state made plain. -/
theorem nf_Digest {P : Program} {w0 w : World} {N : Gh} {nt : Nat} {st s2 : St} {a : Act} (H : Rel P w0 N nt st a w) (h : st = s2 := by (try simp only [pk, elemB, St.put, St.ev, St.tmp, St.keep, find, dropT, slots, AV.put, AV.loc, fitI, convI, IntKind.signed, IntKind.bits, strip, St.lose, mergeL, setAll, nth, renB, ren, idx?, sub, allP, low, bnd, Int.reduceEq, Nat.reduceAdd, Nat.reduceLT, reduceIte, reduceCtorEq, Nat.reduceEqDiff, Nat.reduceLeDiff, Nat.reduceBEq, Int.reducePow, Int.reduceToNat, ti105_t, ti105_z, ti101_t, ti101_z, ti24_t, ti24_z, ti5_t, ti5_z, ti30_t, ti30_z]); rfl) : Rel P w0 N nt s2 a w := h ▸ H
theorem ct_Digest {c : Prop} (h : c := by ((try simp only [pk, elemB, St.put, St.ev, St.tmp, St.keep, find, dropT, slots, AV.put, AV.loc, fitI, convI, IntKind.signed, IntKind.bits, strip, St.lose, mergeL, setAll, nth, renB, ren, idx?, sub, allP, low, bnd, Int.reduceEq, Nat.reduceAdd, Nat.reduceLT, reduceIte, reduceCtorEq, Nat.reduceEqDiff, Nat.reduceLeDiff, Nat.reduceBEq, Int.reducePow, Int.reduceToNat, ti105_t, ti105_z, ti101_t, ti101_z, ti24_t, ti24_z, ti5_t, ti5_z, ti30_t, ti30_z, ti105, ti101, ti24, ti5, ti30, fit, gcond, ilo, ihi]); first | done | exact cd | exact cd2 | skip)) : c := h
set_option maxRecDepth 20000 in
theorem sum_v (l : List UInt8) (hl : l.length ≤ 34359738000) : VC Try.prog 10 [.bs l none] [] (.ba (sum l)) := by
  have hsl := sum_length l
  refine v_enter Try.func10 rfl (by kernel_rfl) (by show 1 ≤ 10; decide) ?_
  intro N w0 a w hN hR H
  repeat (first | refine wp_seq ?_ | refine wp_block ?_ | refine wp_skip ?_ | refine wp_exit ?_ | ((first | refine v_some 5 tab_ok hN H (by rfl) (by (try simp only [ren_s8v, ren_shv, s8v, shv, W32, h0]); first | done | exact ct_Digest) ?_ | refine v_more tab_ok hN H (by rfl) (by rfl) (by (try simp only [ren_s8v, ren_shv, s8v, shv, W32, h0]); first | done | exact ct_Digest) ?_); clear H; intro a w H; replace H := nf_Digest H; first | (simp only [ren_s8v, ren_shv] at H; replace H := nf_Digest H) | skip; (try simp only [List.drop_succ_cons, List.drop_zero, List.drop_nil]); try refine wpList_nil ?_) | refine wp_region_lit ?_)
  refine v_call [] [] (new_v) H rfl rfl (by rfl) (by simp [pickB, bxs, ren, idx?, sub_refl, sub, allP, ren_s8v, ren_shv] <;> omega) (by first | rfl | (simp [ren_s8v, ren_shv] <;> omega)) (by first | exact trivial | exact ⟨sub_refl _ _, trivial⟩ | exact ⟨sub_refl _ _, sub_refl _ _, trivial⟩ | exact ⟨sub_refl _ _, sub_refl _ _, sub_refl _ _, trivial⟩ | exact ⟨⟨rfl, sub_refl _ _, trivial⟩, sub_refl _ _, trivial⟩ | (simp [cargs, cargsG, St.ev, St.tmp, find, ren, idx?, sub_refl, sub, allP, resv, resC, bss, ren_s8v, ren_shv] <;> omega)) ?_; clear H; intro a w H; replace H := nf_Digest H; first | (simp only [ren_s8v, ren_shv] at H; replace H := nf_Digest H) | skip; try refine wpList_nil ?_
  repeat (first | refine wp_seq ?_ | refine wp_block ?_ | refine wp_skip ?_ | refine wp_exit ?_ | ((first | refine v_some 5 tab_ok hN H (by rfl) (by (try simp only [ren_s8v, ren_shv, s8v, shv, W32, h0]); first | done | exact ct_Digest) ?_ | refine v_more tab_ok hN H (by rfl) (by rfl) (by (try simp only [ren_s8v, ren_shv, s8v, shv, W32, h0]); first | done | exact ct_Digest) ?_); clear H; intro a w H; replace H := nf_Digest H; first | (simp only [ren_s8v, ren_shv] at H; replace H := nf_Digest H) | skip; (try simp only [List.drop_succ_cons, List.drop_zero, List.drop_nil]); try refine wpList_nil ?_) | refine wp_region_lit ?_)
  obtain ⟨s1, b1, n1, h1, hw1⟩ := write_g [] l h0 (List.replicate 64 0) 0 good_nil (by omega) 0 (by decide)
  refine v_call [1] [] (hw1) H rfl rfl (by rfl) (by simp [pickB, bxs, ren, idx?, sub_refl, sub, allP, ren_s8v, ren_shv] <;> omega) (by first | rfl | (simp [ren_s8v, ren_shv] <;> omega)) (by first | exact trivial | exact ⟨sub_refl _ _, trivial⟩ | exact ⟨sub_refl _ _, sub_refl _ _, trivial⟩ | exact ⟨sub_refl _ _, sub_refl _ _, sub_refl _ _, trivial⟩ | exact ⟨⟨rfl, sub_refl _ _, trivial⟩, sub_refl _ _, trivial⟩ | (simp [cargs, cargsG, St.ev, St.tmp, find, ren, idx?, sub_refl, sub, allP, resv, resC, bss, ren_s8v, ren_shv] <;> omega)) ?_; clear H; intro a w H; replace H := nf_Digest H; first | (simp only [ren_s8v, ren_shv] at H; replace H := nf_Digest H) | skip; try refine wpList_nil ?_
  repeat (first | refine wp_seq ?_ | refine wp_block ?_ | refine wp_skip ?_ | refine wp_exit ?_ | ((first | refine v_some 5 tab_ok hN H (by rfl) (by (try simp only [ren_s8v, ren_shv, s8v, shv, W32, h0]); first | done | exact ct_Digest) ?_ | refine v_more tab_ok hN H (by rfl) (by rfl) (by (try simp only [ren_s8v, ren_shv, s8v, shv, W32, h0]); first | done | exact ct_Digest) ?_); clear H; intro a w H; replace H := nf_Digest H; first | (simp only [ren_s8v, ren_shv] at H; replace H := nf_Digest H) | skip; (try simp only [List.drop_succ_cons, List.drop_zero, List.drop_nil]); try refine wpList_nil ?_) | refine wp_region_lit ?_)
  rw [List.nil_append] at h1
  refine v_call [1] [] (sumS_v l s1 b1 n1 h1 hl) H rfl rfl (by rfl) (by simp [pickB, bxs, ren, idx?, sub_refl, sub, allP, ren_s8v, ren_shv, Nat.zero_add] <;> omega) (by first | rfl | (simp [ren_s8v, ren_shv, Nat.zero_add] <;> omega)) (by first | exact trivial | exact ⟨sub_refl _ _, trivial⟩ | exact ⟨sub_refl _ _, sub_refl _ _, trivial⟩ | exact ⟨sub_refl _ _, sub_refl _ _, sub_refl _ _, trivial⟩ | exact ⟨⟨rfl, sub_refl _ _, trivial⟩, sub_refl _ _, trivial⟩ | (simp [cargs, cargsG, St.ev, St.tmp, find, ren, idx?, sub_refl, sub, allP, resv, resC, bss, ren_s8v, ren_shv, Nat.zero_add] <;> omega)) ?_; clear H; intro a w H; replace H := nf_Digest H; first | (simp only [ren_s8v, ren_shv, Nat.zero_add] at H; replace H := nf_Digest H) | skip; try refine wpList_nil ?_
  repeat (first | refine wp_seq ?_ | refine wp_block ?_ | refine wp_skip ?_ | refine wp_exit ?_ | ((first | refine v_some 5 tab_ok hN H (by rfl) (by (try simp only [ren_s8v, ren_shv, Nat.zero_add, s8v, shv, W32, h0]); first | done | exact ct_Digest) ?_ | refine v_more tab_ok hN H (by rfl) (by rfl) (by (try simp only [ren_s8v, ren_shv, Nat.zero_add, s8v, shv, W32, h0]); first | done | exact ct_Digest) ?_); clear H; intro a w H; replace H := nf_Digest H; first | (simp only [ren_s8v, ren_shv, Nat.zero_add] at H; replace H := nf_Digest H) | skip; (try simp only [List.drop_succ_cons, List.drop_zero, List.drop_nil]); try refine wpList_nil ?_) | refine wp_region_lit ?_)
  refine wp_ret ?_
  exact v_end [] [] tab_ok ⟨hN, hR⟩ (rs := [.cell 2 30]) (ress := [_]) rfl H (by rfl) (by rfl) (by simp [pickB, bxs, ren, idx?, sub_refl, sub, allP, ren_s8v, ren_shv, Nat.zero_add] <;> omega) (by first | rfl | (simp [ren_s8v, ren_shv, Nat.zero_add] <;> omega)) (by first | exact trivial | exact ⟨sub_refl _ _, trivial⟩ | exact ⟨sub_refl _ _, sub_refl _ _, trivial⟩ | exact ⟨sub_refl _ _, sub_refl _ _, sub_refl _ _, trivial⟩ | exact ⟨⟨rfl, sub_refl _ _, trivial⟩, sub_refl _ _, trivial⟩ | (simp [cargs, cargsG, St.ev, St.tmp, find, ren, idx?, sub_refl, sub, allP, resv, resC, bss, ren_s8v, ren_shv, Nat.zero_add] <;> omega)) rfl
end Go.Proofs.Ytlagngkafllbiaa
