/- A stretch of operations, run on what is known. -/
import Derived.Test.YtpeefeioccglcaaEff5
set_option linter.unusedSimpArgs false
set_option linter.unusedVariables false
namespace Go.Proofs.Ytpeefeioccglcaa
open Go Go.RowKit
def eop (τ : Tab) (md : Option Nat) (st : St) (c : Gd) (o : Op) : ER :=
  match o with
  | .box e x => boxE τ st e (st.ev c x)
  | .alloc e => allocE τ st e
  | .store t x y => storeE τ st t (st.ev c x) (st.ev c y)
  | .build t ps => (match buildq τ st c t ps.toList with
    | some (r, cd) => some (st, r, cd)
    | none => none)
  | .buildSlice t n ps => bslE τ st c t n ps.toList
  | .slice t x lo hi none => (match md with
    | some q0 => frzE τ q0 st t (st.ev c x) (lo.map (st.ev c)) (hi.map (st.ev c))
    | none => none)
  | .call k => (match k.callee, k.args.toList, k.argTypes.toList with
    | .builtin .append, [x, y], [t, t'] => if t = t' then appE τ st t (st.ev c x) (st.ev c y) else none
    | .builtin .copy, [x, y], [t, _] => cpyE τ st t (st.ev c x) (st.ev c y)
    | _, _, _ => none)
  | .makeSlice t l k => mkE τ st c t l k
  | _ => none
/-- The slot is written. -/
def dropT (d : Nat) : List (Nat × Gd × AV) → List (Nat × Gd × AV)
  | [] => []
  | (k, none, x) :: l => if k = d then dropT d l else (k, none, x) :: dropT d l
  | (k, some (j, b), x) :: l => if k = d ∨ j = d then dropT d l else (k, some (j, b), x) :: dropT d l
def St.put (st : St) (dst : Option Tmp) (c : Gd) (r : AV) : St :=
  match dst with
  | none => st
  | some d => { st with t := (d, c, r) :: dropT d st.t }
def okDst (nt : Nat) (c : Gd) : Option Tmp → Bool
  | none => true
  | some d => decide (d < nt) && (match c with | none => true | some (j, _) => j != d)
/-- The guard of an operation, by its slot. -/
def gdOf (ops : Array Oper) (o : Oper) : Option Gd :=
  match o.guard with
  | none => some none
  | some (j, want) => (match (ops[j]?).bind (·.dst) with
    | some t => some (some (t, want))
    | none => none)
def isNoneG : Gd → Bool
  | none => true
  | _ => false
def qop2 (τ : Tab) (st : St) (c : Gd) (o : Op) : QR :=
  match o with
  | .build t ps => buildq τ st c t ps.toList
  | o => qop τ st c o
/-- A condition that is asked only where the guard holds. -/
def gcond (st : St) (c : Gd) (cd : Prop) : Prop :=
  match c with
  | none => cd
  | some (j, b) => (match find j st.t with
    | some (none, .v (.bool p)) => p = b → cd
    | _ => cd)
theorem gcond_elim {g : Gh} {nt : Nat} {st : St} {a : Act} (hF : FR g nt st a) {c : Gd} {cd : Prop} (h : gcond st c cd) (hg : gholds a c) : cd := by
  unfold gcond at h
  split at h
  · exact h
  · rename_i j b
    split at h
    · rename_i p hf
      have h1 := (hF.t _ (find_mem hf) trivial).v_inv
      have h2 : a.tmps.getD j undef = .bool b := hg
      rw [h2] at h1
      injection h1 with h1
      exact h h1.symm
    · exact h
/-- One operation: those with an effect only where no guard stands. -/
def vstep (τ : Tab) (md : Option Nat) (nt : Nat) (ops : Array Oper) (o : Oper) (st : St) : Option (St × Prop) :=
  match gdOf ops o with
  | none => none
  | some c =>
    if okDst nt c o.dst then
      match (if isNoneG c then eop τ md st c o.op else none) with
      | some (st', r, cd) => some (st'.put o.dst c r, cd)
      | none => (match qop2 τ st c o.op with
        | some (r, cd) => some (st.put o.dst c r, gcond st c cd)
        | none => none)
    else none
def vrun (τ : Tab) (md : Option Nat) (nt : Nat) (ops : Array Oper) : List Oper → St → Prop → St × Prop × List Oper
  | [], st, c => (st, c, [])
  | o :: l, st, c =>
    match vstep τ md nt ops o st with
    | some (st', cd) => vrun τ md nt ops l st' (c ∧ cd)
    | none => (st, c, o :: l)
section
variable {P : Program} {τ : Tab} {w0 w : World} {N : Gh} {g : Gh} {st st' : St} {r : AV} {cd : Prop} {nt : Nat} {a : Act}
def isSto : Op → Bool
  | .store _ _ _ => true
  | .call k => (match k.callee with | .builtin .copy => true | _ => false)
  | _ => false
theorem eop_sound (hτ : τ.ok P) {md : Option Nat} (hN : ∀ q, md = some q → N.bx.length ≤ q) (H : Inv P w0 N g st.bx st.fz st.rw w) (hF : FR g nt st a) {c : Gd} (hg : gholds a c) {o : Oper} (h : eop τ md st c o.op = some (st', r, cd)) (hc : cd) :
    EOk (isSto o.op) P w0 N g st st' r w (execOp a.eval o) := by
  have E := fun x => ev_sound hF hg x
  have RO_ : ∀ x : Option Operand, RO g (x.map (st.ev c)) (x.map a.eval) := fun x => by cases x with | none => trivial | some x => exact E x
  obtain ⟨dst, op, ty, pos, after, gd⟩ := o
  dsimp only at h
  unfold eop at h
  unfold execOp
  split at h
  · exact boxE_sound hτ H h hc (E _)
  · exact allocE_sound hτ H h
  · exact storeE_sound hτ H h hc (E _) (E _)
  · split at h
    · rename_i r0 cd0 hb
      obtain ⟨rfl, rfl, rfl⟩ := ER.inj h
      obtain ⟨z, h1, h2⟩ := buildq_sound hτ hF hg hb hc
      exact ⟨g, w, ⟨Gh.le.refl g, fun _ => Bs.refl g⟩, H, rfl, .inl ⟨z, by simp [h2 w], h1⟩⟩
    · cases h
  · exact bslE_sound hτ H hF hg h hc
  · split at h
    · exact frzE_sound hτ H (hN _ rfl) h hc (E _) (RO_ _) (RO_ _)
    · cases h
  · rename_i k
    obtain ⟨cal, args, ats⟩ := k
    dsimp only at h
    split at h
    · rename_i x y t t' e2 e3
      split at h
      · rename_i htt; subst htt
        obtain rfl : args = #[x, y] := Array.toList_inj.1 e2
        obtain rfl : ats = #[t, t] := Array.toList_inj.1 e3
        obtain ⟨g', w', k1, k2, k3, k4⟩ := appE_sound hτ H h hc (E x) (E y) ty
        refine ⟨g', w', k1, k2, k3, ?_⟩
        rcases k4 with ⟨z, h1, h2⟩ | ⟨h1, h2⟩
        · exact .inl ⟨z, by simpa [resolve, invoke, builtin] using h1, h2⟩
        · exfalso; simp only [Sem.run_bind] at h1
          cases hr : (Builtin.append_ #[t, t] ty #[a.eval x, a.eval y]).run P w <;> rw [hr] at h1 <;> simp [Result.andThen] at h1
      · cases h
    · rename_i x y t t' e2 e3
      obtain rfl : args = #[x, y] := Array.toList_inj.1 e2
      obtain rfl : ats = #[t, t'] := Array.toList_inj.1 e3
      obtain ⟨g', w', k1, k2, k3, k4⟩ := cpyE_sound hτ H h (E x) (E y) t' ty
      refine ⟨g', w', k1, k2, k3, ?_⟩
      rcases k4 with ⟨z, h1, h2⟩ | ⟨h1, h2⟩
      · exact .inl ⟨z, by simpa [resolve, invoke, builtin] using h1, h2⟩
      · exfalso; simp only [Sem.run_bind] at h1
        cases hr : (Builtin.copy_ #[t, t'] ty #[a.eval x, a.eval y]).run P w <;> rw [hr] at h1 <;> simp [Result.andThen] at h1
    · cases h
  · exact mkE_sound hτ H hF hg h hc
  · cases h
theorem dropT_mem {d : Nat} {p : Nat × Gd × AV} : ∀ {l : List (Nat × Gd × AV)}, p ∈ dropT d l → p ∈ l ∧ p.1 ≠ d ∧ ∀ j b, p.2.1 = some (j, b) → j ≠ d
  | (k, none, x) :: l, h => by
    unfold dropT at h
    split at h
    · obtain ⟨h1, h2⟩ := dropT_mem h; exact ⟨List.mem_cons_of_mem _ h1, h2⟩
    · rename_i hk
      rcases List.mem_cons.1 h with h | h
      · subst h; exact ⟨List.mem_cons_self, hk, fun j b e => by cases e⟩
      · obtain ⟨h1, h2⟩ := dropT_mem h; exact ⟨List.mem_cons_of_mem _ h1, h2⟩
  | (k, some (i, c), x) :: l, h => by
    unfold dropT at h
    split at h
    · obtain ⟨h1, h2⟩ := dropT_mem h; exact ⟨List.mem_cons_of_mem _ h1, h2⟩
    · rename_i hk
      rcases List.mem_cons.1 h with h | h
      · subst h; exact ⟨List.mem_cons_self, fun e => hk (.inl e), fun j b e => by injection e with e; injection e with e1 e2; subst e1; exact fun e => hk (.inr e)⟩
      · obtain ⟨h1, h2⟩ := dropT_mem h; exact ⟨List.mem_cons_of_mem _ h1, h2⟩
theorem getD_put {a : Act} {d k : Nat} {v : Value} (h : k ≠ d) : (a.put (some d) v).tmps.getD k undef = a.tmps.getD k undef := by
  simp only [Act.put, Array.getD_eq_getD_getElem?]
  rw [Array.getElem?_setIfInBounds_ne (Ne.symm h)]
theorem getD_put_same {a : Act} {d : Nat} {v : Value} (h : d < a.tmps.size) : (a.put (some d) v).tmps.getD d undef = v := by
  simp [Act.put, h]
theorem FR.put {dst : Option Tmp} {c : Gd} (hF : FR g nt st a) (hd : okDst nt c dst = true) {v : Value} (hv : gholds a c → RV g r v) (ht : st'.t = st.t) : FR g nt (st'.put dst c r) (a.put dst v) := by
  cases dst with
  | none => exact ⟨hF.sz, hF.df, by rw [show (st'.put none c r).t = st.t from ht]; exact hF.t⟩
  | some d =>
    simp only [okDst, Bool.and_eq_true, decide_eq_true_eq] at hd
    obtain ⟨hd1, hd2⟩ := hd
    have hds : d < a.tmps.size := by rw [hF.sz]; exact hd1
    refine ⟨by simp [Act.put, hF.sz], hF.df, fun p hp hgp => ?_⟩
    simp only [St.put, ht] at hp
    rcases List.mem_cons.1 hp with hp | hp
    · subst hp
      rw [getD_put_same hds]
      refine hv ?_
      cases c with
      | none => trivial
      | some k =>
        obtain ⟨j, b⟩ := k
        have hj : j ≠ d := by simpa using hd2
        have : (a.put (some d) v).tmps.getD j undef = .bool b := hgp
        rw [getD_put hj] at this
        exact this
    · obtain ⟨h1, h2, h3⟩ := dropT_mem hp
      rw [getD_put h2]
      refine hF.t p h1 ?_
      cases hc : p.2.1 with
      | none => trivial
      | some k =>
        obtain ⟨j, b⟩ := k
        rw [hc] at hgp
        have : (a.put (some d) v).tmps.getD j undef = .bool b := hgp
        rw [getD_put (h3 j b hc)] at this
        exact this
theorem FR.mono {g' : Gh} (hF : FR g nt st a) (hg : g.le g') : FR g' nt st a := ⟨hF.sz, hF.df, fun p hp h => (hF.t p hp h).mono hg⟩
theorem gdOf_wanted {ops : Array Oper} {o : Oper} {c : Gd} (h : gdOf ops o = some c) : (Region.wanted o (yielded ops a.tmps) = true ↔ gholds a c) := by
  unfold gdOf at h
  split at h
  · rename_i e; injection h with h; subst h; simp [Region.wanted, e, gholds]
  · rename_i j want e
    split at h
    · rename_i t ht
      injection h with h; subst h
      simp only [Region.wanted, e, gholds, yielded, ht, Option.bind_some, Array.getD_eq_getD_getElem?]
      cases hx : a.tmps[t]? with
      | none => simp [undef]
      | some x => cases x <;> simp
    · cases h
theorem qop2_sound (hτ : τ.ok P) (hF : FR g nt st a) (hB : BR g st.bx) {c : Gd} (hg : gholds a c) {o : Oper} (h : qop2 τ st c o.op = some (r, cd)) (hc : cd) :
    ∃ z, RV g r z ∧ ∀ w, Mem g w → (execOp a.eval o).run P w = .ok (.value z) w := by
  unfold qop2 at h
  split at h
  · rename_i t ps ho
    obtain ⟨z, h1, h2⟩ := buildq_sound (P := P) hτ hF hg h hc
    exact ⟨z, h1, fun w _ => by unfold execOp; rw [ho]; simp [h2 w]⟩
  · obtain ⟨z, h1, h2⟩ := qop_sound (P := P) hτ hF hB hg h hc
    exact ⟨z, h1, fun w hw => h2 w (.inr hw)⟩
/-- One operation on a list of operations. -/
theorem vstep_wpList {ops : Array Oper} {Q : Exit → Act → World → Prop} {rest : List Oper} {o : Oper} {md : Option Nat} (hτ : τ.ok P) (hN : ∀ q, md = some q → N.bx.length ≤ q) {cd : Prop} (h : vstep τ md nt ops o st = some (st', cd)) (hc : cd)
    (H : Rel P w0 N nt st a w) (k : ∀ a w, Rel P w0 N nt st' a w → wpList P ops Q rest a w) : wpList P ops Q (o :: rest) a w := by
  obtain ⟨g, HI, hF⟩ := H
  unfold vstep at h
  split at h
  · cases h
  · rename_i c hgd
    split at h
    · rename_i hdst
      split at h
      · rename_i st1 r1 cd1 he
        split at he
        · rename_i hng
          injection h with h
          simp only [Prod.mk.injEq] at h
          obtain ⟨rfl, rfl⟩ := h
          have hcn : c = none := by cases c with | none => rfl | some k => simp [isNoneG] at hng
          subst hcn
          have hw : Region.wanted o (yielded ops a.tmps) = true := (gdOf_wanted hgd).2 trivial
          obtain ⟨g', w', k1, k2, k3, k4⟩ := eop_sound hτ hN HI hF (c := none) trivial he hc
          refine wpList_step fun K hK => ?_
          rw [if_pos hw]
          unfold Oper.wp
          rcases k4 with ⟨z, h1, h2⟩ | ⟨h1, h2⟩
          · rw [h1, Oper.upon_value]
            refine hK _ _ (k _ _ ⟨g', ?_, (hF.mono k1.1).put hdst (fun _ => h2) k3⟩)
            cases o.dst <;> exact k2
          · rw [h1, Oper.upon_skip]
            refine hK _ _ (k _ _ ⟨g', ?_, (hF.mono k1.1).put hdst (fun _ => by rw [h2]; trivial) k3⟩)
            cases o.dst <;> exact k2
        · cases he
      · split at h
        · rename_i r1 cd1 hq
          injection h with h
          simp only [Prod.mk.injEq] at h
          obtain ⟨rfl, rfl⟩ := h
          refine wpList_step fun K hK => ?_
          by_cases hw : Region.wanted o (yielded ops a.tmps) = true
          · rw [if_pos hw]
            obtain ⟨z, h1, h2⟩ := qop2_sound (P := P) hτ hF HI.br ((gdOf_wanted hgd).1 hw) hq (gcond_elim hF hc ((gdOf_wanted hgd).1 hw))
            unfold Oper.wp
            rw [h2 w HI.mem, Oper.upon_value]
            refine hK _ _ (k _ _ ⟨g, ?_, hF.put hdst (fun _ => h1) rfl⟩)
            cases o.dst <;> exact HI
          · rw [if_neg hw]
            refine hK _ _ (k _ _ ⟨g, ?_, hF.put hdst (fun hg => absurd ((gdOf_wanted hgd).2 hg) hw) rfl⟩)
            cases o.dst <;> exact HI
        · cases h
    · cases h
/-- A stretch of operations in a list. -/
theorem vrun_wpList {ops : Array Oper} {Q : Exit → Act → World → Prop} {md : Option Nat} (hτ : τ.ok P) (hN : ∀ q, md = some q → N.bx.length ≤ q) : ∀ (l : List Oper) (st : St) (c c' : Prop) (l' : List Oper), vrun τ md nt ops l st c = (st', c', l') → c' →
    ∀ (a : Act) (w : World), Rel P w0 N nt st a w → (∀ a w, Rel P w0 N nt st' a w → wpList P ops Q l' a w) → wpList P ops Q l a w := by
  intro l
  induction l with
  | nil => intro st c c' l' h _ a w H k; simp only [vrun, Prod.mk.injEq] at h; obtain ⟨rfl, rfl, rfl⟩ := h; exact k _ _ H
  | cons o l ih =>
    intro st c c' l' h hc a w H k
    unfold vrun at h
    split at h
    · rename_i st1 cd1 hs
      have hc1 : cd1 := by
        have key : ∀ (l : List Oper) (st : St) (c : Prop), (vrun τ md nt ops l st c).2.1 → c := by
          intro l
          induction l with
          | nil => intro st c h; exact h
          | cons o l ih =>
            intro st c h
            unfold vrun at h
            split at h
            · exact (ih _ _ h).1
            · exact h
        have := key l st1 (c ∧ cd1)
        rw [h] at this
        exact (this hc).2
      exact vstep_wpList hτ hN hs hc1 H fun a w H' => ih st1 _ c' l' h hc a w H' k
    · simp only [Prod.mk.injEq] at h
      obtain ⟨rfl, rfl, rfl⟩ := h
      exact k _ _ H
/-- A region that keeps to its order. -/
theorem vregion {id : Nat} {Q : Exit → Act → World → Prop} {md : Option Nat} {l l' : List Oper} {c : Prop} (hτ : τ.ok P) (hN : ∀ q, md = some q → N.bx.length ≤ q) (H : Rel P w0 N nt st a w) (h : vrun τ md nt l.toArray l st True = (st', c, l')) (hc : c)
    (k : ∀ a w, Rel P w0 N nt st' a w → wpList P l.toArray Q l' a w) : (Code.region id l.toArray false).wp P Q a w :=
  wp_region_lit (vrun_wpList hτ hN l st True c l' h hc a w H k)
end
end Go.Proofs.Ytpeefeioccglcaa
