/- Operations without effect, all together. -/
import Derived.Test.YtpeefeioccglcaaQuiet2
set_option linter.unusedSimpArgs false
set_option linter.unusedVariables false
namespace Go.Proofs.Ytpeefeioccglcaa
open Go Go.RowKit
section
variable {g : Gh} {P : Program} {τ : Tab}
theorem same_sound {x r : AV} {c : Prop} (h : same x = some (r, c)) {u : Value} (hx : RV g x u) : RV g r u := by
  unfold same at h
  split at h <;> first | (cases h; done) | (obtain ⟨rfl, rfl⟩ := QR.inj h; exact hx)
theorem guard_int (op : BinOp) (t : TypeId) (x y : Operand) (k k' : IntKind) (a b : Int) (w : World) : (eqGuard op t x y (.int k a) (.int k' b)).run P w = .ok () w := by
  cases op <;> simp [eqGuard]
theorem guard_str (op : BinOp) (t : TypeId) (x y : Operand) (a b : ByteArray) (w : World) : (eqGuard op t x y (.string a) (.string b)).run P w = .ok () w := by
  cases op <;> simp [eqGuard]
theorem bin_guard {op : BinOp} {x y r : AV} {c : Prop} (h : bin op x y = some (r, c)) {u v : Value} (hx : RV g x u) (hy : RV g y v) (t : TypeId) (p q : Operand) (w : World) : (eqGuard op t p q u v).run P w = .ok () w := by
  unfold bin at h
  split at h
  · have e1 := hx.v_inv; have e2 := hy.v_inv; subst e1 e2; exact guard_int ..
  · have e1 := hx.v_inv; have e2 := hy.v_inv; subst e1 e2; exact guard_str ..
  · cases h
theorem eqq_sound (hτ : τ.ok P) {op : BinOp} {t : Nat} {x y r : AV} {c : Prop} (h : eqq τ op t x y = some (r, c)) (hc : c) {u v : Value} (hx : RV g x u) (hy : RV g y v) (p q : Operand) :
    ∃ z, RV g r z ∧ ∀ w, (eqGuard op t p q u v).run P w = .ok () w ∧ (binOp op t u v).run P w = .ok z w := by
  unfold eqq at h
  split at h
  · rename_i i r' hi hr'
    split at hr'
    · rename_i hsh
      have hok := Tab.get_ok hτ hi
      have key : fit i.ty x ∧ fit i.ty y → ∀ w, (eqGuard .eql t p q u v).run P w = .ok () w ∧ (eqGuard .neq t p q u v).run P w = .ok () w ∧ (binOp .eql t u v).run P w = .ok (.bool r') w ∧ (binOp .neq t u v).run P w = .ok (.bool (!r')) w := by
        rintro ⟨f1, f2⟩ w
        obtain ⟨cs, h1, e1⟩ := hx.fit f1
        obtain ⟨ds, h2, e2⟩ := hy.fit f2
        have he := eqA_sound hτ 20 t x y r' i cs ds hi hr' h1 h2 10000 (by decide) w
        rw [← e1, ← e2] at he
        clear e1 e2 h1 h2
        unfold eqShape at hsh
        split at hsh
        · have e1 := hx.v_inv; have e2 := hy.v_inv; subst e1 e2
          simp [eqGuard, binOp, Op.equal, Op.maxDepth, he]
        · have e1 := hx.v_inv; have e2 := hy.v_inv; subst e1 e2
          simp [eqGuard, binOp, Op.equal, Op.maxDepth, he]
        · have e2 := hy.v_inv; subst e2
          obtain ⟨_, y, o3, T3, _, _, e⟩ := hx.ptr_inv.ptr_inv
          injection e with e; subst e
          simp [eqGuard, binOp, Op.equal, Op.maxDepth, he]
        · have e1 := hx.v_inv; subst e1
          obtain ⟨_, y, o3, T3, _, _, e⟩ := hy.ptr_inv.ptr_inv
          injection e with e; subst e
          simp [eqGuard, binOp, Op.equal, Op.maxDepth, he]
        · have e1 := hx.ba_inv; have e2 := hy.ba_inv; subst e1 e2
          have hT : i.ty.agg = true := by cases hty : i.ty <;> simp only [hty, fit] at f1 <;> rfl
          have hg := (hok.eq hT).1
          refine ⟨run_eqGuard_agg w .eql t p q _ _ hg, run_eqGuard_agg w .neq t p q _ _ hg, ?_, ?_⟩
          · rw [run_eql_struct, he]; rfl
          · rw [run_neq_struct, he]; rfl
        · obtain ⟨_, _, _, _, rfl⟩ := hx.st_inv; obtain ⟨_, _, _, _, rfl⟩ := hy.st_inv
          have hT : i.ty.agg = true := by cases hty : i.ty <;> simp only [hty, fit] at f1 <;> rfl
          have hg := (hok.eq hT).1
          refine ⟨run_eqGuard_agg w .eql t p q _ _ hg, run_eqGuard_agg w .neq t p q _ _ hg, ?_, ?_⟩
          · rw [run_eql_struct, he]; rfl
          · rw [run_neq_struct, he]; rfl
        · cases hsh
      split at h
      · obtain ⟨rfl, rfl⟩ := QR.inj h
        exact ⟨_, RV.v_of rfl, fun w => ⟨(key hc w).1, (key hc w).2.2.1⟩⟩
      · obtain ⟨rfl, rfl⟩ := QR.inj h
        exact ⟨_, RV.v_of rfl, fun w => ⟨(key hc w).2.1, (key hc w).2.2.2⟩⟩
      · cases h
    · cases hr'
  · cases h
theorem binq_sound (hτ : τ.ok P) {op : BinOp} {t : Nat} {x y r : AV} {c : Prop} (h : binq τ op t x y = some (r, c)) (hc : c) {u v : Value} (hx : RV g x u) (hy : RV g y v) (p q : Operand) :
    ∃ z, RV g r z ∧ ∀ w, (eqGuard op t p q u v).run P w = .ok () w ∧ (binOp op t u v).run P w = .ok z w := by
  unfold binq at h
  split at h
  · rename_i r0 hr0
    injection h with h; subst h
    obtain ⟨z, h1, h2⟩ := bin_sound (P := P) hr0 hc hx hy t
    exact ⟨z, h1, fun w => ⟨bin_guard hr0 hx hy t p q w, h2 w⟩⟩
  · exact eqq_sound hτ h hc hx hy p q
theorem extr_sound {x r : AV} {ix : Nat} {c : Prop} (h : extr x ix = some (r, c)) {u : Value} (hx : RV g x u) : ∃ z, RV g r z ∧ ∀ w, (Instr.extract u ix).run P w = .ok z w := by
  unfold extr at h
  split at h
  · rename_i az
    split at h
    · rename_i a0 ha0
      obtain ⟨rfl, rfl⟩ := QR.inj h
      obtain ⟨vs, rfl, hl, hv⟩ := (show ∃ vs : List Value, u = .tuple vs.toArray ∧ vs.length = az.length ∧ ∀ (i : Nat) a u, az[i]? = some a → vs[i]? = some u → RV1 g a u from hx)
      have hlt : ix < vs.length := by rw [hl]; exact (List.getElem?_eq_some_iff.1 ha0).1
      refine ⟨vs[ix], (hv ix _ _ ha0 (List.getElem?_eq_getElem hlt)).rv, fun w => ?_⟩
      simp [Instr.extract, hlt]
    · cases h
  · cases h
theorem minq_sound {x y r : AV} {c : Prop} (h : minq x y = some (r, c)) {u v : Value} (hx : RV g x u) (hy : RV g y v) (ts : Array TypeId) (ty : TypeId) : ∃ z, RV g r z ∧ ∀ w, (Builtin.min_ ts ty #[u, v]).run P w = .ok z w := by
  unfold minq at h
  split at h
  · split at h
    · rename_i e; subst e
      obtain ⟨rfl, rfl⟩ := QR.inj h
      have e1 := hx.v_inv; have e2 := hy.v_inv; subst e1 e2
      exact ⟨_, RV.v_of rfl, fun w => by simp [Builtin.min_, Builtin.min2]⟩
    · cases h
  · cases h
theorem nilq_sound {x r : AV} {c : Prop} (h : nilq x = some (r, c)) {u : Value} (hx : RV g x u) : RV g r u ∧ ∃ a, u = .pointer (some a) := by
  unfold nilq at h
  split at h
  · obtain ⟨rfl, rfl⟩ := QR.inj h
    obtain ⟨_, y, o3, T3, _, _, e⟩ := hx.ptr_inv.ptr_inv
    injection e with e; subst e; exact ⟨hx, _, rfl⟩
  · obtain ⟨rfl, rfl⟩ := QR.inj h
    obtain ⟨_, y, o3, n3, e, _⟩ := hx.pti_inv.pti_inv
    injection e with e; subst e; exact ⟨hx, _, rfl⟩
  · obtain ⟨rfl, rfl⟩ := QR.inj h
    obtain ⟨_, b, q, ds, e, _⟩ := hx.ref_inv.ref_inv
    injection e with e; subst e; exact ⟨hx, _, rfl⟩
  · cases h
theorem ev2_sound {nt : Nat} {st : St} {a : Act} (hF : FR g nt st a) {c c' : Gd} (hc : gholds a c) (hc' : gholds a c') (x : Operand) : RV g (st.ev2 c c' x) (a.eval x) := by
  unfold St.ev2
  split
  · exact ev_sound hF hc' x
  · exact ev_sound hF hc x
theorem qop_sound (hτ : τ.ok P) {nt : Nat} {st : St} {a : Act} (hF : FR g nt st a) (hB : BR g st.bx) {c : Gd} (hg : gholds a c) {o : Oper} {r : AV} {cd : Prop} (h : qop τ st c o.op = some (r, cd)) (hc : cd) :
    ∃ z, RV g r z ∧ ∀ w, (memless o.op = true ∨ Mem g w) → (execOp a.eval o).run P w = .ok (.value z) w := by
  have E := fun x => ev_sound hF hg x
  have RO_ : ∀ x : Option Operand, RO g (x.map (st.ev c)) (x.map a.eval) := fun x => by cases x with | none => trivial | some x => exact E x
  obtain ⟨dst, op, ty, pos, after, gd⟩ := o
  dsimp only at h
  unfold qop at h
  unfold execOp
  split at h
  · exact ⟨_, same_sound h (E _), fun w _ => by simp⟩
  · exact ⟨_, same_sound h (E _), fun w _ => by simp⟩
  · rename_i t x y
    unfold pickq at h
    split at h
    · rename_i d
      split at h
      · rename_i b p q e1 e2 e3
        obtain ⟨rfl, rfl⟩ := QR.inj h
        have v1 := E (.tmp d); rw [e1] at v1; have v1 := v1.v_inv
        cases b with
        | true =>
          have v2 := ev2_sound hF hg (show gholds a (some (d, true)) from v1) x
          rw [e2] at v2; have v2 := v2.v_inv
          exact ⟨_, RV.v_of rfl, fun w _ => by simp [v1, v2, asBool]⟩
        | false =>
          have v3 := ev2_sound hF hg (show gholds a (some (d, false)) from v1) y
          rw [e3] at v3; have v3 := v3.v_inv
          exact ⟨_, RV.v_of rfl, fun w _ => by simp [v1, v3, asBool]⟩
      · cases h
    · cases h
  · rename_i op' t' x y yT
    obtain ⟨z, h1, h2⟩ := binq_sound (P := P) hτ h hc (E x) (E y) x y
    exact ⟨z, h1, fun w _ => by simp [(h2 w).1, (h2 w).2]⟩
  · obtain ⟨z, h1, h2⟩ := un_sound (P := P) h hc (E _)
    exact ⟨z, h1, fun w _ => by simp [h2 w]⟩
  · obtain ⟨z, h1, h2⟩ := conv_sound (P := P) hτ h hc (E _).asb_
    exact ⟨z, h1, fun w hw => by simp [h2 w (hw.resolve_left (by simp [memless]))]⟩
  · obtain ⟨z, h1, h2⟩ := fieldA_sound (P := P) hτ hB h (E _)
    exact ⟨z, h1, fun w _ => by simp [h2 w]⟩
  · obtain ⟨z, h1, h2⟩ := indexA_sound (P := P) hτ hB h hc (E _).asb_ (E _)
    exact ⟨z, h1, fun w _ => by simp [h2 w]⟩
  · obtain ⟨z, h1, h2⟩ := ld_sound (P := P) hτ hB h (E _)
    exact ⟨z, h1, fun w hw => by simp [h2 w (hw.resolve_left (by simp [memless]))]⟩
  · obtain ⟨z, h1, h2⟩ := slq_sound (P := P) hτ hB h hc (E _) (RO_ _) (RO_ _)
    exact ⟨z, h1, fun w _ => by simp [h2 w]⟩
  · obtain ⟨z, h1, h2⟩ := s2a_sound (P := P) hτ h hc (E _).asb_
    exact ⟨z, h1, fun w _ => by simp [h2 w]⟩
  · obtain ⟨z, h1, h2⟩ := fldq_sound (P := P) hτ h hc (E _)
    exact ⟨z, h1, fun w _ => by simp [h2 w]⟩
  · obtain ⟨z, h1, h2⟩ := extr_sound (P := P) h (E _)
    exact ⟨z, h1, fun w _ => by simp [h2 w]⟩
  · obtain ⟨z, h1, h2⟩ := idxq_sound (P := P) hτ h hc (E _) (E _)
    exact ⟨z, h1, fun w _ => by simp [h2 w]⟩
  · rename_i x
    obtain ⟨h1, b, h2⟩ := nilq_sound h (E _)
    exact ⟨_, h1, fun w _ => by simp [h2]⟩
  · rename_i k
    obtain ⟨cal, args, ats⟩ := k
    unfold callq at h
    dsimp only at h
    split at h
    · split at h
      · rename_i x t e1 e2
        obtain rfl : args = #[x] := Array.toList_inj.1 e1
        obtain rfl : ats = #[t] := Array.toList_inj.1 e2
        obtain ⟨z, h1, h2⟩ := capq_sound (P := P) hτ h (E x) ty
        exact ⟨z, h1, fun w _ => by simp [resolve, invoke, builtin, h2 w]⟩
      · cases h
    · split at h
      · rename_i x t e1 e2
        obtain rfl : args = #[x] := Array.toList_inj.1 e1
        obtain rfl : ats = #[t] := Array.toList_inj.1 e2
        obtain ⟨z, h1, h2⟩ := lenq_sound (P := P) hτ h (E x) ty
        exact ⟨z, h1, fun w _ => by simp [resolve, invoke, builtin, h2 w]⟩
      · cases h
    · split at h
      · rename_i x y e1
        obtain rfl : args = #[x, y] := Array.toList_inj.1 e1
        obtain ⟨z, h1, h2⟩ := minq_sound (P := P) h (E x) (E y) ats ty
        exact ⟨z, h1, fun w _ => by simp [resolve, invoke, builtin, h2 w]⟩
      · cases h
    · cases h
  · cases h
end
end Go.Proofs.Ytpeefeioccglcaa
