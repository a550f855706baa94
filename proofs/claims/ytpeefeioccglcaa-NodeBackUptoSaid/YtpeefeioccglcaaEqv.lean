/- Equality of values that are known. -/
import Derived.Test.YtpeefeioccglcaaQop
import Derived.Laws.StructEq
set_option linter.unusedSimpArgs false
set_option linter.unusedVariables false
namespace Go.Proofs.Ytpeefeioccglcaa
open Go Go.RowKit
def eqF (τ : Tab) (f : TypeId → AV → AV → Option Bool) : Nat → Ty → List (Nat × Nat) → List AV → List AV → Option Bool
  | _, .nl, [], [], [] => some true
  | off, .cn T Ts, (o, t) :: fs, a :: az, b :: bz =>
    if o = off then
      match Tab.get t τ with
      | some i => if i.ty = T then (match f t a b, eqF τ f (off + T.size) Ts fs az bz with
        | some r, some s => some (r && s)
        | _, _ => none) else none
      | none => none
    else none
  | _, _, _, _, _ => none
def eqA (τ : Tab) : Nat → TypeId → AV → AV → Option Bool
  | 0, _, _, _ => none
  | d + 1, t, x, y =>
    match Tab.get t τ with
    | none => none
    | some i =>
      match i.d, x, y with
      | .int _, .v (.int k a), .v (.int k' b) => if k = k' then some (decide (a = b)) else none
      | .bool, .v (.bool a), .v (.bool b) => some (a == b)
      | .str, .v (.string a), .v (.string b) => some (a.toList == b.toList)
      | .ptr _, .v (.pointer none), .v (.pointer none) => some true
      | .ptr _, .ptr _ _, .v (.pointer none) => some false
      | .ptr _, .v (.pointer none), .ptr _ _ => some false
      | .arr n e, .ba a, .ba b => match Tab.get e τ with
        | some j => match j.d with | .int .u8 => if j.ty = .sc ∧ i.ty = .ba n then some (decide (a = b)) else none | _ => none
        | none => none
      | .rcd fs, .st az, .st bz => eqF τ (eqA τ d) 0 i.ty fs az bz
      | _, _, _ => none
section
variable {g : Gh} {P : Program}
theorem RC.v_inv {T : Ty} {x : Value} {cs : List Value} (h : RC g T (.v x) cs) : T = .sc ∧ cs = [x] := by cases h; exact ⟨rfl, rfl⟩
theorem RC.ba_inv {T : Ty} {l : List UInt8} {cs : List Value} (h : RC g T (.ba l) cs) : T = .ba l.length ∧ cs = l.map B8 := by cases h with | ba h => subst h; exact ⟨rfl, rfl⟩
theorem RC.ptr_inv {T : Ty} {i : Nat} {p : List Nat} {cs : List Value} (h : RC g T (.ptr i p) cs) : T = .sc ∧ ∃ x o T', g.bx[i]? = some x ∧ x.ty.loc p = some (o, T') ∧ cs = [.pointer (some ⟨x.blk, o, none⟩)] := by
  cases h with | ptr h ho => exact ⟨rfl, _, _, _, h, ho, rfl⟩
theorem mkV_sc (u : Value) : mkV .sc [u] = u := rfl
theorem mkV_ba (n : Nat) (cs : List Value) : mkV (.ba n) cs = .agg cs.toArray := rfl
theorem run_part_byte {e : TypeId} {j : TI} (h : j.ok P e) (hj : j.ty = .sc) (l : List UInt8) (k : Nat) (hk : k < l.length) (w : World) : (part e (l.map B8).toArray (k * 1)).run P w = .ok (B8 l[k]) w := by
  unfold part
  rw [Sem.run_bind, h.isAgg w, hj]
  simp [Ty.agg, hk]
theorem part_one {e : TypeId} {j : TI} (h : j.ok P e) (hj : j.ty = .sc) (xs : Array Value) (k : Nat) (u : Value) (hk : xs[k]? = some u) (w : World) : (part e xs (k * 1)).run P w = .ok u w := by
  unfold part
  rw [Sem.run_bind, h.isAgg w, hj]
  simp [Ty.agg, hk]
theorem eqBytes_aux {e : TypeId} {j : TI} (h : j.ok P e) (hj : j.ty = .sc) (hd : P.underlying e = some (.int .u8)) (a b : List UInt8) (D : Nat) (hl : b.length = a.length) (f : Nat → Option Bool × PUnit.{1} → Sem (ForInStep (Option Bool × PUnit.{1})))
    (hf : ∀ k s w, (f k s).run P w = (((part e (a.map B8).toArray (k * 1)).run P w).andThen fun x w => ((part e (b.map B8).toArray (k * 1)).run P w).andThen fun y w => ((Op.equalIn (D + 1) e x y).run P w).andThen fun r w => .ok (if r = true then ForInStep.yield ⟨none, PUnit.unit⟩ else ForInStep.done ⟨some false, PUnit.unit⟩) w)) :
    ∀ m s, s + m = a.length → ∀ w, (forIn (List.range' s m) (⟨none, PUnit.unit⟩ : Option Bool × PUnit.{1}) f).run P w = .ok ⟨if a.drop s = b.drop s then none else some false, PUnit.unit⟩ w := by
  intro m
  induction m with
  | zero =>
    intro s hs w
    have e1 : a.drop s = [] := List.drop_of_length_le (by omega)
    have e2 : b.drop s = [] := List.drop_of_length_le (by omega)
    simp [e1, e2]
  | succ m ih =>
    intro s hs w
    have h1 : s < a.length := by omega
    have h2 : s < b.length := by omega
    rw [List.range'_succ, List.forIn_cons, Sem.run_bind, hf]
    have ea : (a.map B8).toArray[s]? = some (B8 a[s]) := by simp [h1]
    have eb : (b.map B8).toArray[s]? = some (B8 b[s]) := by simp [h2]
    rw [part_one h hj _ _ _ ea, Result.andThen_ok, part_one h hj _ _ _ eb, Result.andThen_ok, run_equalIn_int _ _ _ _ _ _ _ hd]
    simp only [Result.andThen_ok]
    rw [List.drop_eq_getElem_cons h1, List.drop_eq_getElem_cons h2]
    by_cases hx : a[s] = b[s]
    · have : ((a[s].toNat : Int) == (b[s].toNat : Int)) = true := by rw [hx]; simp
      rw [this, if_pos rfl]
      rw [ih (s + 1) (by omega) w, hx]
      simp only [List.cons.injEq, true_and]
    · have : ((a[s].toNat : Int) == (b[s].toNat : Int)) = false := by
        rw [beq_eq_false_iff_ne]; intro e1; exact hx (UInt8.toNat_inj.1 (by omega))
      rw [this, if_neg Bool.false_ne_true]
      simp only [List.cons.injEq, hx, false_and, if_false, Sem.run_pure]
/-- Two arrays of bytes, compared. -/
theorem run_eqBytes {t e : TypeId} {j : TI} (a b : List UInt8) (ht : P.underlying t = some (.array a.length e)) (h : j.ok P e) (hj : j.ty = .sc) (hd : P.underlying e = some (.int .u8)) (hl : b.length = a.length) (D : Nat) (w : World) :
    (Op.equalIn (D + 2) t (.agg (a.map B8).toArray) (.agg (b.map B8).toArray)).run P w = .ok (decide (a = b)) w := by
  have hs := h.sizeOf w
  rw [hj] at hs
  simp only [Ty.size] at hs
  rw [Op.equalIn]
  simp only [Sem.run_bind, run_underlying ht, Result.andThen_ok, hs, Std.Legacy.Range.forIn_eq_forIn_range', Std.Legacy.Range.size, Nat.sub_zero, Nat.add_sub_cancel, Nat.div_one]
  rw [eqBytes_aux h hj hd a b D hl _ (fun k s w => by
    simp only [Sem.run_bind]
    congr 1; funext x w; congr 1; funext y w; congr 1; funext r w
    cases r <;> rfl) a.length 0 (by omega) w]
  simp only [List.drop_zero, Result.andThen_ok]
  by_cases e : a = b <;> simp [e]
theorem RC.st_inv {T : Ty} {a : AV} {az : List AV} {cs : List Value} {Ts : Ty} (h : RC g (.cn T Ts) (.st (a :: az)) cs) : ∃ c d, cs = c ++ d ∧ RC g T a c ∧ RC g Ts (.st az) d := by
  cases h with | cn h hs => exact ⟨_, _, rfl, h, hs⟩
theorem eqF_sound {τ : Tab} (hτ : τ.ok P) {f : TypeId → AV → AV → Option Bool} {D : Nat}
    (hf : ∀ t x y r i cs ds, Tab.get t τ = some i → f t x y = some r → RC g i.ty x cs → RC g i.ty y ds → ∀ w, (Op.equalIn D t (mkV i.ty cs) (mkV i.ty ds)).run P w = .ok r w) :
    ∀ (F : List Field) (Ts : Ty) (off : Nat) (az bz : List AV) (r : Bool) (xs ys : Array Value) (px py cs ds : List Value),
      eqF τ f off Ts (F.map fun f => (f.offset, f.type)) az bz = some r → (∀ f ∈ F, f.name ≠ "_") → RC g Ts (.st az) cs → RC g Ts (.st bz) ds → xs.toList = px ++ cs → px.length = off → ys.toList = py ++ ds → py.length = off →
      ∀ w, (Op.eqFields D xs ys F).run P w = .ok r w := by
  intro F
  induction F with
  | nil =>
    intro Ts off az bz r xs ys px py cs ds he _ h1 h2 _ _ _ _ w
    cases Ts <;> cases az <;> cases bz <;> simp [eqF] at he
    subst he; simp [Op.eqFields]
  | cons f0 F ih =>
    intro Ts off az bz r xs ys px py cs ds he hn h1 h2 hx hpx hy hpy w
    cases Ts <;> cases az <;> cases bz <;> simp only [List.map_cons, eqF, reduceCtorEq] at he
    rename_i T Ts a az b bz
    split at he
    · rename_i e1
      split at he
      · rename_i i hi
        split at he
        · rename_i e2
          split at he
          · rename_i r1 s1 hr hs
            injection he with he; subst he e2
            obtain ⟨c1, d1, rfl, g1, g2⟩ := h1.st_inv
            obtain ⟨c2, d2, rfl, k1, k2⟩ := h2.st_inv
            have hi' := Tab.get_ok hτ hi
            have p1 := run_part hi' (pre := px) (mid := c1) (post := d1) (xs := xs) (off := f0.offset) (by rw [hx, List.append_assoc]) (by omega) g1
            have p2 := run_part hi' (pre := py) (mid := c2) (post := d2) (xs := ys) (off := f0.offset) (by rw [hy, List.append_assoc]) (by omega) k1
            have p3 := hf _ _ _ _ _ _ _ hi hr g1 k1
            have hnm := hn f0 List.mem_cons_self
            have p4 := ih Ts (off + i.ty.size) az bz s1 xs ys (px ++ c1) (py ++ c2) d1 d2 hs (fun f hf => hn f (List.mem_cons_of_mem _ hf)) g2 k2 (by rw [hx, List.append_assoc]) (by rw [List.length_append, g1.size, hpx]) (by rw [hy, List.append_assoc]) (by rw [List.length_append, k1.size, hpy])
            simp only [Op.eqFields, if_pos hnm, Sem.run_bind, p1, p2, p3, Result.andThen_ok]
            cases r1
            · simp
            · simp [p4]
          · cases he
        · cases he
      · cases he
    · cases he
theorem eqA_sound {τ : Tab} (hτ : τ.ok P) : ∀ (d : Nat) (t : TypeId) (x y : AV) (r : Bool) (i : TI) (cs ds : List Value), Tab.get t τ = some i → eqA τ d t x y = some r → RC g i.ty x cs → RC g i.ty y ds →
    ∀ D, d < D → ∀ w, (Op.equalIn D t (mkV i.ty cs) (mkV i.ty ds)).run P w = .ok r w := by
  intro d
  induction d with
  | zero => intro t x y r i cs ds _ h; simp [eqA] at h
  | succ d ih =>
    intro t x y r i cs ds hi h h1 h2 D hD w
    have hok := Tab.get_ok hτ hi
    have hd := hok.d
    obtain ⟨D, rfl⟩ : ∃ D', D = D' + 1 := ⟨D - 1, by omega⟩
    simp only [eqA, hi] at h
    split at h
    · rename_i hid
      rw [hid] at hd
      obtain ⟨e1, rfl⟩ := h1.v_inv; obtain ⟨_, rfl⟩ := h2.v_inv
      rw [e1, mkV_sc, mkV_sc]
      split at h
      · rename_i e; subst e; injection h with h; subst h
        rw [run_equalIn_int w D t _ _ _ _ hd]; rfl
      · cases h
    · rename_i hid
      rw [hid] at hd
      obtain ⟨e1, rfl⟩ := h1.v_inv; obtain ⟨_, rfl⟩ := h2.v_inv
      rw [e1, mkV_sc, mkV_sc]
      injection h with h; subst h
      exact run_equalIn_bool' w D t _ _ hd
    · rename_i hid
      rw [hid] at hd
      obtain ⟨e1, rfl⟩ := h1.v_inv; obtain ⟨_, rfl⟩ := h2.v_inv
      rw [e1, mkV_sc, mkV_sc]
      injection h with h; subst h
      exact run_equalIn_string w D t _ _ hd
    · rename_i hid
      rw [hid] at hd
      obtain ⟨e1, rfl⟩ := h1.v_inv; obtain ⟨_, rfl⟩ := h2.v_inv
      rw [e1, mkV_sc]
      injection h with h; subst h
      simp [Op.equalIn, run_underlying (show P.underlying t = _ from hd)]
    · rename_i hid
      rw [hid] at hd
      obtain ⟨_, rfl⟩ := h2.v_inv
      obtain ⟨e1, x, o, T', _, _, rfl⟩ := h1.ptr_inv
      injection h with h; subst h
      rw [e1, mkV_sc, mkV_sc]
      simp [Op.equalIn, run_underlying (show P.underlying t = _ from hd)]
    · rename_i hid
      rw [hid] at hd
      obtain ⟨_, rfl⟩ := h1.v_inv
      obtain ⟨e1, x, o, T', _, _, rfl⟩ := h2.ptr_inv
      injection h with h; subst h
      rw [e1, mkV_sc, mkV_sc]
      simp [Op.equalIn, run_underlying (show P.underlying t = _ from hd)]
    · rename_i n e a b hid
      rw [hid] at hd
      split at h
      · rename_i j hj
        split at h
        · rename_i hjd
          split at h
          · rename_i hjt
            obtain ⟨hjt, hin⟩ := hjt
            injection h with h; subst h
            have hjok := Tab.get_ok hτ hj
            have hjd' := hjok.d
            rw [hjd] at hjd'
            obtain ⟨e1, rfl⟩ := h1.ba_inv; obtain ⟨e2, rfl⟩ := h2.ba_inv
            have e2' := e1.symm.trans e2
            injection e2' with e2'
            have hn : n = a.length := by rw [hin] at e1; injection e1
            subst hn
            obtain ⟨D, rfl⟩ : ∃ D', D = D' + 1 := ⟨D - 1, by omega⟩
            rw [e1]
            exact run_eqBytes a b hd.1 hjok hjt hjd' e2'.symm D w
          · cases h
        · cases h
      · cases h
    · rename_i fs az bz hid
      rw [hid] at hd
      obtain ⟨F, hF, hfs, hnm⟩ := hd
      subst hfs
      have hT : i.ty.agg = true := by have := hok.agg.2; rw [hF] at this; exact this.symm
      have hst := (hok.eq hT).2
      have hfo : P.fieldsOf t = F := by simp [Program.fieldsOf, hF]
      rw [mkV, mkV, if_pos hT, if_pos hT, run_equalIn_struct w D t _ _ (by rw [hfo]; exact hF) hst, hfo]
      exact eqF_sound hτ (fun t x y r i cs ds a1 a2 a3 a4 w => ih t x y r i cs ds a1 a2 a3 a4 D (by omega) w) F.toList i.ty 0 az bz r _ _ [] [] cs ds h (fun f hf => (hnm f hf).1) h1 h2 (by simp) rfl (by simp) rfl w
    · cases h
end
end Go.Proofs.Ytpeefeioccglcaa
