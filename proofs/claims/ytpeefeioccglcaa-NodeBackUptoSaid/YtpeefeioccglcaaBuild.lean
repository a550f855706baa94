/- Structs and arrays that are built of parts. -/
import Derived.Test.YtpeefeioccglcaaQuiet3
set_option linter.unusedSimpArgs false
set_option linter.unusedVariables false
namespace Go.Proofs.Ytpeefeioccglcaa
open Go Go.RowKit
/-- The parts of a struct or an array, put in one by one. -/
def place (τ : Tab) (i : TI) (k : Nat) : Option Ty :=
  match i.d, i.ty.loc [k] with
  | .rcd fs, some (o, T') => (match fs[k]? with
    | some (o', t') => if o = o' ∧ tyIs τ t' T' = true then some T' else none
    | none => none)
  | .arr _ e, some (o, T') => if o = k * T'.size ∧ tyIs τ e T' = true then some T' else none
  | _, _ => none
def parts (τ : Tab) (i : TI) (ev : Operand → AV) : List (Nat × Operand) → AV → Option (AV × Prop)
  | [], a => some (a, True)
  | (k, x) :: l, a =>
    match place τ i k with
    | some T' => (match parts τ i ev l (a.put [k] (ev x)) with
      | some (b, c) => some (b, fit T' (ev x) ∧ c)
      | none => none)
    | none =>
      match i.d, a, ev x with
      | .arr m e, .ba l', .v (.int .u8 n) => if i.ty = .ba m ∧ tyIs τ e .sc = true ∧ k < m then
          (match parts τ i ev l (.ba (l'.set k (UInt8.ofNat n.toNat))) with
          | some (b, c) => some (b, (0 ≤ n ∧ n ≤ 255) ∧ c)
          | none => none) else none
      | _, _, _ => none
def buildq (τ : Tab) (st : St) (c : Gd) (t : Nat) (ps : List (Nat × Operand)) : QR :=
  match Tab.get t τ with
  | some i => (match i.d with
    | .rcd _ => parts τ i (st.ev c) ps i.zero
    | .arr _ _ => parts τ i (st.ev c) ps i.zero
    | _ => none)
  | none => none
section
variable {g : Gh} {P : Program} {τ : Tab}
theorem fold_set (off : Nat) : ∀ (vs : List Value) (k : Nat) (cs : Array Value) (pre mid post : List Value), cs.toList = pre ++ mid ++ post → pre.length = off + k → mid.length = vs.length →
    ((vs.zipIdx k).foldl (fun (cs : Array Value) (x : Value × Nat) => cs.setIfInBounds (off + x.2) x.1) cs).toList = pre ++ vs ++ post := by
  intro vs
  induction vs with
  | nil => intro k cs pre mid post h _ h2; simp at h2; subst h2; simpa using h
  | cons v vs ih =>
    intro k cs pre mid post h h1 h2
    cases mid with
    | nil => simp at h2
    | cons m ms =>
      simp only [List.zipIdx_cons, List.foldl_cons]
      rw [ih (k + 1) _ (pre ++ [v]) ms post ?_ (by simp; omega) (by simpa using h2)]
      · simp
      · rw [Array.toList_setIfInBounds, h, List.append_assoc, List.set_append_right _ _ (by omega), h1, Nat.sub_self]; simp
theorem fold_cells {v : Value} {off : Nat} {cs : Array Value} {pre mid post : List Value} (h : cs.toList = pre ++ mid ++ post) (h1 : pre.length = off) (h2 : mid.length = v.cells.toList.length) :
    (v.cells.zipIdx.foldl (fun (cs : Array Value) (x : Value × Nat) => cs.setIfInBounds (off + x.2) x.1) cs).toList = pre ++ v.cells.toList ++ post := by
  have := fold_set off v.cells.toList 0 cs pre mid post h (by omega) h2
  rw [← this, ← Array.foldl_toList, Array.toList_zipIdx]
/-- One part is put in. -/
theorem fill_one {pl : Nat → Option (Nat × Nat)} {T T' : Ty} {a b : AV} {cs : Array Value} {k o : Nat} (hr : RC g T a cs.toList) (hl : T.loc [k] = some (o, T')) (hp : pl k = some (o, T'.size)) {v : Value} {ds : List Value} (hb : RC g T' b ds) (hv : v.cells.toList = ds) (rest : List (Nat × Value)) :
    ∃ cs' : Array Value, RC g T (a.put [k] b) cs'.toList ∧ cs'.size = cs.size ∧ Instr.fill pl cs ((k, v) :: rest) = Instr.fill pl cs' rest := by
  obtain ⟨a', ha', pre, mid, post, hcs, hpre, hmid, hput⟩ := hr.lens hl
  subst hv
  have hs : v.cells.toList.length = T'.size := hb.size
  have hs' : v.cells.size = T'.size := by simpa using hs
  have hf := fold_cells (v := v) (off := o) hcs hpre (by rw [hmid.size, hs])
  refine ⟨_, by rw [hf]; exact hput b _ hb, ?_, ?_⟩
  · have h1 : cs.size = (pre ++ mid ++ post).length := by rw [← hcs]; simp
    have h2 := congrArg List.length hf
    simp only [Array.length_toList, List.length_append] at h2 h1
    rw [h2, h1, hmid.size, ← hs]; simp
  · have h1 : o + T'.size ≤ cs.size := by
      have : cs.size = (pre ++ mid ++ post).length := by rw [← hcs]; simp
      rw [this]; simp only [List.length_append, hmid.size, hpre]; omega
    rw [Instr.fill]
    simp only [hp]
    rw [if_neg (by simp [hs']; omega)]
theorem place_ok (hτ : τ.ok P) {i : TI} {k : Nat} {T' : Ty} (h : place τ i k = some T') : ∃ o, i.ty.loc [k] = some (o, T') ∧ ((∃ fs t', i.d = .rcd fs ∧ fs[k]? = some (o, t') ∧ ∃ j : TI, j.ok P t' ∧ j.ty = T') ∨ (∃ m e, i.d = .arr m e ∧ o = k * T'.size ∧ ∃ j : TI, j.ok P e ∧ j.ty = T')) := by
  unfold place at h
  split at h
  · rename_i fs o T2 hd hl
    split at h
    · rename_i o' t' hf
      split at h
      · rename_i hc
        obtain ⟨rfl, ht⟩ := hc
        injection h with h; subst h
        exact ⟨o, hl, .inl ⟨fs, t', hd, hf, tyIs_ok hτ ht⟩⟩
      · cases h
    · cases h
  · rename_i m e o T2 hd hl
    split at h
    · rename_i hc
      obtain ⟨h1, ht⟩ := hc
      injection h with h; subst h
      exact ⟨o, hl, .inr ⟨m, e, hd, h1, tyIs_ok hτ ht⟩⟩
    · cases h
  · cases h
/-- What places a struct's or an array's parts have in the model. -/
def Places (P : Program) (i : TI) (pl : Nat → Option (Nat × Nat)) : Prop :=
  (∀ fs, i.d = .rcd fs → ∀ (k o t' : Nat) (j : TI), fs[k]? = some (o, t') → j.ok P t' → pl k = some (o, j.ty.size)) ∧ (∀ m e, i.d = .arr m e → ∀ (k : Nat) (j : TI), j.ok P e → pl k = some (k * j.ty.size, j.ty.size))
theorem parts_sound (hτ : τ.ok P) {i : TI} {pl : Nat → Option (Nat × Nat)} (hpl : Places P i pl) {ev : Operand → AV} {ρ : Operand → Value} (hev : ∀ x, RV g (ev x) (ρ x)) :
    ∀ (l : List (Nat × Operand)) (a r : AV) (c : Prop) (cs : Array Value), parts τ i ev l a = some (r, c) → c → RC g i.ty a cs.toList → ∃ cs' : Array Value, Instr.fill pl cs (l.map fun x => (x.1, ρ x.2)) = some cs' ∧ RC g i.ty r cs'.toList := by
  intro l
  induction l with
  | nil =>
    intro a r c cs h hc hr
    simp only [parts] at h
    obtain ⟨rfl, rfl⟩ := QR.inj h
    exact ⟨cs, rfl, hr⟩
  | cons p l ih =>
    intro a r c cs h hc hr
    obtain ⟨k, x⟩ := p
    unfold parts at h
    split at h
    · rename_i T' hp
      obtain ⟨o, hl, hcase⟩ := place_ok hτ hp
      split at h
      · rename_i b c0 hb
        obtain ⟨rfl, rfl⟩ := QR.inj h
        obtain ⟨c1, c2⟩ := hc
        obtain ⟨ds, h1, h2⟩ := (hev x).fit c1
        have hpk : pl k = some (o, T'.size) := by
          rcases hcase with ⟨fs, t', hd, hf, j, hj, rfl⟩ | ⟨m, e, hd, ho, j, hj, rfl⟩
          · exact hpl.1 fs hd k o t' j hf hj
          · rw [ho]; exact hpl.2 m e hd k j hj
        obtain ⟨cs1, h3, _, h4⟩ := fill_one hr hl hpk h1 (v := ρ x) (by rw [h2]; exact mkV_cells h1) (l.map fun x => (x.1, ρ x.2))
        obtain ⟨cs2, h5, h6⟩ := ih _ _ _ cs1 hb c2 h3
        exact ⟨cs2, by rw [List.map_cons, h4, h5], h6⟩
      · cases h
    · split at h
      · rename_i hd a0 x0 m e l' n hdd hx0
        split at h
        · rename_i hc3
          obtain ⟨hT, ht, hkm⟩ := hc3
          split at h
          · rename_i b c0 hb
            obtain ⟨rfl, rfl⟩ := QR.inj h
            obtain ⟨⟨c1, c1'⟩, c2⟩ := hc
            obtain ⟨j, hj, hjT⟩ := tyIs_ok hτ ht
            have hpk : pl k = some (k, 1) := by have := hpl.2 m e hdd k j hj; rw [hjT] at this; simpa [Ty.size] using this
            have hx1 : ρ x = .int .u8 n := by have := hev x; rw [hx0] at this; exact this.v_inv
            obtain ⟨hm, hcs⟩ := hr.ba_inv
            rw [hT] at hm; injection hm with hm
            have hk2 : k < l'.length := by omega
            have hn : Value.int .u8 n = B8 (UInt8.ofNat n.toNat) := by rw [B8_ofNat]; congr 1; omega
            have hsz : cs.size = l'.length := by have := congrArg List.length hcs; simpa using this
            have hstep : Instr.fill pl cs ((k, ρ x) :: l.map fun x => (x.1, ρ x.2)) = Instr.fill pl (cs.setIfInBounds k (ρ x)) (l.map fun x => (x.1, ρ x.2)) := by
              rw [Instr.fill]
              simp only [hpk]
              rw [hx1]
              rw [if_neg (by simp [Value.cells]; omega)]
              congr 1
            obtain ⟨cs2, h5, h6⟩ := ih _ _ _ (cs.setIfInBounds k (ρ x)) hb c2 (by
              rw [Array.toList_setIfInBounds, hcs, hx1, hn, ← List.map_set, hT]
              exact .ba (by rw [List.length_set]; exact hm.symm))
            exact ⟨cs2, by rw [List.map_cons, hstep, h5], h6⟩
          · cases h
        · cases h
      · cases h
theorem mapM_places (F : List Field) (hs : ∀ f ∈ F, (P.info? f.type).isSome = true) : ∀ w, (F.mapM fun f => (do pure (f.offset, ← sizeOf f.type) : Sem (Nat × Nat))).run P w = .ok (F.map fun f => (f.offset, P.cellsOf f.type)) w := by
  have hsz : ∀ f ∈ F, ∀ w, (sizeOf f.type).run P w = .ok (P.cellsOf f.type) w := by
    intro f hf w
    have hn := hs f hf
    unfold sizeOf typeInfo
    cases hi : P.info? f.type with
    | none => simp [hi] at hn
    | some i => simp [hi, Program.cellsOf]
  clear hs
  induction F with
  | nil => intro w; simp
  | cons f F ih =>
    intro w
    rw [List.mapM_cons]
    simp only [Sem.run_bind, Sem.run_pure, hsz f List.mem_cons_self w, Result.andThen_ok, ih (fun f hf => hsz f (List.mem_cons_of_mem _ hf)) w, List.map_cons]
theorem TI.ok.cells {t : TypeId} {i : TI} (h : i.ok P t) : P.cellsOf t = i.ty.size := by
  obtain ⟨inf, z0, e1, e2, _⟩ := h.info
  simp [Program.cellsOf, e1, e2]
theorem buildq_sound (hτ : τ.ok P) {nt : Nat} {st : St} {a : Act} (hF : FR g nt st a) {c : Gd} (hg : gholds a c) {t : Nat} {ps : Array (Nat × Operand)} {r : AV} {cd : Prop} (h : buildq τ st c t ps.toList = some (r, cd)) (hc : cd) :
    ∃ z, RV g r z ∧ ∀ w, (Instr.build t (ps.map fun (i, x) => (i, a.eval x))).run P w = .ok z w := by
  unfold buildq at h
  split at h
  · rename_i i hi
    have hok := Tab.get_ok hτ hi
    obtain ⟨inf, z0, e1, e2, e3, e4, e5⟩ := hok.info
    have hz : ∀ w, (zeroValue t).run P w = .ok z0 w := fun w => by simp [zeroValue, typeInfo, e1, e4]
    have hps : (ps.map fun (i, x) => (i, a.eval x)).toList = ps.toList.map fun x => (x.1, a.eval x.2) := by simp
    have hd := hok.d
    have hag := hok.agg.2
    split at h
    · rename_i fs hdd
      rw [hdd] at hd
      obtain ⟨F, hF', hfs, hinf⟩ := hd
      have hT : i.ty.agg = true := by rw [hF'] at hag; exact hag.symm
      subst hfs
      obtain ⟨cs', h1, h2⟩ := parts_sound hτ (i := i) (pl := fun k => ((F.toList.map fun f => (f.offset, P.cellsOf f.type)).toArray)[k]?) (ρ := a.eval) ⟨fun fs hfs k o t' j hf hj => by
          rw [hdd] at hfs; injection hfs with hfs; subst hfs
          rw [List.getElem?_map] at hf
          obtain ⟨f0, hf0, hf1⟩ := Option.map_eq_some_iff.1 hf
          simp only [Prod.mk.injEq] at hf1
          obtain ⟨rfl, rfl⟩ := hf1
          simp only [List.getElem?_toArray, List.getElem?_map, hf0, Option.map_some, hj.cells], fun m e h => (by rw [hdd] at h; cases h)⟩ (fun x => ev_sound hF hg x) ps.toList i.zero r cd z0.cells h hc (e5 g)
      refine ⟨_, (show RV1 g r (.agg cs') from .inl ⟨i.ty, cs'.toList, hT, h2, by simp⟩).rv, fun w => ?_⟩
      have hm := mapM_places F.toList (fun f hf => (hinf f hf).2) w
      unfold Instr.build
      simp only [Sem.run_bind, hz, Result.andThen_ok, run_underlying hF', Array.mapM_eq_mapM_toList, Sem.run_map, hm, hps, h1, Sem.run_pure]
    · rename_i m e hdd
      rw [hdd] at hd
      obtain ⟨hu, hinf⟩ := hd
      have hT : i.ty.agg = true := by rw [hu] at hag; exact hag.symm
      have hsz : ∀ w, (sizeOf e).run P w = .ok (P.cellsOf e) w := fun w => by
        unfold sizeOf typeInfo
        cases hi : P.info? e with
        | none => simp [hi] at hinf
        | some i => simp [hi, Program.cellsOf]
      obtain ⟨cs', h1, h2⟩ := parts_sound hτ (i := i) (pl := fun k => some (k * P.cellsOf e, P.cellsOf e)) (ρ := a.eval) ⟨fun fs h => (by rw [hdd] at h; cases h), fun m' e' hme k j hj => by
          rw [hdd] at hme; injection hme with _ hme; subst hme; rw [hj.cells]⟩ (fun x => ev_sound hF hg x) ps.toList i.zero r cd z0.cells h hc (e5 g)
      refine ⟨_, (show RV1 g r (.agg cs') from .inl ⟨i.ty, cs'.toList, hT, h2, by simp⟩).rv, fun w => ?_⟩
      unfold Instr.build
      simp only [Sem.run_bind, hz, Result.andThen_ok, run_underlying hu, hsz, hps, h1, Sem.run_pure]
    · cases h
  · cases h
end
end Go.Proofs.Ytpeefeioccglcaa
