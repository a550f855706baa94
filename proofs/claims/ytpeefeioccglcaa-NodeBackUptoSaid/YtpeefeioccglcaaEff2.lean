/- Operations that make or write memory: boxes, stores. -/
import Derived.Test.YtpeefeioccglcaaEff
set_option linter.unusedSimpArgs false
set_option linter.unusedVariables false
namespace Go.Proofs.Ytpeefeioccglcaa
open Go Go.RowKit
/-- What an operation with an effect comes to. -/
abbrev ER := Option (St × AV × Prop)
def notIn (b : Nat) : List Nat → Bool
  | [] => true
  | k :: l => (k != b) && notIn b l
theorem notIn_ok {b : Nat} : ∀ {l : List Nat}, notIn b l = true → b ∉ l
  | [], _ => by simp
  | k :: l, h => by
    simp only [notIn, Bool.and_eq_true, bne_iff_ne] at h
    intro hm
    rcases List.mem_cons.1 hm with e | e
    · exact h.1 e.symm
    · exact notIn_ok h.2 e
def boxE (τ : Tab) (st : St) (e : Nat) (x : AV) : ER :=
  match Tab.get e τ with
  | some i => some ({ st with bx := st.bx ++ [(i.ty, x)] }, .ptr st.bx.length [], fit i.ty x)
  | none => none
def allocE (τ : Tab) (st : St) (e : Nat) : ER :=
  match Tab.get e τ with
  | some i => some ({ st with bx := st.bx ++ [(i.ty, i.zero)] }, .ptr st.bx.length [], True)
  | none => none
def storeE (τ : Tab) (st : St) (t : Nat) (x y : AV) : ER :=
  match Tab.get t τ with
  | none => none
  | some i =>
    match x with
    | .ptr b path => (match st.bx[b]? with
      | some (T, a) => (match T.loc path with
        | some (_, T2) => if T2 = i.ty ∧ notIn b st.fz = true then some ({ st with bx := st.bx.set b (T, a.put path y) }, .any, fit i.ty y) else none
        | none => none)
      | none => none)
    | .pti b path k => (match st.bx[b]? with
      | some (T, a) => (match T.loc path, a.loc path, y with
        | some (_, .ba _), some (.ba l), .v (.int .u8 n) => if i.ty = .sc ∧ notIn b st.fz = true then some ({ st with bx := st.bx.set b (T, a.put path (.ba (l.set k (UInt8.ofNat n.toNat)))) }, .any, 0 ≤ n ∧ n ≤ 255) else none
        | _, _, _ => none)
      | none => none)
    | _ => none
/-- The slice of a box that is written no more. -/
def frzE (τ : Tab) (q0 : Nat) (st : St) (t : Nat) (x : AV) (lo hi : Option AV) : ER :=
  match Tab.get t τ with
  | none => none
  | some i =>
    match i.d, x with
    | .arr m e, .ptr b path => (match st.bx[b]? with
      | some (T, a) => (match T.loc path, a.loc path, bnd 0 lo, bnd m hi with
        | some (_, .ba m'), some (.ba l), some p, some q => if m' = m ∧ tyIs τ e .sc = true ∧ q0 ≤ b then
            some ({ st with fz := b :: st.fz }, .bs ((l.take q.toNat).drop p.toNat) none, 0 ≤ p ∧ p ≤ q ∧ q ≤ m ∧ (m : Int) ≤ 9223372036854775807) else none
        | _, _, _, _ => none)
      | none => none)
    | _, _ => none
section
variable {P : Program} {τ : Tab} {w0 w : World} {N : Gh} {g : Gh} {st st' : St} {r : AV} {cd : Prop}
/-- What an effect is to show. -/
def EOk (sto : Bool) (P : Program) (w0 : World) (N g : Gh) (st st' : St) (r : AV) (w : World) (s : Sem Next) : Prop :=
  ∃ g' w', (g.le g' ∧ (sto = false → Bs g g')) ∧ Inv P w0 N g' st'.bx st'.fz st'.rw w' ∧ st'.t = st.t ∧ ((∃ z, s.run P w = .ok (.value z) w' ∧ RV g' r z) ∨ (s.run P w = .ok .skip w' ∧ r = .any))
theorem ER.inj {x : St × AV × Prop} (h : some x = some (st', r, cd)) : x.1 = st' ∧ x.2.1 = r ∧ x.2.2 = cd := by injection h with h; rw [h]; exact ⟨rfl, rfl, rfl⟩
theorem boxE_sound (hτ : τ.ok P) (H : Inv P w0 N g st.bx st.fz st.rw w) {e : Nat} {x : AV} (h : boxE τ st e x = some (st', r, cd)) (hc : cd) {v : Value} (hv : RV g x v) : EOk false P w0 N g st st' r w (do pure (.value (← Instr.box e v))) := by
  unfold boxE at h
  split at h
  · rename_i i hi
    obtain ⟨rfl, rfl, rfl⟩ := ER.inj h
    obtain ⟨cs, h1, h2⟩ := hv.fit hc
    obtain ⟨g', hle, HI, hr⟩ := H.box h1 e
    refine ⟨g', _, ⟨hle.1, fun _ => hle.2⟩, HI, rfl, .inl ⟨_, ?_, hr⟩⟩
    have hcs : v.cells = cs.toArray := by apply Array.toList_inj.1; rw [h2, mkV_cells h1]
    simp [Instr.box, newVar, newRow, hcs]
  · cases h
theorem allocE_sound (hτ : τ.ok P) (H : Inv P w0 N g st.bx st.fz st.rw w) {e : Nat} (h : allocE τ st e = some (st', r, cd)) : EOk false P w0 N g st st' r w (do pure (.value (← Instr.alloc e true (.tuple #[])))) := by
  unfold allocE at h
  split at h
  · rename_i i hi
    obtain ⟨rfl, rfl, rfl⟩ := ER.inj h
    obtain ⟨inf, z0, e1, e2, e3, e4, e5⟩ := (Tab.get_ok hτ hi).info
    obtain ⟨g', hle, HI, hr⟩ := H.box (e5 g) e
    refine ⟨g', _, ⟨hle.1, fun _ => hle.2⟩, HI, rfl, .inl ⟨_, ?_, hr⟩⟩
    simp [Instr.alloc, zeroValue, typeInfo, e1, e4, newVar, newRow]
  · cases h
theorem run_stV {w : World} {g : Nat} {t : TypeId} {cs : Array Value} (hb : Blk w g t cs) {pre mid post news : List Value} (hcs : cs.toList = pre ++ mid ++ post) (ty : TypeId) {i : TI} (hi : i.ok P ty) (hn : news.length = i.ty.size) (hl : news.length = mid.length) (h1 : ∀ v ∈ news, v.oneCell' = true) {v : Value} (hv : v.cells.toList = news) {o : Nat} (ho : pre.length = o) :
    (storeVar ty ⟨g, o, none⟩ v).run P w = .ok () (w.setRow g (pre ++ news ++ post).toArray) := by
  subst ho
  have hsz : cs.size = (pre ++ mid ++ post).length := by rw [← hcs]; simp
  have hst := run_storeCells_at P g pre.length t news 0 cs w hb (by simp only [List.length_append] at hsz; omega) h1
  have hrow : (cs.toList.take (pre.length + 0) ++ news ++ cs.toList.drop (pre.length + 0 + news.length)) = pre ++ news ++ post := by
    rw [hcs, hl, Nat.add_zero, List.append_assoc pre mid post, List.take_left, ← List.append_assoc, ← List.length_append, List.drop_left]
  rw [hrow] at hst
  have hs := hi.sizeOf w
  have hvs : v.cells.size = news.length := by rw [← hv]; simp
  simp [storeVar, hs, hvs, hn, hv, hst]
theorem storeE_sound (hτ : τ.ok P) (H : Inv P w0 N g st.bx st.fz st.rw w) {t : Nat} {x y : AV} (h : storeE τ st t x y = some (st', r, cd)) (hc : cd) {u v : Value} (hu : RV g x u) (hv : RV g y v) : EOk true P w0 N g st st' r w (do Instr.storeAt t u v; pure .skip) := by
  unfold storeE at h
  split at h
  · cases h
  · rename_i i hi
    have hok := Tab.get_ok hτ hi
    split at h
    · rename_i b path
      split at h
      · rename_i T a hb
        split at h
        · rename_i o T2 hl
          split at h
          · rename_i hcond
            obtain ⟨rfl, hnf⟩ := hcond
            obtain ⟨rfl, rfl, rfl⟩ := ER.inj h
            obtain ⟨_, bx, o3, T3, hbx, ho3, e⟩ := hu.ptr_inv.ptr_inv
            injection e with e; subst e
            obtain ⟨bx', hbx', hty, hrc⟩ := H.br.get hb
            rw [hbx] at hbx'; injection hbx' with hbx'; subst hbx'
            rw [hty, hl] at ho3
            simp only [Option.some.injEq, Prod.mk.injEq] at ho3
            obtain ⟨rfl, rfl⟩ := ho3
            obtain ⟨a', ha', pre, mid, post, hcs, hpre, hmid, hput⟩ := hrc.lens hl
            obtain ⟨news, h1, h2⟩ := hv.fit hc
            have hset := hput y news h1
            rw [← hty] at hset
            obtain ⟨g', hle, HI⟩ := H.set hbx (notIn_ok hnf) hset
            rw [hty] at HI
            refine ⟨g', _, ⟨hle, fun h => (by cases h)⟩, HI, rfl, .inr ⟨?_, rfl⟩⟩
            have := run_stV (v := v) (H.mem.bx _ _ hbx) (by simpa using hcs) t hok h1.size (by rw [h1.size, hmid.size]) h1.one (by rw [h2]; exact mkV_cells h1) hpre
            simp [Instr.storeAt, Instr.sureAddr, this]
          · cases h
        · cases h
      · cases h
    · rename_i b path k
      split at h
      · rename_i T a hb
        split at h
        · rename_i o m l n hl ha
          split at h
          · rename_i hcond
            obtain ⟨hTi, hnf⟩ := hcond
            obtain ⟨rfl, rfl, rfl⟩ := ER.inj h
            obtain ⟨_, bx, o3, m3, e, hbx, ho3, hk⟩ := hu.pti_inv.pti_inv
            injection e with e; subst e
            obtain ⟨bx', hbx', hty, hrc⟩ := H.br.get hb
            rw [hbx] at hbx'; injection hbx' with hbx'; subst hbx'
            rw [hty, hl] at ho3
            simp only [Option.some.injEq, Prod.mk.injEq, Ty.ba.injEq] at ho3
            obtain ⟨rfl, rfl⟩ := ho3
            obtain ⟨a', ha', pre, mid, post, hcs, hpre, hmid, hput⟩ := hrc.lens hl
            rw [ha] at ha'; injection ha' with ha'; subst ha'
            obtain ⟨hm, rfl⟩ := hmid.ba_inv
            injection hm with hm
            have hv' := hv.v_inv; subst hv'
            have hset := hput (.ba (l.set k (UInt8.ofNat n.toNat))) _ (.ba (by rw [List.length_set]; exact hm.symm))
            rw [← hty] at hset
            obtain ⟨g', hle, HI⟩ := H.set hbx (notIn_ok hnf) hset
            rw [hty] at HI
            refine ⟨g', _, ⟨hle, fun h => (by cases h)⟩, HI, rfl, .inr ⟨?_, rfl⟩⟩
            obtain ⟨c1, c2⟩ : 0 ≤ n ∧ n ≤ 255 := hc
            have hkl : k < l.length := by omega
            have hn : Value.int .u8 n = B8 (UInt8.ofNat n.toNat) := by rw [B8_ofNat]; congr 1; omega
            have hsplit : l.map B8 = (l.take k).map B8 ++ [B8 l[k]] ++ (l.drop (k + 1)).map B8 := by
              have h5 : l = l.take k ++ [l[k]] ++ l.drop (k + 1) := by
                rw [← List.take_succ_eq_append_getElem hkl, List.take_append_drop]
              have h6 := congrArg (List.map B8) h5
              rw [h6]; simp only [List.map_append, List.map_cons, List.map_nil]
            have hset2 : (l.set k (UInt8.ofNat n.toNat)).map B8 = (l.take k).map B8 ++ [B8 (UInt8.ofNat n.toNat)] ++ (l.drop (k + 1)).map B8 := by
              rw [List.set_eq_take_append_cons_drop]; rw [if_pos hkl]; simp
            have := run_stV (H.mem.bx _ _ hbx) (pre := pre ++ (l.take k).map B8) (mid := [B8 l[k]]) (post := (l.drop (k + 1)).map B8 ++ post) (news := [B8 (UInt8.ofNat n.toNat)]) (o := o + k) (v := .int .u8 n)
              (by rw [hcs, hsplit]; simp) t hok (by rw [hTi]; rfl) rfl (by intro v hv; simp at hv; subst hv; rfl) (by rw [hn]; rfl) (by rw [List.length_append, List.length_map, List.length_take, hpre]; omega)
            simp only [Instr.storeAt, Instr.sureAddr, Sem.run_bind, Sem.run_pure, Result.andThen_ok, this]
            rw [hset2]
            simp
          · cases h
        · cases h
      · cases h
    · cases h
theorem frzE_still (hτ : τ.ok P) (H : Inv P w0 N g st.bx st.fz st.rw w) {q0 t : Nat} (hN : N.bx.length ≤ q0) {x : AV} {lo hi : Option AV} (h : frzE τ q0 st t x lo hi = some (st', r, cd)) (hc : cd) {u : Value} {vlo vhi : Option Value} (hx : RV g x u) (r1 : RO g lo vlo) (r2 : RO g hi vhi) :
    ∃ g' z, g.lex g' ∧ Inv P w0 N g' st'.bx st'.fz st'.rw w ∧ st'.t = st.t ∧ (Instr.sliceAt t u vlo vhi none).run P w = .ok z w ∧ RV g' r z := by
  unfold frzE at h
  split at h
  · cases h
  · rename_i i hi
    have hok := Tab.get_ok hτ hi
    have hd := hok.d
    split at h
    · rename_i m e b path hid
      rw [hid] at hd
      split at h
      · rename_i T a0 hb
        split at h
        · rename_i o2 m2 l p q hl2 ha0 h1 h2
          split at h
          · rename_i hcond
            obtain ⟨rfl, ht, hq0⟩ := hcond
            obtain ⟨j, hj, hjT⟩ := tyIs_ok hτ ht
            obtain ⟨rfl, rfl, rfl⟩ := ER.inj h
            obtain ⟨c1, c2, c3, c4⟩ := hc
            obtain ⟨_, y, o3, T3, hy, ho3, e⟩ := hx.ptr_inv.ptr_inv
            injection e with e; subst e
            obtain ⟨y', hy', hty, hrc⟩ := H.br.get hb
            rw [hy] at hy'; injection hy' with hy'; subst hy'
            rw [hty, hl2] at ho3
            simp only [Option.some.injEq, Prod.mk.injEq] at ho3
            obtain ⟨rfl, rfl⟩ := ho3
            obtain ⟨a', ha', pre, mid, post, hcs, hpre, hmid, _⟩ := hrc.lens hl2
            rw [ha0] at ha'; injection ha' with ha'; subst ha'
            obtain ⟨hm, rfl⟩ := hmid.ba_inv
            injection hm with hm
            obtain ⟨g', hle, HI, _, hro⟩ := H.freeze hy (Nat.le_trans hN hq0)
            refine ⟨g', .slice (some (if m2 = p.toNat then ⟨y.blk, o2, none⟩ else (⟨y.blk, o2, none⟩ : Addr).add p.toNat)) (q.toNat - p.toNat) (m2 - p.toNat), hle, HI, rfl, ?_, ?_⟩
            · have hs := hj.sizeOf w
              rw [hjT] at hs; simp only [Ty.size] at hs
              simp [Instr.sliceAt, run_underlying (show P.underlying t = _ from hd.1), Instr.sureAddr, run_bounds h1 h2 r1 r2 c1 c2 c3 (Nat.le_refl _), hs]
            · have hlen : ((l.take q.toNat).drop p.toNat).length = q.toNat - p.toNat := by rw [List.length_drop, List.length_take]; omega
              have := RC.bs (g := g') (l := (l.take q.toNat).drop p.toNat) (tok := none) (A := some (if m2 = p.toNat then ⟨y.blk, o2, none⟩ else (⟨y.blk, o2, none⟩ : Addr).add p.toNat)) (c := m2 - p.toNat) (by rw [hlen]; omega) (by simp only [maxLen]; omega) ?_ (fun i hi => by cases hi)
              · rw [hlen] at this; exact this.rv1
              · by_cases hz : q.toNat - p.toNat = 0
                · exact .inl (List.length_eq_zero_iff.1 (by rw [hlen]; exact hz))
                · refine .inr ⟨y.blk, o2 + p.toNat, by rw [if_neg (by omega), addr_add], fun k hk => ?_⟩
                  rw [hlen] at hk
                  refine hro _ _ ?_
                  rw [hcs, List.append_assoc, List.getElem?_append_right (by omega), hpre, show o2 + p.toNat + k - o2 = p.toNat + k by omega, List.getElem?_append_left (by rw [List.length_map]; omega)]
                  simp [show p.toNat + k < l.length by omega]
          · cases h
        · cases h
      · cases h
    · cases h
theorem frzE_sound (hτ : τ.ok P) (H : Inv P w0 N g st.bx st.fz st.rw w) {q0 t : Nat} (hN : N.bx.length ≤ q0) {x : AV} {lo hi : Option AV} (h : frzE τ q0 st t x lo hi = some (st', r, cd)) (hc : cd) {u : Value} {vlo vhi : Option Value} (hx : RV g x u) (r1 : RO g lo vlo) (r2 : RO g hi vhi) :
    EOk false P w0 N g st st' r w (do pure (.value (← Instr.sliceAt t u vlo vhi none))) := by
  obtain ⟨g', z, h1, h2, h3, h4, h5⟩ := frzE_still hτ H hN h hc hx r1 r2
  exact ⟨g', w, ⟨h1.1, fun _ => h1.2⟩, h2, h3, .inl ⟨z, by simp [h4], h5⟩⟩
end
end Go.Proofs.Ytpeefeioccglcaa
