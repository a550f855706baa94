/- Operations that make or write memory: copy, make. -/
import Derived.Test.YtpeefeioccglcaaEff4
import Derived.Laws.MakeOwn
import Derived.Laws.CopyRow
import Derived.Laws.IdiomCopy
set_option linter.unusedSimpArgs false
set_option linter.unusedVariables false
namespace Go.Proofs.Ytpeefeioccglcaa
open Go Go.RowKit
def cpyE (τ : Tab) (st : St) (t : Nat) (x y : AV) : ER :=
  match Tab.get t τ with
  | none => none
  | some i =>
    match i.d, x, srcB y with
    | .slc e, .win b path o n, some l => (match st.bx[b]? with
      | some (T, a) => (match T.loc path, a.loc path with
        | some (_, .ba _), some (.ba cur) => if isByte τ e = true ∧ notIn b st.fz = true then
            some ({ st with bx := st.bx.set b (T, a.put path (.ba (cur.take o ++ l.take n ++ cur.drop (o + (l.take n).length)))) }, .v (.int .i64 ((l.take n).length : Int)), True) else none
        | _, _ => none)
      | none => none)
    | _, _, _ => none
def mkE (τ : Tab) (st : St) (c : Gd) (t : Nat) (l k : Operand) : ER :=
  match Tab.get t τ with
  | none => none
  | some i =>
    match i.d with
    | .slc e => (match Tab.get e τ with
      | none => none
      | some j => (match l, k, st.ev c k with
        | .const (.int _ 0), _, .v (.int _ m) => if 0 < j.ty.size then
            some ({ st with rw := st.rw ++ [(e, 0)] }, if isByte τ e then .bs [] (some st.rw.length) else .sl j.ty [] (some st.rw.length), 0 ≤ m ∧ j.bytes * m ≤ 281474976710656 ∧ m ≤ 9223372036854775807) else none
        | .tmp p, .tmp q, .v (.int _ m) => if p = q ∧ isByte τ e = true then
            some ({ st with bx := st.bx ++ [(.ba m.toNat, .ba (List.replicate m.toNat 0))] }, .win st.bx.length [] 0 m.toNat, 0 ≤ m ∧ j.bytes * m ≤ 281474976710656 ∧ m ≤ 281474976710656) else none
        | _, _, _ => none))
    | _ => none
section
variable {P : Program} {τ : Tab} {w0 w : World} {N : Gh} {g : Gh} {st st' : St} {r : AV} {cd : Prop}
theorem splice {α : Type} {pre mid post xs : List α} {o : Nat} (h : o + xs.length ≤ mid.length) :
    (pre ++ mid ++ post).take (pre.length + o) ++ xs ++ (pre ++ mid ++ post).drop (pre.length + o + xs.length) = pre ++ (mid.take o ++ xs ++ mid.drop (o + xs.length)) ++ post := by
  rw [List.append_assoc pre mid post, List.take_append, List.drop_append, List.take_of_length_le (by omega), List.drop_of_length_le (by omega), Nat.add_sub_cancel_left, show pre.length + o + xs.length - pre.length = o + xs.length by omega,
    List.take_append_of_le_length (by omega), List.drop_append_of_le_length (by omega)]
  simp
/-- Another word for what a box holds. -/
theorem Inv.re {bx : List (Ty × AV)} {fz : List Nat} {rw_ : List (TypeId × Nat)} (h : Inv P w0 N g bx fz rw_ w) {i : Nat} {x : Bx} (hx : g.bx[i]? = some x) {a : AV} (hr : RC g x.ty a x.cells) : Inv P w0 N g (bx.set i (x.ty, a)) fz rw_ w := by
  refine ⟨h.mem, h.fr, ⟨by rw [List.length_set]; exact h.br.len, fun j T b hj => ?_⟩, h.fz, h.wr, h.wz⟩
  rcases getElem?_set_cases hj with ⟨rfl, e, _⟩ | ⟨_, h1⟩
  · injection e with e1 e2; subst e1 e2; exact ⟨x, hx, rfl, hr⟩
  · exact h.br.at_ j T b h1
theorem repl_one {α : Type} (x : α) : ∀ m : Nat, (List.replicate m [x]).flatten = List.replicate m x
  | 0 => rfl
  | m + 1 => by rw [List.replicate_succ, List.replicate_succ, List.flatten_cons, repl_one x m]; rfl
theorem isByte_all (hτ : τ.ok P) {e : Nat} (h : isByte τ e = true) : ∃ j : TI, j.ok P e ∧ j.ty = .sc ∧ j.zero = .v (.int .u8 0) := by
  unfold isByte at h
  split at h
  · rename_i j hj
    split at h
    · rename_i hd
      have hok := Tab.get_ok hτ hj
      exact ⟨j, hok, by simpa using h, hok.iz _ hd⟩
    · cases h
  · cases h
theorem cpyE_sound (hτ : τ.ok P) (H : Inv P w0 N g st.bx st.fz st.rw w) {t : Nat} {x y : AV} (h : cpyE τ st t x y = some (st', r, cd)) {u v : Value} (hu : RV g x u) (hv : RV g y v) (t' ty : TypeId) :
    EOk true P w0 N g st st' r w (do pure (.value (← Builtin.copy_ #[t, t'] ty #[u, v]))) := by
  unfold cpyE at h
  split at h
  · cases h
  · rename_i i hi
    have hd := (Tab.get_ok hτ hi).d
    split at h
    · rename_i e b path o n l hid hsrc
      rw [hid] at hd
      split at h
      · rename_i T a hb
        split at h
        · rename_i o2 m cur hl ha
          split at h
          · rename_i hcond
            obtain ⟨hby, hnf⟩ := hcond
            obtain ⟨rfl, rfl, rfl⟩ := ER.inj h
            obtain ⟨j, hj, hjT, _⟩ := isByte_all hτ hby
            have hs : (P.info? e).map (·.size) = some 1 := by
              obtain ⟨inf, z, e1, e2, _⟩ := hj.info
              rw [hjT] at e2; simp [e1, e2, Ty.size]
            obtain ⟨_, y0, o3, m3, c, A, e1, hy, ho3, hoc, hnc, hm, hA⟩ := hu.win_inv.win_inv
            injection e1 with e1; subst e1
            obtain ⟨y', hy', hty, hrc⟩ := H.br.get hb
            rw [hy] at hy'; injection hy' with hy'; subst hy'
            rw [hty, hl] at ho3
            simp only [Option.some.injEq, Prod.mk.injEq, Ty.ba.injEq] at ho3
            obtain ⟨rfl, rfl⟩ := ho3
            obtain ⟨a', ha', pre, mid, post, hcs, hpre, hmid, hput⟩ := hrc.lens hl
            rw [ha] at ha'; injection ha' with ha'; subst ha'
            obtain ⟨hm2, rfl⟩ := hmid.ba_inv
            injection hm2 with hm2
            obtain ⟨A', c', rfl, hcell⟩ := srcB_ok hsrc hv
            have hmin : (l.take n).length = Nat.min l.length n := by rw [List.length_take, Nat.min_comm]
            by_cases hz : (l.take n).length = 0
            · have hnil : l.take n = [] := List.length_eq_zero_iff.1 hz
              refine ⟨g, w, ⟨Gh.le.refl g, fun h => (by cases h)⟩, ?_, rfl, .inl ⟨.int .i64 0, ?_, ?_⟩⟩
              · rw [hnil]
                simp only [List.append_nil, List.length_nil, Nat.add_zero, List.take_append_drop]
                have h5 := hput (.ba cur) _ hmid
                rw [← hcs, ← hty] at h5
                have := H.re hy h5
                rw [hty] at this; exact this
              · have := run_copy_none (P := P) w t t' ty e A A' n c l.length c' hd hs (by rw [← hmin]; exact hz)
                simp [this, goInt]
              · rw [hz]; exact RV.v_of rfl
            · have hn0 : 0 < n := by have h6 : Nat.min l.length n ≤ n := Nat.min_le_right _ _; omega
              have hA' : A = some ⟨y0.blk, o2 + o, none⟩ := by rcases hA with h | h; (omega); exact h
              subst hA'
              have hlen2 : (l.take n).length ≤ n := by rw [List.length_take]; omega
              rcases hcell with hcell | ⟨bb, oo, rfl, hcell⟩
              · have : l = [] := by simpa using hcell
                subst this; simp at hz
              · have hset := hput (.ba (cur.take o ++ l.take n ++ cur.drop (o + (l.take n).length))) _ (.ba (by simp only [List.length_append, List.length_take, List.length_drop]; omega))
                rw [← hty] at hset
                obtain ⟨g', hle, HI⟩ := H.set hy (notIn_ok hnf) hset
                rw [hty] at HI
                refine ⟨g', _, ⟨hle, fun h => (by cases h)⟩, HI, rfl, .inl ⟨_, ?_, RV.v_of rfl⟩⟩
                have hrun := run_copy_row (P := P) w t t' ty e y0.blk (o2 + o) n c ⟨bb, oo, none⟩ l.length c' y0.cells.toArray y0.tid ((l.take n).map B8) hd hs (H.mem.bx _ _ hy) (by rw [List.length_map]; exact hmin)
                  (fun j u hu => by
                    rw [addr_add]
                    refine H.mem.ro _ _ _ (hcell j u ?_)
                    rw [List.getElem?_map] at hu ⊢
                    obtain ⟨x1, hx1, rfl⟩ := Option.map_eq_some_iff.1 hu
                    rw [List.getElem?_take] at hx1
                    split at hx1
                    · rw [hx1]; rfl
                    · cases hx1)
                  (by simp only [List.length_map, List.size_toArray]; rw [hcs]; simp only [List.length_append, List.length_map]; omega)
                  (fun u hu => by obtain ⟨x1, _, rfl⟩ := List.mem_map.1 hu; rfl)
                simp only [List.length_map] at hrun
                simp only [Sem.run_bind, hrun, Result.andThen_ok, Sem.run_pure, goInt]
                have hcells : y0.cells.toArray.toList.take (o2 + o) ++ (l.take n).map B8 ++ y0.cells.toArray.toList.drop (o2 + o + (l.take n).length) = pre ++ (cur.take o ++ l.take n ++ cur.drop (o + (l.take n).length)).map B8 ++ post := by
                  have := splice (pre := pre) (post := post) (mid := cur.map B8) (xs := (l.take n).map B8) (o := o) (by simp only [List.length_map]; omega)
                  rw [← hcs, hpre] at this
                  simp only [List.length_map] at this
                  show y0.cells.take _ ++ _ ++ y0.cells.drop _ = _
                  rw [this]; simp
                rw [hcells]
          · cases h
        · cases h
      · cases h
    · cases h
theorem mkE_sound (hτ : τ.ok P) (H : Inv P w0 N g st.bx st.fz st.rw w) {nt : Nat} {a : Act} (hF : FR g nt st a) {c : Gd} (hg : gholds a c) {t : Nat} {l k : Operand} (h : mkE τ st c t l k = some (st', r, cd)) (hc : cd) :
    EOk false P w0 N g st st' r w (do pure (.value (← Instr.makeSlice t (a.eval l) (a.eval k)))) := by
  have E := fun x => ev_sound hF hg x
  unfold mkE at h
  split at h
  · cases h
  · rename_i i hi
    have hd := (Tab.get_ok hτ hi).d
    split at h
    · rename_i e hid
      rw [hid] at hd
      split at h
      · cases h
      · rename_i j hj0
        have hj := Tab.get_ok hτ hj0
        obtain ⟨inf, z, e1, e2, e3, e4, e5⟩ := hj.info
        split at h
        · rename_i k0 l0 k1 x0 kl kc m hk
          split at h
          · rename_i hpos
            obtain ⟨rfl, rfl, rfl⟩ := ER.inj h
            obtain ⟨c1, c2, c3⟩ := hc
            have hkv := E k0; rw [hk] at hkv; have hkv := hkv.v_inv
            obtain ⟨m, rfl⟩ := Int.eq_ofNat_of_zero_le c1
            have hzz : zeroOf P e = z.cells.toList := by simp [zeroOf, e1, e4]
            have hzs : z.cells.size = j.ty.size := by rw [← Array.length_toList]; exact (e5 ⟨fun _ _ => none, [], []⟩).size
            have hrun := run_make (P := P) w t e inf z hd e1 e4 kl kc 0 (m : Int) (by omega) (by omega) (by rw [e3]; exact c2) c3
            obtain ⟨z1, z2⟩ := zeroOf_len hj
            let r0 : Rw := ⟨e, j.ty.size, zeroOf P e, .slice (some ⟨w.heap.size, 0, none⟩) 0 m, 0, [], m⟩
            have hno : (r0.cx ++ noughts r0) = (madeCells z.cells (m * inf.size)).toList := by
              have := initCells z.cells m j.ty.size hzs
              rw [e2]; unfold madeCells; rw [this]; show [] ++ (List.replicate m (zeroOf P e)).flatten = _; rw [hzz]; rfl
            have hR : Row (w.alloc (.cells (r0.cx ++ noughts r0).toArray r0.tid)) r0 := by
              refine ⟨hpos, z1, fun u hu => z2 u (by simpa [r0] using hu), by simp [r0], .inr ⟨w.heap.size, by simp [r0], Blk.new _ _ _, by simp only [r0, maxLen]; omega⟩⟩
            obtain ⟨g1, l1, I1, h1, h2⟩ := H.row hR (by simp [r0]) ⟨hj.cells.symm, rfl⟩
            rw [hno] at I1
            refine ⟨g1, _, ⟨l1.1, fun _ => l1.2⟩, I1, rfl, .inl ⟨.slice (some ⟨w.heap.size, 0, none⟩) 0 m, ?_, ?_⟩⟩
            · rw [hkv]
              have h8 : a.eval (Operand.const (Value.int kl 0)) = .int kl 0 := rfl
              rw [h8]
              simp only [Sem.run_bind, hrun, Result.andThen_ok, Sem.run_pure, Int.toNat_zero, Int.toNat_natCast]
              rfl
            · split
              · exact (RC.bs (g := g1) (l := []) (A := some ⟨w.heap.size, 0, none⟩) (c := m) (by simp) (by simp only [maxLen]; omega) (.inl rfl) fun i hi => by injection hi with hi; subst hi; exact ⟨_, h1, by simp [r0], fun _ => ⟨rfl, rfl⟩⟩).rv1
              · exact (RC.sl (g := g1) (T := j.ty) (es := []) (A := some ⟨w.heap.size, 0, none⟩) (c := m) (by simp) (by simp only [maxLen]; omega) (fun _ => []) (.inl rfl) (fun k hk => absurd hk (by simp)) fun i hi => by injection hi with hi; subst hi; exact ⟨_, h1, by simp [r0], fun _ => ⟨rfl, rfl⟩⟩).rv1
          · cases h
        · rename_i p q kc m hk
          split at h
          · rename_i hcond
            obtain ⟨rfl, hby⟩ := hcond
            obtain ⟨rfl, rfl, rfl⟩ := ER.inj h
            obtain ⟨c1, c2, c3⟩ := hc
            have hkv := E (.tmp p); rw [hk] at hkv; have hkv := hkv.v_inv
            obtain ⟨m, rfl⟩ := Int.eq_ofNat_of_zero_le c1
            obtain ⟨j1, hj1, hjT, hjz⟩ := isByte_all hτ hby
            obtain ⟨inf1, z1, f1, f2, f3, f4, f5⟩ := hj1.info
            rw [e1] at f1; injection f1 with f1; subst f1
            rw [e4] at f4; injection f4 with f4; subst f4
            have hzc : z.cells.toList = [B8 0] := by
              have := f5 ⟨fun _ _ => none, [], []⟩
              rw [hjT, hjz] at this
              generalize z.cells.toList = zl at this
              cases this; rfl
            have hrun := run_make (P := P) w t e inf z hd e1 e4 kc kc (m : Int) (m : Int) (by omega) (by omega) (by rw [e3]; exact c2) (by omega)
            have hcs : (madeCells z.cells (m * inf.size)).toList = (List.replicate m (0 : UInt8)).map B8 := by
              have := initCells z.cells m inf.size (by rw [← Array.length_toList, hzc, f2, hjT]; rfl)
              unfold madeCells; rw [this, hzc, List.map_replicate]
              exact repl_one _ _
            obtain ⟨g', hle, HI, hp⟩ := H.box (T := .ba m) (a := .ba (List.replicate m 0)) (cs := (List.replicate m (0 : UInt8)).map B8) (.ba (by simp)) e
            obtain ⟨_, x, o, T, hx, ho, e9⟩ := hp.ptr_inv.ptr_inv
            obtain ⟨x', hx', hty, _⟩ := HI.br.get (i := st.bx.length) (T := .ba m) (a := .ba (List.replicate m 0)) (by simp)
            rw [hx] at hx'; injection hx' with hx'; subst hx'
            rw [hty] at ho
            simp only [Ty.loc, Option.some.injEq, Prod.mk.injEq] at ho
            obtain ⟨rfl, rfl⟩ := ho
            refine ⟨g', _, ⟨hle.1, fun _ => hle.2⟩, HI, rfl, .inl ⟨.slice (some ⟨w.heap.size, 0, none⟩) m m, ?_, ?_⟩⟩
            · rw [hkv]
              simp only [Sem.run_bind, hrun, Result.andThen_ok, Sem.run_pure, Int.toNat_natCast]
              rw [← hcs]
            · injection e9 with e9; injection e9 with e9; injection e9 with e9
              exact (RC.win (g := g') (o1 := 0) (n1 := m) (c := m) hx (by rw [hty]; rfl) (by omega) (Nat.le_refl _) (by simp only [maxLen]; omega) (.inr (by rw [← e9]))).rv1
          · cases h
        · cases h
    · cases h
end
end Go.Proofs.Ytpeefeioccglcaa
