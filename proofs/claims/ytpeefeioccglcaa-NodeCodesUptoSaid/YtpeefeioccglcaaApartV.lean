/- ApartBytes of slices that own their memory, written out where they are asked about; guards that are known to hold. -/
import Derived.Test.YtpeefeioccglcaaA5
import Derived.Test.YtpeefeioccglcaaApart
set_option linter.unusedSimpArgs false
set_option linter.unusedVariables false
namespace Go.Proofs.Ytpeefeioccglcaa
open Go Go.RowKit
section
variable {P : Program} {τ : Tab} {w0 w : World} {N : Gh} {g gS : Gh} {st st' sq sq' : St} {nt : Nat} {a : Act}
def akey : AV → Nat
  | .bs _ (some k) => 2 * k + 1
  | .bc _ _ (some i) => 2 * i + 2
  | _ => 0
def aokP (st : St) : AV → Prop
  | .bs l (some k) => st.rw[k]? = some (5, l.length)
  | .bc _ _ (some i) => ∃ m l', st.bx[i]? = some (.ba m, .ba l')
  | .v (.slice none 0 0) => True
  | _ => False
def allQ (p : AV → Prop) : List AV → Prop
  | [] => True
  | x :: l => p x ∧ allQ p l
theorem allQ_get {p : AV → Prop} : ∀ {l : List AV}, allQ p l → ∀ x ∈ l, p x
  | y :: l, h, x, hx => by
    rcases List.mem_cons.1 hx with e | e
    · subst e; exact h.1
    · exact allQ_get h.2 x e
theorem zero_u8 : zeroOf Try.prog 5 = [.int .u8 0] := by kernel_rfl
theorem flat_z (m : Nat) : (List.replicate m [Value.int .u8 0]).flatten = (List.replicate m (0 : UInt8)).map B8 := by
  induction m with
  | zero => rfl
  | succ m ih => rw [List.replicate_succ, List.flatten_cons, ih, List.replicate_succ]; rfl
theorem own_av (HI : Inv Try.prog w0 N g st.bx st.fz st.rw w) {x : AV} {v : Value} (hr : RV g x v) (hok : aokP st x) :
    ∃ (sv : SV) (l sp : List UInt8) (t : TypeId), v = sv.v ∧ Own (byteT t) w 0 v l sp ∧ (v.ownBlock = none ∨ (∃ k r, akey x = 2 * k + 1 ∧ g.rw[k]? = some r ∧ r.v.ownBlock = v.ownBlock) ∨ ∃ i y, akey x = 2 * i + 2 ∧ g.bx[i]? = some y ∧ some y.blk = v.ownBlock) := by
  cases x with
  | v u =>
    have hu : u = .slice none 0 0 := by
      unfold aokP at hok
      split at hok
      · rename_i e; cases e
      · rename_i e; cases e
      · rename_i e; injection e
      · exact hok.elim
    have := hr.v_inv
    subst this hu
    exact ⟨(none, 0, 0), [], [], 5, rfl, .inl ⟨rfl, rfl, rfl⟩, .inl rfl⟩
  | bs l tok =>
    cases tok with
    | none => exact hok.elim
    | some k =>
      have hok' : st.rw[k]? = some (5, l.length) := hok
      have h1 := hr.bs_inv
      cases h1 with
      | bs hc hm hr' ht =>
        obtain ⟨r, hrk, _, h3⟩ := ht k rfl
        have hw : (r.tid, r.n) = (5, l.length) := by
          have := HI.wr
          rw [← this, List.getElem?_map, hrk] at hok'
          injection hok'
        simp only [Prod.mk.injEq] at hw
        obtain ⟨hv, hcx⟩ := h3 hw.2
        have hz := HI.wz r (List.mem_of_getElem? hrk)
        rename_i A c _
        refine ⟨(A, l.length, c), l, List.replicate r.m 0, 5, rfl, ?_, .inr (.inl ⟨k, r, rfl, hrk, by rw [hv]⟩)⟩
        have hrow := HI.mem.rw k r hrk
        have hno : noughts r = (List.replicate r.m (0 : UInt8)).map B8 := by
          unfold noughts; rw [hz.2, hw.1, zero_u8]; exact flat_z _
        rcases hrow.at_ with ⟨e1, e2, e3⟩ | ⟨b, e1, e2, e3⟩
        · rw [hv] at e1
          injection e1 with e4 e5 e6
          subst e4 e6
          refine .inl ⟨by rw [e5], List.length_eq_zero_iff.1 e5, by rw [e3]; rfl⟩
        · rw [hv] at e1
          injection e1 with e4 e5 e6
          subst e4
          rw [hw.2] at e6 e3
          refine .inr ⟨b, Nat.zero_le _, ?_, ?_, by simp; exact e3⟩
          · rw [e6]; simp
          · rw [hcx, hno, hw.1] at e2
            show Blk w b 5 _
            rw [byteT_all, List.map_append]; exact e2
  | bc full n tok =>
    cases tok with
    | none => exact hok.elim
    | some i =>
      obtain ⟨m, l', hbx⟩ := (show ∃ m l', st.bx[i]? = some (.ba m, .ba l') from hok)
      have h1 := hr.bc_inv
      cases h1 with
      | bc hn hm hr' ht =>
        rename_i A
        obtain ⟨y, hy, hA, hty⟩ := ht i rfl
        obtain ⟨y', hy', hT, hrc⟩ := HI.br.at_ i _ _ hbx
        rw [hy] at hy'
        injection hy' with hy'
        subst hy'
        rw [hty] at hT
        injection hT with hT
        have hblk := HI.mem.bx i y hy
        have hcells : y.cells = l'.map B8 ∧ l'.length = m := by
          generalize hcs : y.cells = cs at hrc
          cases hrc with
          | ba h => exact ⟨rfl, h⟩
        have hll : l'.length = full.length := by rw [hcells.2, hT]
        have hfl : l' = full := by
          apply List.ext_getElem hll
          intro j hj1 hj2
          rcases hr' with h | ⟨b, o, hb, hj⟩
          · subst h; simp at hj2
          · rw [hA] at hb
            injection hb with hb
            injection hb with hb1 hb2
            have h5 := HI.mem.ro _ _ _ (hj j hj2)
            rw [← hb1, ← hb2, Nat.zero_add, hblk.cell, hcells.1] at h5
            simp only [List.getElem?_toArray, List.getElem?_map, List.getElem?_eq_getElem hj1, Option.map_some, Option.some.injEq] at h5
            have h6 : B8 l'[j] = B8 full[j] := h5
            simp only [B8, Value.int.injEq, true_and] at h6
            exact UInt8.toNat_inj.1 (by omega)
        subst hfl
        refine ⟨(A, n, l'.length), l'.take n, l'.drop n, y.tid, rfl, ?_, .inr (.inr ⟨i, y, rfl, hy, by rw [hA]; rfl⟩)⟩
        have e1 : (l'.take n).length = n := by rw [List.length_take]; omega
        refine .inr ⟨y.blk, Nat.zero_le _, ?_, ?_, by rw [e1, List.length_drop]; omega⟩
        · rw [hA, e1, List.length_drop, show n + (l'.length - n) = l'.length by omega]
        · show Blk w y.blk y.tid _
          rw [byteT_all, List.take_append_drop, ← hcells.1]; exact hblk
  | _ => exact hok.elim
theorem fill_ok {z : Value} : ∀ (vs pre : List Value), (∀ v ∈ vs, v.cells = #[v]) → Instr.fill (fun i => some (i * 1, 1)) (pre ++ List.replicate vs.length z).toArray ((vs.zipIdx pre.length).map fun p => (p.2, p.1)) = some (pre ++ vs).toArray
  | [], pre, _ => by simp [Instr.fill]
  | v :: vs, pre, h => by
    have hv := h v List.mem_cons_self
    have ih := fill_ok (z := z) vs (pre ++ [v]) fun u hu => h u (List.mem_cons_of_mem _ hu)
    have e : (#[v].zipIdx.foldl (fun cs (p : Value × Nat) => cs.setIfInBounds (pre.length * 1 + p.2) p.1) (pre ++ List.replicate (v :: vs).length z).toArray) = (pre ++ [v] ++ List.replicate vs.length z).toArray := by
      apply Array.toList_inj.1
      simp [List.replicate_succ]
    rw [List.length_append, List.length_singleton] at ih
    simp only [List.zipIdx_cons, List.map_cons]
    unfold Instr.fill
    dsimp only
    rw [hv, if_neg (by simp)]
    rw [e, ih]
    simp
theorem run_bsl (vs : List Value) (hv : ∀ v ∈ vs, v.cells = #[v]) (h0 : 0 < vs.length) (hn : vs.length ≤ 1000) (w : World) :
    (Instr.buildSlice 71 vs.length ((vs.zipIdx.map fun p => (p.2, p.1)).toArray)).run Try.prog w = .ok (.slice (some ⟨w.heap.size, 0, none⟩) vs.length vs.length) (w.alloc (.cells vs.toArray 22)) := by
  have hs : (sizeOf 22).run Try.prog w = .ok 1 w := ti22_ok.sizeOf w
  have hz : (zeroValue 22).run Try.prog w = .ok (.slice none 0 0) w := by kernel_rfl
  have hf := fill_ok (z := .slice none 0 0) vs [] hv
  simp only [List.nil_append, List.length_nil] at hf
  unfold Instr.buildSlice
  simp only [Sem.run_bind, run_underlying Try.underlying71, Result.andThen_ok, hs]
  rw [show vs.length * 1 = vs.length from Nat.mul_one _]
  have e : ((Array.range vs.length).map fun i => (Value.slice none 0 0).cells[i % (Value.slice none 0 0).cells.size]!) = (List.replicate vs.length (Value.slice none 0 0)).toArray := by
    apply Array.ext
    · simp
    · intro i h1 h2; simp [Value.cells, Nat.mod_one]
  have hf' : Instr.fill (fun i => some (i * 1, 1)) ((Array.range vs.length).map fun i => (Value.slice none 0 0).cells[i % (Value.slice none 0 0).cells.size]!) (((vs.zipIdx.map fun p => (p.2, p.1)).toArray).toList) = some vs.toArray := by
    rw [e]; exact hf
  rw [if_neg (by omega), if_neg (by omega)]
  simp only [Sem.run_bind, hz, Result.andThen_ok, Sem.run_pure, hf']
  simp [newRow]
theorem mk_rows (HI : Inv Try.prog w0 N g st.bx st.fz st.rw w) (hF : FR g nt st a) : ∀ xs : List Operand, allQ (aokP st) (xs.map (st.ev none)) →
    ∃ L : List ARow, L.length = xs.length ∧ ∀ (i : Nat) x (r : ARow), xs[i]? = some x → L[i]? = some r → a.eval x = r.1.v ∧ Own (byteT r.2.2.2) w 0 r.1.v r.2.1 r.2.2.1 ∧
      (r.1.v.ownBlock = none ∨ (∃ k q, akey (st.ev none x) = 2 * k + 1 ∧ g.rw[k]? = some q ∧ q.v.ownBlock = r.1.v.ownBlock) ∨ ∃ i y, akey (st.ev none x) = 2 * i + 2 ∧ g.bx[i]? = some y ∧ some y.blk = r.1.v.ownBlock)
  | [], _ => ⟨[], rfl, fun i x r h => by simp at h⟩
  | x :: xs, h => by
    obtain ⟨L, h1, h2⟩ := mk_rows HI hF xs h.2
    obtain ⟨sv, l, sp, t, e1, e2, e3⟩ := own_av HI (ev_sound hF (c := none) trivial x) h.1
    refine ⟨(sv, l, sp, t) :: L, by simp [h1], fun i y r hy hr => ?_⟩
    cases i with
    | zero =>
      simp only [List.getElem?_cons_zero, Option.some.injEq] at hy hr
      subst hy hr
      rw [e1] at e2 e3
      exact ⟨e1, e2, e3⟩
    | succ i => exact h2 i y r (by simpa using hy) (by simpa using hr)
/-- A list of slices is written out, and asked whether they share memory: they don't. -/
theorem v_apart {ops : Array Oper} {Q : Exit → Act → World → Prop} {rest : List Oper} {o1 o2 : Oper} {d : Nat} {xs : List Operand} {ks : List Nat} {ats : Array TypeId} (H : Rel Try.prog w0 N nt st a w) (h1 : o1.guard = none) (h2 : o2.guard = none ∨ ∃ t b, gdOf ops o2 = some (some (t, b)) ∧ st.tmp none t = .v (.bool b) ∧ t ≠ d) (hd : o1.dst = some d) (hdn : d < nt)
    (ho1 : o1.op = .buildSlice 71 xs.length ((xs.zipIdx.map fun p => (p.2, p.1)).toArray)) (ho2 : o2.op = .call ⟨.value (.func 38), #[.tmp d], ats⟩) (hq : allQ (aokP st) (xs.map (st.ev none)))
    (hks : xs.map (fun x => akey (st.ev none x)) = ks) (hkn : ks.Pairwise fun x y => x ≠ y ∨ x = 0) (h0 : 0 < xs.length) (hl : xs.length ≤ 1000) (hd2 : okDst nt none o2.dst = true)
    (k : ∀ a w, Rel Try.prog w0 N nt ((st.lose (some d)).put o2.dst none (.v (.bool true))) a w → wpList Try.prog ops Q rest a w) : wpList Try.prog ops Q (o1 :: o2 :: rest) a w := by
  obtain ⟨g, HI, hF⟩ := H
  obtain ⟨L, hL, hR⟩ := mk_rows HI hF xs hq
  have hvl : (xs.map a.eval).length = xs.length := by simp
  have get : ∀ i (hi : i < L.length), ∃ x, xs[i]? = some x := fun i hi => ⟨xs[i]'(by omega), List.getElem?_eq_getElem (by omega)⟩
  have hcell : ∀ v ∈ xs.map a.eval, v.cells = #[v] := fun v hv => by
    obtain ⟨x, hx, rfl⟩ := List.mem_map.1 hv
    obtain ⟨i, hi⟩ := List.getElem?_of_mem hx
    have hil : i < L.length := by rw [hL]; exact (List.getElem?_eq_some_iff.1 hi).1
    have := (hR i x L[i] hi (List.getElem?_eq_getElem hil)).1
    rw [this]; rfl
  have hrun := run_bsl (xs.map a.eval) hcell (by omega) (by omega) w
  rw [hvl] at hrun
  refine wpList_plain h1 fun K hK => ?_
  have hex : (execOp a.eval o1).run Try.prog w = .ok (.value (.slice (some ⟨w.heap.size, 0, none⟩) xs.length xs.length)) (w.alloc (.cells (xs.map a.eval).toArray 22)) := by
    obtain ⟨dst, op, ty, pos, after, gd⟩ := o1
    dsimp only at ho1
    subst ho1
    have e : ((xs.zipIdx.map fun p => (p.2, p.1)).toArray.map fun (p : Nat × Operand) => (p.1, a.eval p.2)) = (((xs.map a.eval).zipIdx.map fun p => (p.2, p.1)).toArray) := by
      simp [List.zipIdx_map, Function.comp_def]
    have e2 : execOp a.eval ⟨dst, .buildSlice 71 xs.length ((xs.zipIdx.map fun p => (p.2, p.1)).toArray), ty, pos, after, gd⟩ = (do pure (.value (← Instr.buildSlice 71 xs.length ((xs.zipIdx.map fun p => (p.2, p.1)).toArray.map fun (p : Nat × Operand) => (p.1, a.eval p.2))))) := rfl
    rw [e2, e]
    simp only [Sem.run_bind, hrun, Result.andThen_ok, Sem.run_pure]
  unfold Oper.wp
  rw [hex, Oper.upon_value, hd]
  refine hK _ _ ?_
  have hds : d < a.tmps.size := by rw [hF.sz]; exact hdn
  have hfok : Fok Try.prog 38 := ⟨_, Try.func38, by kernel_rfl, by kernel_rfl⟩
  have hw2 : Region.wanted o2 (yielded ops (a.put (some d) (.slice (some ⟨w.heap.size, 0, none⟩) xs.length xs.length)).tmps) = true := by
    rcases h2 with h2 | ⟨t, b, e1, e2, e3⟩
    · simp [Region.wanted, h2]
    · have h3 := tmp_sound hF (c := none) trivial t
      rw [e2] at h3
      refine (gdOf_wanted e1).2 ?_
      show (a.put (some d) _).tmps.getD t undef = .bool b
      rw [getD_put e3]; exact h3.v_inv
  refine wpList_step fun K hK => ?_
  rw [if_pos hw2]
  unfold Oper.wp
  rw [run_callF hfok [.tmp d] ats ho2, Oper.upon_enter]
  have hev : ([Operand.tmp d].map (a.put (some d) (.slice (some ⟨w.heap.size, 0, none⟩) xs.length xs.length)).eval).toArray = #[Value.slice (some ⟨w.heap.size, 0, none⟩) L.length xs.length] := by
    have := getD_put_same (a := a) (v := .slice (some ⟨w.heap.size, 0, none⟩) xs.length xs.length) hds
    rw [hL]
    show #[(a.put (some d) _).tmps.getD d undef] = _
    rw [this]
  rw [hev]
  have hbel : Below w.heap.size w (w.alloc (.cells (xs.map a.eval).toArray 22)) := (Below.refl _ _).alloc (Nat.le_refl _) _
  have hne : ∀ i j (hi : i < L.length) (hj : j < L.length), i ≠ j → L[i].1.v.ownBlock = none ∨ L[i].1.v.ownBlock ≠ L[j].1.v.ownBlock := fun i j hi hj hij => by
    obtain ⟨x, hx⟩ := get i hi
    obtain ⟨y, hy⟩ := get j hj
    obtain ⟨_, _, hx3⟩ := hR i x _ hx (List.getElem?_eq_getElem hi)
    obtain ⟨_, _, hy3⟩ := hR j y _ hy (List.getElem?_eq_getElem hj)
    have hkx : ks[i]? = some (akey (st.ev none x)) := by rw [← hks, List.getElem?_map, hx]; rfl
    have hky : ks[j]? = some (akey (st.ev none y)) := by rw [← hks, List.getElem?_map, hy]; rfl
    have hdk : akey (st.ev none x) ≠ 0 → akey (st.ev none x) ≠ akey (st.ev none y) := fun hz e => by
      rw [List.pairwise_iff_getElem] at hkn
      obtain ⟨hi', ei⟩ := List.getElem?_eq_some_iff.1 hkx
      obtain ⟨hj', ej⟩ := List.getElem?_eq_some_iff.1 hky
      rcases Nat.lt_or_gt_of_ne hij with h | h
      · rcases hkn i j hi' hj' h with h' | h'
        · exact h' (by rw [ei, ej, e])
        · rw [ei] at h'; exact hz h'
      · rcases hkn j i hj' hi' h with h' | h'
        · exact h' (by rw [ei, ej, e])
        · rw [ej, ← e] at h'; exact hz h'
    cases hb : L[i].1.v.ownBlock with
    | none => exact .inl rfl
    | some b =>
      right
      intro e
      rcases hx3 with h | hx3
      · rw [hb] at h; cases h
      rcases hy3 with h | hy3
      · rw [h] at e; cases e
      rcases hx3 with ⟨k1, q1, hk1, hq1, hb1⟩ | ⟨i1, y1, hk1, hq1, hb1⟩ <;> rcases hy3 with ⟨k2, q2, hk2, hq2, hb2⟩ | ⟨i2, y2, hk2, hq2, hb2⟩
      · have := HI.mem.rr k1 k2 q1 q2 b hq1 hq2 (hb1.trans hb) (hb2.trans e.symm)
        exact hdk (by rw [hk1]; omega) (by rw [hk1, hk2, this])
      · exact HI.mem.rb i2 k1 y2 q1 hq2 hq1 (hb1.trans (hb.trans (e.trans hb2.symm)))
      · exact HI.mem.rb i1 k2 y1 q2 hq1 hq2 (hb2.trans (e.symm.trans (hb.symm.trans hb1.symm)))
      · have h5 : some y1.blk = some y2.blk := hb1.trans (hb.trans (e.trans hb2.symm))
        injection h5 with h5
        have := HI.mem.bb i1 i2 y1 y2 hq1 hq2 h5
        exact hdk (by rw [hk1]; omega) (by rw [hk1, hk2, this])
  have hP : Apart (w.alloc (.cells (xs.map a.eval).toArray 22)) 0 L := ⟨fun i hi => by
    obtain ⟨x, hx⟩ := get i hi
    exact (hR i x _ hx (List.getElem?_eq_getElem hi)).2.1.belowSize hbel, hne⟩
  refine (apart_any L w.heap.size 0 xs.length 0 (w.alloc (.cells (xs.map a.eval).toArray 22)) (fun i hi => ?_) (by rw [World.size_alloc]; exact Nat.lt_succ_self _) hP (by omega) (by omega)).mono fun e w2 hp => ?_
  · obtain ⟨x, hx⟩ := get i hi
    have hx1 := (hR i x _ hx (List.getElem?_eq_getElem hi)).1
    rw [(Blk.new _ _ _).cell, Nat.zero_add]
    simp only [List.getElem?_toArray, List.getElem?_map, hx, Option.map_some, hx1]
  · obtain ⟨rfl, hb⟩ := hp
    have hall : ∀ k, k < w.heap.size → w2.heap[k]? = w.heap[k]? := fun k hk => (hb.block k (by rw [World.size_alloc]; omega)).trans (hbel.block k hk)
    have hI2 := HI.keep hall (Nat.le_trans hbel.size hb.size) (hb.os.trans hbel.os) (hb.tape.trans hbel.tape) (hb.output.trans hbel.output)
    refine hK _ _ (k _ _ ⟨g, ?_, ?_⟩)
    · rw [(put_bx _ _ _ _).1, (put_bx _ _ _ _).2.1, (put_bx _ _ _ _).2.2]; exact hI2
    · exact (hF.lose (dst := some d) _).put (st := st.lose (some d)) (st' := st.lose (some d)) hd2 (fun _ => RV.v_of rfl) rfl (fun h => absurd trivial h)
end
end Go.Proofs.Ytpeefeioccglcaa
