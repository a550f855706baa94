/- ApartBytes of slices that own their memory, written out where they are asked about; guards that are known to hold. -/
import Derived.Test.YtpeefeioccglcaaA5
import Derived.Test.YtpeefeioccglcaaApart
import Derived.Test.YtpeefeioccglcaaA1
import Derived.BigQuiet
import Derived.BigRegion
import Derived.Deep.Draws
import Derived.Deep.LoopGhost
import Derived.Outline
import Derived.Lib.Hide
import Derived.Test.YtpeefeioccglcaaA4
import Derived.Laws.BitsAllLaws
set_option linter.unusedSimpArgs false
set_option linter.unusedVariables false
namespace Go.Proofs.Ytpeefeioccglcaa
open Go Go.RowKit
section
variable {P : Program} {τ : Tab} {w0 w : World} {N : Gh} {g gS : Gh} {st st' sq sq' : St} {nt : Nat} {a : Act}
def akey : AV → Nat
  | .bs _ (some k) => 2 * k + 1
  | .bc _ _ (some i) => 2 * i + 2
  | .vw i _ _ => 2 * i + 2
  | _ => 0
def aokP (st : St) : AV → Prop
  | .bs l (some k) => st.rw[k]? = some (5, l.length)
  | .bc _ _ (some i) => ∃ m l', st.bx[i]? = some (.ba m, .ba l')
  | .v (.slice none 0 0) => True
  | .vw i γ n => ∃ l, st.bx[i]? = some (.vc 5 .sc, .vb γ l) ∧ n ≤ l.length
  | _ => False
def allQ (p : AV → Prop) : List AV → Prop
  | [] => True
  | x :: l => p x ∧ allQ p l
theorem zero_u8 : zeroOf Try.prog 5 = [.int .u8 0] := by kernel_rfl
theorem flat_z (m : Nat) : (List.replicate m [Value.int .u8 0]).flatten = (List.replicate m (0 : UInt8)).map B8 := by
  induction m with
  | zero => rfl
  | succ m ih => rw [List.replicate_succ, List.flatten_cons, ih, List.replicate_succ]; rfl
theorem own_av (HI : Inv Try.prog w0 N g st.bx st.fz st.rw w) {x : AV} {v : Value} (hr : RV g x v) (hok : aokP st x) :
    ∃ (sv : SV) (l sp : List UInt8) (t : TypeId), v = sv.v ∧ Own (byteT t) w 0 v l sp ∧ (v.ownBlock = none ∨ (∃ k r, akey x = 2 * k + 1 ∧ g.rw[k]? = some r ∧ r.v.ownBlock = v.ownBlock) ∨ ∃ i y, akey x = 2 * i + 2 ∧ g.bx[i]? = some y ∧ y.off = false ∧ some y.blk = v.ownBlock) := by
  cases x with
  | v u =>
    have hu : u = .slice none 0 0 := by
      unfold aokP at hok
      split at hok
      · rename_i e; cases e
      · rename_i e; cases e
      · rename_i e; injection e
      · rename_i e; cases e
      · exact hok.elim
    have := hr.v_inv
    subst this hu
    exact ⟨(none, 0, 0), [], [], 5, rfl, .inl ⟨rfl, rfl, rfl⟩, .inl rfl⟩
  | bs l tok =>
    cases tok with
    | none => exact hok.elim
    | some k =>
      have hok' : st.rw[k]? = some (5, l.length) := hok
      have h1 := hr.bs_inv
      cases h1 with
      | bs hc hm hr' ht =>
        obtain ⟨r, hrk, _, h3⟩ := ht k rfl
        have hw : (r.tid, r.n) = (5, l.length) := by
          have := HI.wr
          rw [← this, List.getElem?_map, hrk] at hok'
          injection hok'
        simp only [Prod.mk.injEq] at hw
        obtain ⟨hv, hcx⟩ := h3 hw.2
        have hz := HI.wz r (List.mem_of_getElem? hrk)
        rename_i A c _
        refine ⟨(A, l.length, c), l, List.replicate r.m 0, 5, rfl, ?_, .inr (.inl ⟨k, r, rfl, hrk, by rw [hv]⟩)⟩
        have hrow := HI.mem.rw k r hrk
        have hno : noughts r = (List.replicate r.m (0 : UInt8)).map B8 := by
          unfold noughts; rw [hz.2, hw.1, zero_u8]; exact flat_z _
        rcases hrow.at_ with ⟨e1, e2, e3⟩ | ⟨b, e1, e2, e3⟩
        · rw [hv] at e1
          injection e1 with e4 e5 e6
          subst e4 e6
          refine .inl ⟨by rw [e5], List.length_eq_zero_iff.1 e5, by rw [e3]; rfl⟩
        · rw [hv] at e1
          injection e1 with e4 e5 e6
          subst e4
          rw [hw.2] at e6 e3
          refine .inr ⟨b, Nat.zero_le _, ?_, ?_, by simp; exact e3⟩
          · rw [e6]; simp
          · rw [hcx, hno, hw.1] at e2
            show Blk w b 5 _
            rw [byteT_all, List.map_append]; exact e2
  | bc full n tok =>
    cases tok with
    | none => exact hok.elim
    | some i =>
      obtain ⟨m, l', hbx⟩ := (show ∃ m l', st.bx[i]? = some (.ba m, .ba l') from hok)
      have h1 := hr.bc_inv
      cases h1 with
      | bc hn hm hr' ht =>
        rename_i A
        obtain ⟨y, hy, hA, hty⟩ := ht i rfl
        obtain ⟨y', hy', hT, hrc⟩ := HI.br.at_ i _ _ hbx
        rw [hy] at hy'
        injection hy' with hy'
        subst hy'
        rw [hty] at hT
        injection hT with hT
        obtain ⟨hyo, hym, hrc⟩ := hrc.rc rfl
        have hblk := (HI.mem.bx i y hy hyo).c hym
        have hcells : y.cells = l'.map B8 ∧ l'.length = m := by
          generalize hcs : y.cells = cs at hrc
          cases hrc with
          | ba h => exact ⟨rfl, h⟩
        have hll : l'.length = full.length := by rw [hcells.2, hT]
        have hfl : l' = full := by
          apply List.ext_getElem hll
          intro j hj1 hj2
          rcases hr' with h | ⟨b, o, hb, hj⟩
          · subst h; simp at hj2
          · rw [hA] at hb
            injection hb with hb
            injection hb with hb1 hb2
            have h5 := HI.mem.ro _ _ _ (hj j hj2)
            rw [← hb1, ← hb2, Nat.zero_add, hblk.cell, hcells.1] at h5
            simp only [List.getElem?_toArray, List.getElem?_map, List.getElem?_eq_getElem hj1, Option.map_some, Option.some.injEq] at h5
            have h6 : B8 l'[j] = B8 full[j] := h5
            simp only [B8, Value.int.injEq, true_and] at h6
            exact UInt8.toNat_inj.1 (by omega)
        subst hfl
        refine ⟨(A, n, l'.length), l'.take n, l'.drop n, y.tid, rfl, ?_, .inr (.inr ⟨i, y, rfl, hy, hyo, by rw [hA]; rfl⟩)⟩
        have e1 : (l'.take n).length = n := by rw [List.length_take]; omega
        refine .inr ⟨y.blk, Nat.zero_le _, ?_, ?_, by rw [e1, List.length_drop]; omega⟩
        · rw [hA, e1, List.length_drop, show n + (l'.length - n) = l'.length by omega]
        · show Blk w y.blk y.tid _
          rw [byteT_all, List.take_append_drop, ← hcells.1]; exact hblk
  | vw i γ n =>
    obtain ⟨l, hbx, hn⟩ := (show ∃ l, st.bx[i]? = some (.vc 5 .sc, .vb γ l) ∧ n ≤ l.length from hok)
    obtain ⟨_, y, e9, T9, A, c, e1, hy, hty, hle, hnc, hm, hxx⟩ := hr.vw_inv.vw_inv
    injection e1 with e1; subst e1
    obtain ⟨y', hy', hyT, hbc⟩ := HI.br.at_ i _ _ hbx
    rw [hy] at hy'; injection hy' with hy'; subst hy'
    obtain ⟨l2, ⟨e4, he4, htid⟩, hmp, hgen, hcm, hcs, hcl⟩ := hbc.vb_inv
    injection he4 with he40; subst he40
    obtain ⟨hcc, hA⟩ := hxx hgen
    have hll : l.length + l2.length = c := by rw [hcc, ← hcl, hcs, List.length_map, List.length_append]
    have e5 : (l.take n).length = n := by rw [List.length_take]; omega
    refine ⟨(A, n, c), l.take n, l.drop n ++ l2, 5, rfl, ?_, ?_⟩
    · rcases hA with ⟨ho, rfl⟩ | ⟨ho, rfl⟩
      · have := hcm.2 ho
        have h2 : l = [] := List.length_eq_zero_iff.1 (by omega)
        have h3 : l2 = [] := List.length_eq_zero_iff.1 (by omega)
        subst h2 h3
        refine .inl ⟨?_, by simp, by simp⟩
        rw [show c = 0 by omega, show n = 0 by simpa using hn]
      · refine .inr ⟨y.blk, Nat.zero_le _, ?_, ?_, ?_⟩
        · rw [e5, List.length_append, List.length_drop, show n + (l.length - n + l2.length) = c by omega]
        · rw [byteT_all, ← List.append_assoc, List.take_append_drop, ← hcs]
          have := (HI.mem.bx i y hy ho).c hmp
          rw [htid] at this
          exact this
        · rw [e5, List.length_append, List.length_drop]; omega
    · rcases hA with ⟨ho, rfl⟩ | ⟨ho, rfl⟩
      · exact .inl rfl
      · exact .inr (.inr ⟨i, y, rfl, hy, ho, rfl⟩)
  | _ => exact hok.elim
theorem fill_ok {z : Value} : ∀ (vs pre : List Value), (∀ v ∈ vs, v.cells = #[v]) → Instr.fill (fun i => some (i * 1, 1)) (pre ++ List.replicate vs.length z).toArray ((vs.zipIdx pre.length).map fun p => (p.2, p.1)) = some (pre ++ vs).toArray
  | [], pre, _ => by simp [Instr.fill]
  | v :: vs, pre, h => by
    have hv := h v List.mem_cons_self
    have ih := fill_ok (z := z) vs (pre ++ [v]) fun u hu => h u (List.mem_cons_of_mem _ hu)
    have e : (#[v].zipIdx.foldl (fun cs (p : Value × Nat) => cs.setIfInBounds (pre.length * 1 + p.2) p.1) (pre ++ List.replicate (v :: vs).length z).toArray) = (pre ++ [v] ++ List.replicate vs.length z).toArray := by
      apply Array.toList_inj.1
      simp [List.replicate_succ]
    rw [List.length_append, List.length_singleton] at ih
    simp only [List.zipIdx_cons, List.map_cons]
    unfold Instr.fill
    dsimp only
    rw [hv, if_neg (by simp)]
    rw [e, ih]
    simp
theorem run_bsl (vs : List Value) (hv : ∀ v ∈ vs, v.cells = #[v]) (h0 : 0 < vs.length) (hn : vs.length ≤ 1000) (w : World) :
    (Instr.buildSlice 71 vs.length ((vs.zipIdx.map fun p => (p.2, p.1)).toArray)).run Try.prog w = .ok (.slice (some ⟨w.heap.size, 0, none⟩) vs.length vs.length) (w.alloc (.cells vs.toArray 22)) := by
  have hs : (sizeOf 22).run Try.prog w = .ok 1 w := ti22_ok.sizeOf w
  have hz : (zeroValue 22).run Try.prog w = .ok (.slice none 0 0) w := by kernel_rfl
  have hf := fill_ok (z := .slice none 0 0) vs [] hv
  simp only [List.nil_append, List.length_nil] at hf
  unfold Instr.buildSlice
  simp only [Sem.run_bind, run_underlying Try.underlying71, Result.andThen_ok, hs]
  rw [show vs.length * 1 = vs.length from Nat.mul_one _]
  have e : ((Array.range vs.length).map fun i => (Value.slice none 0 0).cells[i % (Value.slice none 0 0).cells.size]!) = (List.replicate vs.length (Value.slice none 0 0)).toArray := by
    apply Array.ext
    · simp
    · intro i h1 h2; simp [Value.cells, Nat.mod_one]
  have hf' : Instr.fill (fun i => some (i * 1, 1)) ((Array.range vs.length).map fun i => (Value.slice none 0 0).cells[i % (Value.slice none 0 0).cells.size]!) (((vs.zipIdx.map fun p => (p.2, p.1)).toArray).toList) = some vs.toArray := by
    rw [e]; exact hf
  rw [if_neg (by omega), if_neg (by omega)]
  simp only [Sem.run_bind, hz, Result.andThen_ok, Sem.run_pure, hf']
  simp [newRow]
theorem mk_rows (HI : Inv Try.prog w0 N g st.bx st.fz st.rw w) (hF : FR g nt st a) : ∀ xs : List Operand, allQ (aokP st) (xs.map (st.ev none)) →
    ∃ L : List ARow, L.length = xs.length ∧ ∀ (i : Nat) x (r : ARow), xs[i]? = some x → L[i]? = some r → a.eval x = r.1.v ∧ Own (byteT r.2.2.2) w 0 r.1.v r.2.1 r.2.2.1 ∧
      (r.1.v.ownBlock = none ∨ (∃ k q, akey (st.ev none x) = 2 * k + 1 ∧ g.rw[k]? = some q ∧ q.v.ownBlock = r.1.v.ownBlock) ∨ ∃ i y, akey (st.ev none x) = 2 * i + 2 ∧ g.bx[i]? = some y ∧ y.off = false ∧ some y.blk = r.1.v.ownBlock)
  | [], _ => ⟨[], rfl, fun i x r h => by simp at h⟩
  | x :: xs, h => by
    obtain ⟨L, h1, h2⟩ := mk_rows HI hF xs h.2
    obtain ⟨sv, l, sp, t, e1, e2, e3⟩ := own_av HI (ev_sound hF (c := none) trivial x) h.1
    refine ⟨(sv, l, sp, t) :: L, by simp [h1], fun i y r hy hr => ?_⟩
    cases i with
    | zero =>
      simp only [List.getElem?_cons_zero, Option.some.injEq] at hy hr
      subst hy hr
      rw [e1] at e2 e3
      exact ⟨e1, e2, e3⟩
    | succ i => exact h2 i y r (by simpa using hy) (by simpa using hr)
/-- The same in a region that draws. -/
theorem v_apartT {ops : Array Oper} {Q : Exit → Act → World → Prop} {rest : List Oper} {o1 o2 : Oper} {d : Nat} {xs : List Operand} {ks : List Nat} {ats : Array TypeId} {LL AA : List Nat} {q : Nat} (H : RelT Try.prog w0 N nt gS sq st a w) (hq1 : LL.contains q = true) (hq2 : LL.contains (q + 1) = true) (h1 : o1.guard = none) (h2 : o2.guard = none ∨ ∃ t b, gdOf ops o2 = some (some (t, b)) ∧ st.tmp none t = .v (.bool b) ∧ t ≠ d) (hd : o1.dst = some d) (hdn : d < nt)
    (ho1 : o1.op = .buildSlice 71 xs.length ((xs.zipIdx.map fun p => (p.2, p.1)).toArray)) (ho2 : o2.op = .call ⟨.value (.func 38), #[.tmp d], ats⟩) (hq : allQ (aokP st) (xs.map (st.ev none)))
    (hks : xs.map (fun x => akey (st.ev none x)) = ks) (hkn : ks.Pairwise fun x y => x ≠ y ∨ x = 0) (h0 : 0 < xs.length) (hl : xs.length ≤ 1000) (hd2 : okDst nt none o2.dst = true)
    (k : ∀ a w, RelT Try.prog w0 N nt gS ((sq.lose (some d)).lose o2.dst) ((st.lose (some d)).put o2.dst none (.v (.bool true))) a w → wpT Try.prog ops Q (Mem gS) LL AA rest (q + 2) a w) : wpT Try.prog ops Q (Mem gS) LL AA (o1 :: o2 :: rest) q a w := by
  obtain ⟨hM, hrw, hFq, hBq, g, HI, hF, hle, hbs⟩ := H
  obtain ⟨L, hL, hR⟩ := mk_rows HI hF xs hq
  have hvl : (xs.map a.eval).length = xs.length := by simp
  have get : ∀ i (hi : i < L.length), ∃ x, xs[i]? = some x := fun i hi => ⟨xs[i]'(by omega), List.getElem?_eq_getElem (by omega)⟩
  have hcell : ∀ v ∈ xs.map a.eval, v.cells = #[v] := fun v hv => by
    obtain ⟨x, hx, rfl⟩ := List.mem_map.1 hv
    obtain ⟨i, hi⟩ := List.getElem?_of_mem hx
    have hil : i < L.length := by rw [hL]; exact (List.getElem?_eq_some_iff.1 hi).1
    have := (hR i x L[i] hi (List.getElem?_eq_getElem hil)).1
    rw [this]; rfl
  have hrun := run_bsl (xs.map a.eval) hcell (by omega) (by omega) w
  rw [hvl] at hrun
  unfold wpT
  rw [if_pos (by simp [Region.wanted, h1]), if_pos hq1]
  have hex : (execOp a.eval o1).run Try.prog w = .ok (.value (.slice (some ⟨w.heap.size, 0, none⟩) xs.length xs.length)) (w.alloc (.cells (xs.map a.eval).toArray 22)) := by
    obtain ⟨dst, op, ty, pos, after, gd⟩ := o1
    dsimp only at ho1
    subst ho1
    have e : ((xs.zipIdx.map fun p => (p.2, p.1)).toArray.map fun (p : Nat × Operand) => (p.1, a.eval p.2)) = (((xs.map a.eval).zipIdx.map fun p => (p.2, p.1)).toArray) := by
      simp [List.zipIdx_map, Function.comp_def]
    have e2 : execOp a.eval ⟨dst, .buildSlice 71 xs.length ((xs.zipIdx.map fun p => (p.2, p.1)).toArray), ty, pos, after, gd⟩ = (do pure (.value (← Instr.buildSlice 71 xs.length ((xs.zipIdx.map fun p => (p.2, p.1)).toArray.map fun (p : Nat × Operand) => (p.1, a.eval p.2))))) := rfl
    rw [e2, e]
    simp only [Sem.run_bind, hrun, Result.andThen_ok, Sem.run_pure]
  unfold Oper.wp
  rw [hex, Oper.upon_value, hd]
  have hbel0 : Below w.heap.size w (w.alloc (.cells (xs.map a.eval).toArray 22)) := (Below.refl _ _).alloc (Nat.le_refl _) _
  refine ⟨MemS hM hrw (HI.keep (fun k hk => hbel0.block k hk) hbel0.size hbel0.os hbel0.tape hbel0.output) hle hbs, ?_⟩
  have hds : d < a.tmps.size := by rw [hF.sz]; exact hdn
  have hfok : Fok Try.prog 38 := ⟨_, Try.func38, by kernel_rfl, by kernel_rfl⟩
  have hw2 : Region.wanted o2 (yielded ops (a.put (some d) (.slice (some ⟨w.heap.size, 0, none⟩) xs.length xs.length)).tmps) = true := by
    rcases h2 with h2 | ⟨t, b, e1, e2, e3⟩
    · simp [Region.wanted, h2]
    · have h3 := tmp_sound hF (c := none) trivial t
      rw [e2] at h3
      refine (gdOf_wanted e1).2 ?_
      show (a.put (some d) _).tmps.getD t undef = .bool b
      rw [getD_put e3]; exact h3.v_inv
  unfold wpT
  rw [if_pos hw2, if_pos hq2]
  unfold Oper.wp
  rw [run_callF hfok [.tmp d] ats ho2, Oper.upon_enter]
  have hev : ([Operand.tmp d].map (a.put (some d) (.slice (some ⟨w.heap.size, 0, none⟩) xs.length xs.length)).eval).toArray = #[Value.slice (some ⟨w.heap.size, 0, none⟩) L.length xs.length] := by
    have := getD_put_same (a := a) (v := .slice (some ⟨w.heap.size, 0, none⟩) xs.length xs.length) hds
    rw [hL]
    show #[(a.put (some d) _).tmps.getD d undef] = _
    rw [this]
  rw [hev]
  have hbel : Below w.heap.size w (w.alloc (.cells (xs.map a.eval).toArray 22)) := (Below.refl _ _).alloc (Nat.le_refl _) _
  have hne : ∀ i j (hi : i < L.length) (hj : j < L.length), i ≠ j → L[i].1.v.ownBlock = none ∨ L[i].1.v.ownBlock ≠ L[j].1.v.ownBlock := fun i j hi hj hij => by
    obtain ⟨x, hx⟩ := get i hi
    obtain ⟨y, hy⟩ := get j hj
    obtain ⟨_, _, hx3⟩ := hR i x _ hx (List.getElem?_eq_getElem hi)
    obtain ⟨_, _, hy3⟩ := hR j y _ hy (List.getElem?_eq_getElem hj)
    have hkx : ks[i]? = some (akey (st.ev none x)) := by rw [← hks, List.getElem?_map, hx]; rfl
    have hky : ks[j]? = some (akey (st.ev none y)) := by rw [← hks, List.getElem?_map, hy]; rfl
    have hdk : akey (st.ev none x) ≠ 0 → akey (st.ev none x) ≠ akey (st.ev none y) := fun hz e => by
      rw [List.pairwise_iff_getElem] at hkn
      obtain ⟨hi', ei⟩ := List.getElem?_eq_some_iff.1 hkx
      obtain ⟨hj', ej⟩ := List.getElem?_eq_some_iff.1 hky
      rcases Nat.lt_or_gt_of_ne hij with h | h
      · rcases hkn i j hi' hj' h with h' | h'
        · exact h' (by rw [ei, ej, e])
        · rw [ei] at h'; exact hz h'
      · rcases hkn j i hj' hi' h with h' | h'
        · exact h' (by rw [ei, ej, e])
        · rw [ej, ← e] at h'; exact hz h'
    cases hb : L[i].1.v.ownBlock with
    | none => exact .inl rfl
    | some b =>
      right
      intro e
      rcases hx3 with h | hx3
      · rw [hb] at h; cases h
      rcases hy3 with h | hy3
      · rw [h] at e; cases e
      rcases hx3 with ⟨k1, q1, hk1, hq1, hb1⟩ | ⟨i1, y1, hk1, hq1, ho1, hb1⟩ <;> rcases hy3 with ⟨k2, q2, hk2, hq2, hb2⟩ | ⟨i2, y2, hk2, hq2, ho2, hb2⟩
      · have := HI.mem.rr k1 k2 q1 q2 b hq1 hq2 (hb1.trans hb) (hb2.trans e.symm)
        exact hdk (by rw [hk1]; omega) (by rw [hk1, hk2, this])
      · exact HI.mem.rb i2 k1 y2 q1 hq2 hq1 ho2 (hb1.trans (hb.trans (e.trans hb2.symm)))
      · exact HI.mem.rb i1 k2 y1 q2 hq1 hq2 ho1 (hb2.trans (e.symm.trans (hb.symm.trans hb1.symm)))
      · have h5 : some y1.blk = some y2.blk := hb1.trans (hb.trans (e.trans hb2.symm))
        injection h5 with h5
        have := HI.mem.bb i1 i2 y1 y2 hq1 hq2 ho1 ho2 h5
        exact hdk (by rw [hk1]; omega) (by rw [hk1, hk2, this])
  have hP : Apart (w.alloc (.cells (xs.map a.eval).toArray 22)) 0 L := ⟨fun i hi => by
    obtain ⟨x, hx⟩ := get i hi
    exact (hR i x _ hx (List.getElem?_eq_getElem hi)).2.1.belowSize hbel, hne⟩
  refine (apart_any L w.heap.size 0 xs.length 0 (w.alloc (.cells (xs.map a.eval).toArray 22)) (fun i hi => ?_) (by rw [World.size_alloc]; exact Nat.lt_succ_self _) hP (by omega) (by omega)).mono fun e w2 hp => ?_
  · obtain ⟨x, hx⟩ := get i hi
    have hx1 := (hR i x _ hx (List.getElem?_eq_getElem hi)).1
    rw [(Blk.new _ _ _).cell, Nat.zero_add]
    simp only [List.getElem?_toArray, List.getElem?_map, hx, Option.map_some, hx1]
  · obtain ⟨rfl, hb⟩ := hp
    have hall : ∀ k, k < w.heap.size → w2.heap[k]? = w.heap[k]? := fun k hk => (hb.block k (by rw [World.size_alloc]; omega)).trans (hbel.block k hk)
    have hI2 := HI.keep hall (Nat.le_trans hbel.size hb.size) (hb.os.trans hbel.os) (hb.tape.trans hbel.tape) (hb.output.trans hbel.output)
    refine ⟨MemS hM hrw hI2 hle hbs, k _ _ ⟨MemS hM hrw hI2 hle hbs, hrw, (hFq.lose _).lose _, by rw [lose_bx, lose_bx]; exact hBq, g, ?_, ?_, hle, hbs⟩⟩
    · rw [(put_bx _ _ _ _).1, (put_bx _ _ _ _).2.1, (put_bx _ _ _ _).2.2]; exact hI2
    · exact (hF.lose (dst := some d) _).put (st := st.lose (some d)) (st' := st.lose (some d)) hd2 (fun _ => RV.v_of rfl) rfl (fun h => absurd trivial h)
end
end Go.Proofs.Ytpeefeioccglcaa
/- Bytes put one behind the other. -/
namespace Go.Proofs.Ytpeefeioccglcaa
open Go Go.RowKit
end Go.Proofs.Ytpeefeioccglcaa
/- The texts of the digests. -/
namespace Go.Proofs.Ytpeefeioccglcaa
open Go Go.RowKit
end Go.Proofs.Ytpeefeioccglcaa
/- The walks of the program's SHA-256: the schedule. -/

namespace Go.Proofs.Ytpeefeioccglcaa
open Go Go.RowKit
abbrev W32 (x : BitVec 32) : Value := .int .u32 (n32 x)




attribute [local go_sem] or_bytes u32_shr10 u32_shr3 u32_xor u32_and u32_or u32_add u32_add' u32_not
end Go.Proofs.Ytpeefeioccglcaa
/- The walks of the program's SHA-256: the block step. -/
namespace Go.Proofs.Ytpeefeioccglcaa
open Go Go.RowKit
abbrev S8.arr (s : S8) : Array Value := #[W32 s.a, W32 s.b, W32 s.c, W32 s.d, W32 s.e, W32 s.f, W32 s.g, W32 s.h]
end Go.Proofs.Ytpeefeioccglcaa
/- The walks of the program's SHA-256: the block step. -/
namespace Go.Proofs.Ytpeefeioccglcaa
open Go Go.RowKit
attribute [local go_sem] or_bytes u32_shr10 u32_shr3 u32_xor u32_and u32_or u32_add u32_add' u32_not u32_not'
end Go.Proofs.Ytpeefeioccglcaa
/- The walks of the reference's SHA-256: words, the block step. -/
namespace Go.Proofs.Ytpeefeioccglcaa
open Go Go.RowKit
end Go.Proofs.Ytpeefeioccglcaa
/- The walks of the reference's SHA-256: words. -/
namespace Go.Proofs.Ytpeefeioccglcaa
open Go Go.RowKit
attribute [local go_sem] or_bytes u32_shr10 u32_shr3 u32_xor u32_and u32_or u32_add u32_add' u32_not u32_next u32_sum3 u32_sum4
end Go.Proofs.Ytpeefeioccglcaa
/- The walks of the reference's SHA-256: the block step. -/
namespace Go.Proofs.Ytpeefeioccglcaa
open Go Go.RowKit
attribute [local go_sem] or_bytes u32_shr10 u32_shr3 u32_xor u32_and u32_or u32_add u32_add' u32_not u32_not' u32_not2
end Go.Proofs.Ytpeefeioccglcaa
/- The walk of the reference's SHA-256 of a list of bytes. -/
namespace Go.Proofs.Ytpeefeioccglcaa
open Go Go.RowKit
end Go.Proofs.Ytpeefeioccglcaa
/- Contracts in memory made contracts in values: the block step of SHA-256, the document's sum. -/
namespace Go.Proofs.Ytpeefeioccglcaa
open Go Go.RowKit
section
variable {P : Program}
theorem two {args : List AV} {vs : List Value} {N : Gh} {x y : AV} (hl : vs.length = [x, y].length) (hv : ∀ (i : Nat) a v, [x, y][i]? = some a → vs[i]? = some v → RV N a v) : ∃ u v, vs = [u, v] ∧ RV N x u ∧ RV N y v := by
  match vs, hl with
  | [u, v], _ => exact ⟨u, v, rfl, hv 0 x u rfl rfl, hv 1 y v rfl rfl⟩
end
end Go.Proofs.Ytpeefeioccglcaa
/- The program's SHA-256, byte by byte. -/
namespace Go.Proofs.Ytpeefeioccglcaa
open Go Go.RowKit

end Go.Proofs.Ytpeefeioccglcaa
/- Numbers as bytes. -/
namespace Go.Proofs.Ytpeefeioccglcaa
open Go Go.RowKit

/-- The state after a text. -/
structure Good (l : List UInt8) (s : S8) (b : List UInt8) (n : Nat) : Prop where
  bl : b.length = 64
  nn : n = l.length % 64
  ss : s = steps h0 (l.length / 64) l
  bb : b.take n = l.drop (64 * (l.length / 64))
theorem Good.lt {l : List UInt8} {s : S8} {b : List UInt8} {n : Nat} (h : Good l s b n) : n < 64 := by rw [h.nn]; exact Nat.mod_lt _ (by decide)
end Go.Proofs.Ytpeefeioccglcaa
/- The program's SHA-256 of a text. -/
namespace Go.Proofs.Ytpeefeioccglcaa
open Go Go.RowKit
end Go.Proofs.Ytpeefeioccglcaa
/- Digests: SHA-256 of a text; of a byte and parts. -/
namespace Go.Proofs.Ytpeefeioccglcaa
open Go Go.RowKit
end Go.Proofs.Ytpeefeioccglcaa
/- Nodes of the program: checked, written, read; digests. -/
namespace Go.Proofs.Ytpeefeioccglcaa
open Go Go.RowKit
/-- The state made plain. -/
theorem nf_Node {P : Program} {w0 w : World} {N : Gh} {nt : Nat} {st s2 : St} {a : Act} (H : Rel P w0 N nt st a w) (h : st = s2 := by (try simp only [pk, elemB, St.put, St.ev, St.tmp, St.keep, find, dropT, slots, AV.put, AV.loc, fitI, convI, IntKind.signed, IntKind.bits, strip, St.lose, mergeL, setAll, nth, renB, ren, idx?, sub, allP, low, bnd, Int.reduceEq, Nat.reduceAdd, Nat.reduceLT, reduceIte, reduceCtorEq, Nat.reduceEqDiff, Nat.reduceLeDiff, Nat.reduceBEq, Int.reducePow, Int.reduceToNat, ti22_t, ti22_z, ti5_t, ti5_z, ti53_t, ti53_z, ti51_t, ti51_z, ti50_t, ti50_z]); rfl) : Rel P w0 N nt s2 a w := h ▸ H
theorem ct_Node {c : Prop} (h : c := by ((try simp only [pk, elemB, St.put, St.ev, St.tmp, St.keep, find, dropT, slots, AV.put, AV.loc, fitI, convI, IntKind.signed, IntKind.bits, strip, St.lose, mergeL, setAll, nth, renB, ren, idx?, sub, allP, low, bnd, Int.reduceEq, Nat.reduceAdd, Nat.reduceLT, reduceIte, reduceCtorEq, Nat.reduceEqDiff, Nat.reduceLeDiff, Nat.reduceBEq, Int.reducePow, Int.reduceToNat, ti22_t, ti22_z, ti5_t, ti5_z, ti53_t, ti53_z, ti51_t, ti51_z, ti50_t, ti50_z, ti22, ti5, ti53, ti51, ti50, fit, gcond, ilo, ihi]); first | done | exact cd | exact cd2 | skip)) : c := h
structure Nd where
  k : UInt8
  key : List UInt8
  v : List UInt8
  l : List UInt8
  r : List UInt8
  deriving DecidableEq
def z32 : List UInt8 := List.replicate 32 0
theorem hz : List.replicate 32 (0 : UInt8) = z32 := rfl
structure Nd.wf (n : Nd) : Prop where
  key : n.key.length = 32
  v : n.v.length = 32
  l : n.l.length = 32
  r : n.r.length = 32
def Nd.av (n : Nd) : AV := .st [.v (B8 n.k), .ba n.key, .ba n.v, .ba n.l, .ba n.r]
def Nd.zero : Nd := ⟨0, z32, z32, z32, z32⟩
/-- What a node is but for what its kind does not bear. -/
def Nd.bare (n : Nd) : Nd := if n.k = 1 then ⟨1, n.key, n.v, z32, z32⟩ else if n.k = 2 then ⟨2, z32, z32, n.l, n.r⟩ else .zero
def Nd.ok (n : Nd) : Prop := n = n.bare
instance (n : Nd) : Decidable n.ok := inferInstanceAs (Decidable (n = n.bare))
def Nd.text (n : Nd) : List UInt8 := if n.k = 1 then 1 :: (n.key ++ n.v) else if n.k = 2 then 2 :: (n.l ++ n.r) else [0]
theorem same_v (l m : List UInt8) : VC Try.prog 36 [.bs l none, .bs m none] [] (.v (.bool (l == m))) := by
  refine v_enter Try.func36 rfl (by kernel_rfl) (by show 2 ≤ 10; decide) ?_
  intro N w0 a w hN hR H
  repeat (first | refine wp_seq ?_ | refine wp_block ?_ | refine wp_skip ?_ | refine wp_exit ?_ | ((first | refine v_some 5 tab_ok hN H (by rfl) (by (try simp only [strOf_list]); first | done | exact ct_Node) ?_ | refine v_more tab_ok hN H (by rfl) (by rfl) (by (try simp only [strOf_list]); first | done | exact ct_Node) ?_); clear H; intro a w H; replace H := nf_Node H; first | (simp only [strOf_list] at H; replace H := nf_Node H) | skip; (try simp only [List.drop_succ_cons, List.drop_zero, List.drop_nil]); try refine wpList_nil ?_) | refine wp_region_lit ?_)
  refine wp_ret ?_
  exact v_end [] [] tab_ok ⟨hN, hR⟩ (rs := [.tmp 4]) (ress := [_]) rfl H (by rfl) (by rfl) (by simp [pickB, bxs, ren, idx?, List.idxOf_cons, sub_refl, sub, allP, strOf_list] <;> omega) (by first | rfl | (simp [strOf_list] <;> omega)) (by first | exact trivial | exact ⟨sub_refl _ _, trivial⟩ | exact ⟨sub_refl _ _, sub_refl _ _, trivial⟩ | exact ⟨sub_refl _ _, sub_refl _ _, sub_refl _ _, trivial⟩ | exact ⟨⟨rfl, sub_refl _ _, trivial⟩, sub_refl _ _, trivial⟩ | (simp [cargs, cargsG, St.ev, St.tmp, find, ren, idx?, sub_refl, sub, allP, resv, resC, bss, strOf_list] <;> omega)) rfl
end Go.Proofs.Ytpeefeioccglcaa
/- Both disks side by side: scene.disk. -/
namespace Go.Proofs.Ytpeefeioccglcaa
open Go Go.RowKit
/-- The state made plain. -/
theorem nf_Scene {P : Program} {w0 w : World} {N : Gh} {nt : Nat} {st s2 : St} {a : Act} (H : Rel P w0 N nt st a w) (h : st = s2 := by (try simp only [pk, elemB, St.put, St.ev, St.tmp, St.keep, find, dropT, slots, AV.put, AV.loc, fitI, convI, IntKind.signed, IntKind.bits, strip, St.lose, mergeL, setAll, nth, renB, ren, idx?, sub, allP, low, bnd, Int.reduceEq, Nat.reduceAdd, Nat.reduceLT, reduceIte, reduceCtorEq, Nat.reduceEqDiff, Nat.reduceLeDiff, Nat.reduceBEq, Int.reducePow, Int.reduceToNat, ti22_t, ti22_z, ti5_t, ti5_z, ti180_t, ti180_z, ti182_t, ti182_z, ti36_t, ti36_z]); rfl) : Rel P w0 N nt s2 a w := h ▸ H
theorem nt_Scene {P : Program} {w0 w : World} {N gS : Gh} {nt : Nat} {q q2 st s2 : St} {a : Act} (H : RelT P w0 N nt gS q st a w) (h1 : q = q2 := by (try simp only [pk, elemB, St.put, St.ev, St.tmp, St.keep, find, dropT, slots, AV.put, AV.loc, fitI, convI, IntKind.signed, IntKind.bits, strip, St.lose, mergeL, setAll, nth, renB, ren, idx?, sub, allP, low, bnd, Int.reduceEq, Nat.reduceAdd, Nat.reduceLT, reduceIte, reduceCtorEq, Nat.reduceEqDiff, Nat.reduceLeDiff, Nat.reduceBEq, Int.reducePow, Int.reduceToNat, ti22_t, ti22_z, ti5_t, ti5_z, ti180_t, ti180_z, ti182_t, ti182_z, ti36_t, ti36_z]); rfl) (h : st = s2 := by (try simp only [pk, elemB, St.put, St.ev, St.tmp, St.keep, find, dropT, slots, AV.put, AV.loc, fitI, convI, IntKind.signed, IntKind.bits, strip, St.lose, mergeL, setAll, nth, renB, ren, idx?, sub, allP, low, bnd, Int.reduceEq, Nat.reduceAdd, Nat.reduceLT, reduceIte, reduceCtorEq, Nat.reduceEqDiff, Nat.reduceLeDiff, Nat.reduceBEq, Int.reducePow, Int.reduceToNat, ti22_t, ti22_z, ti5_t, ti5_z, ti180_t, ti180_z, ti182_t, ti182_z, ti36_t, ti36_z]); rfl) : RelT P w0 N nt gS q2 s2 a w := h1 ▸ h ▸ H
theorem ct_Scene {c : Prop} (h : c := by ((try simp only [pk, elemB, St.put, St.ev, St.tmp, St.keep, find, dropT, slots, AV.put, AV.loc, fitI, convI, IntKind.signed, IntKind.bits, strip, St.lose, mergeL, setAll, nth, renB, ren, idx?, sub, allP, low, bnd, Int.reduceEq, Nat.reduceAdd, Nat.reduceLT, reduceIte, reduceCtorEq, Nat.reduceEqDiff, Nat.reduceLeDiff, Nat.reduceBEq, Int.reducePow, Int.reduceToNat, ti22_t, ti22_z, ti5_t, ti5_z, ti180_t, ti180_z, ti182_t, ti182_z, ti36_t, ti36_z, ti22, ti5, ti180, ti182, ti36, fit, gcond, ilo, ihi]); first | done | exact cd | exact cd2 | skip)) : c := h
abbrev scT : Ty := .cn .sc (.cn .sc (.cn .sc (.cn .sc (.cn .sc .nl))))
def scv (i j : Nat) : AV := .st [.ptr i [], .v (.pointer none), .ptr j [], .v (.pointer none), .v (.int .i64 0)]
theorem cutS {B R : Act → World → Prop} {G : Prop} (h : (∀ a w, R a w → B a w) → G) (k : ∀ a w, R a w → B a w) : G := h k
set_option maxRecDepth 20000 in
set_option maxHeartbeats 400000 in
theorem disk_v (γ n s : Nat) (l : List UInt8) (hn : n ≤ l.length) (hn2 : n ≤ 1048576) : VX Try.prog 26 [(scT, scv 2 1), (rkT, rkv (l.take n) s), (dkT, dkv 3 γ n s), (vbT, .vb γ l)] [] [] [.ptr 0 []] [(scT, scv 2 1), (rkT, rkv (l.take n) s), (dkT, dkv 3 γ n s), (vbT, .vb γ l)] [] [] (.v (.bool true)) := by
  have hg := dbytes_v γ n s l hn hn2
  have hsy := dsynced_v γ n s l
  have htn : (l.take n).length = n := by rw [List.length_take]; omega
  have hsm := same_v (l.take n) (l.take n)
  have hov := over_v (l.take n) 1
  rw [htn] at hov
  refine v_enter Try.func26 rfl (by kernel_rfl) (by show 1 ≤ 64; decide) ?_
  intro N w0 a w hN hR H
  simp only [scv, rkv, dkv] at H hg hsy
  repeat (first | refine wp_seq ?_ | refine wp_block ?_ | refine wp_skip ?_ | refine wp_exit ?_ | ((first | refine v_some 5 tab_ok hN H (by rfl) ct_Scene ?_ | refine v_more tab_ok hN H (by rfl) (by rfl) ct_Scene ?_); clear H; intro a w H; replace H := nf_Scene H; (try simp only [List.drop_succ_cons, List.drop_zero, List.drop_nil]); try refine wpList_nil ?_) | refine wp_region_lit ?_)
  rw [beq_self_eq_true] at hsm
  have htt : l.take n = (l.take n).take n := by rw [List.take_take, Nat.min_self]
  repeat (first | refine wp_seq ?_ | refine wp_block ?_)
  refine v_drawW 2 [4, 9] [5, 6, 7, 8] (by kernel_rfl) (by kernel_rfl) H (fun us => by rfl) (fun gS us H => ?_); (simp only [wkB, wkA, wkF, wk1, Nat.reduceLT, Nat.reduceAdd, decide_true, decide_false, cond_true, cond_false, List.take_succ_cons, List.take_zero] at H); replace H := nt_Scene H
  repeat (refine v_someT 5 tab_ok hN H (by rfl) ct_Scene ?_; clear H; intro a w H; replace H := nt_Scene H; simp only [List.drop_succ_cons, List.drop_zero, List.drop_nil])
  refine v_moreT tab_ok hN H (by rfl) ct_Scene ?_; clear H; intro a w H; try replace H := nt_Scene H
  replace H := v_seeT H 0 [0] 9 (by rfl) (by rfl) (by rfl) (by rfl) (by rfl) rfl (by simp) (by rfl); (simp only [nilT, Nat.reduceEqDiff, ↓reduceIte] at H); replace H := nt_Scene H
  refine v_callT [2, 3] [] (hg) H (by rfl) (by rfl) rfl rfl (by rfl) (by simp [pickB, bxs, ren, idx?, List.idxOf_cons, sub_refl, sub, allP, dkv, cond_true, cond_false] <;> omega) (by first | rfl | (simp [dkv, cond_true, cond_false] <;> omega)) (by first | exact trivial | exact ⟨sub_refl _ _, trivial⟩ | exact ⟨sub_refl _ _, sub_refl _ _, trivial⟩ | exact ⟨sub_refl _ _, sub_refl _ _, sub_refl _ _, trivial⟩ | exact ⟨⟨rfl, sub_refl _ _, trivial⟩, sub_refl _ _, trivial⟩ | (simp [cargs, cargsG, St.ev, St.tmp, find, ren, idx?, sub_refl, sub, allP, resv, resC, bss, dkv, cond_true, cond_false] <;> omega)) ?_; clear H; intro a w H; try replace H := nt_Scene H; first | (simp only [dkv, cond_true, cond_false] at H; replace H := nt_Scene H) | skip
  repeat (refine v_someT 5 tab_ok hN H (by rfl) ct_Scene ?_; clear H; intro a w H; replace H := nt_Scene H; simp only [List.drop_succ_cons, List.drop_zero, List.drop_nil])
  refine v_moreT tab_ok hN H (by rfl) ct_Scene ?_; clear H; intro a w H; try replace H := nt_Scene H
  replace H := v_seeT H 0 [0] 14 (by rfl) (by rfl) (by rfl) (by rfl) (by rfl) rfl (by simp) (by rfl); (simp only [nilT, Nat.reduceEqDiff, ↓reduceIte] at H); replace H := nt_Scene H
  refine v_callT [2, 3] [] (hg) H (by rfl) (by rfl) rfl rfl (by rfl) (by simp [pickB, bxs, ren, idx?, List.idxOf_cons, sub_refl, sub, allP, dkv, cond_true, cond_false] <;> omega) (by first | rfl | (simp [dkv, cond_true, cond_false] <;> omega)) (by first | exact trivial | exact ⟨sub_refl _ _, trivial⟩ | exact ⟨sub_refl _ _, sub_refl _ _, trivial⟩ | exact ⟨sub_refl _ _, sub_refl _ _, sub_refl _ _, trivial⟩ | exact ⟨⟨rfl, sub_refl _ _, trivial⟩, sub_refl _ _, trivial⟩ | (simp [cargs, cargsG, St.ev, St.tmp, find, ren, idx?, sub_refl, sub, allP, resv, resC, bss, dkv, cond_true, cond_false] <;> omega)) ?_; clear H; intro a w H; try replace H := nt_Scene H; first | (simp only [dkv, cond_true, cond_false] at H; replace H := nt_Scene H) | skip
  repeat (refine v_someT 5 tab_ok hN H (by rfl) ct_Scene ?_; clear H; intro a w H; replace H := nt_Scene H; simp only [List.drop_succ_cons, List.drop_zero, List.drop_nil])
  refine v_moreT tab_ok hN H (by rfl) ct_Scene ?_; clear H; intro a w H; try replace H := nt_Scene H
  refine v_drawNil H (fun H => ?_)
  replace H := H.keep [2, 3, 4, 0] 6 0 ⟨Nat.le_trans hN (by show 4 ≤ 6; decide), hR⟩ (by rfl) (by rfl)
  replace H := nf_Scene H
  repeat (first | refine wp_seq ?_ | refine wp_block ?_)
  refine v_drawW 2 [8, 14, 27, 28] [15, 16, 17, 18, 19, 20, 21] (by kernel_rfl) (by kernel_rfl) H (fun us => by rfl) (fun gS us H => ?_); (simp only [wkB, wkA, wkF, wk1, Nat.reduceLT, Nat.reduceAdd, decide_true, decide_false, cond_true, cond_false, List.take_succ_cons, List.take_zero] at H); replace H := nt_Scene H
  repeat (refine v_someT 5 tab_ok hN H (by rfl) ct_Scene ?_; clear H; intro a w H; replace H := nt_Scene H; simp only [List.drop_succ_cons, List.drop_zero, List.drop_nil])
  refine v_moreT tab_ok hN H (by rfl) ct_Scene ?_; clear H; intro a w H; try replace H := nt_Scene H
  refine v_callRT hsm H (by rfl) rfl rfl (by rfl) ⟨⟨_, _, rfl, Nat.le_of_eq htn.symm, htt⟩, ⟨sub_refl _ _, rfl, rfl⟩, trivial⟩ ?_; clear H; intro a w H
  repeat (refine v_someT 5 tab_ok hN H (by rfl) (by (try simp only [beq_self_eq_true]); first | done | exact ct_Scene) ?_; clear H; intro a w H; replace H := nt_Scene H; first | (simp only [beq_self_eq_true] at H; replace H := nt_Scene H) | skip; simp only [List.drop_succ_cons, List.drop_zero, List.drop_nil])
  refine v_moreT tab_ok hN H (by rfl) (by (try simp only [beq_self_eq_true]); first | done | exact ct_Scene) ?_; clear H; intro a w H; try replace H := nt_Scene H; first | (simp only [beq_self_eq_true] at H; replace H := nt_Scene H) | skip
  replace H := v_knownT H 25 true (by rfl); (simp only [unG, gdEq, Nat.reduceBEq, cond_true, cond_false] at H); replace H := nt_Scene H
  replace H := v_seeT H 0 [0] 29 (by rfl) (by rfl) (by rfl) (by rfl) (by rfl) rfl (by simp) (by rfl); (simp only [nilT, Nat.reduceEqDiff, ↓reduceIte] at H); replace H := nt_Scene H
  refine v_guardT H (by rfl) (by rfl) (by rfl) ?_
  refine v_callT [2, 3] [] (hsy) H (by rfl) (by rfl) rfl rfl (by rfl) (by simp [pickB, bxs, ren, idx?, List.idxOf_cons, sub_refl, sub, allP, dkv, cond_true, cond_false] <;> omega) (by first | rfl | (simp [dkv, cond_true, cond_false] <;> omega)) (by first | exact trivial | exact ⟨sub_refl _ _, trivial⟩ | exact ⟨sub_refl _ _, sub_refl _ _, trivial⟩ | exact ⟨sub_refl _ _, sub_refl _ _, sub_refl _ _, trivial⟩ | exact ⟨⟨rfl, sub_refl _ _, trivial⟩, sub_refl _ _, trivial⟩ | (simp [cargs, cargsG, St.ev, St.tmp, find, ren, idx?, sub_refl, sub, allP, resv, resC, bss, dkv, cond_true, cond_false] <;> omega)) ?_; clear H; intro a w H; try replace H := nt_Scene H; first | (simp only [dkv, cond_true, cond_false] at H; replace H := nt_Scene H) | skip
  repeat (refine v_someT 5 tab_ok hN H (by rfl) (by (try simp only [beq_self_eq_true, decide_true, Bool.and_true, Bool.true_and, cond_true]); first | done | exact ct_Scene) ?_; clear H; intro a w H; replace H := nt_Scene H; first | (simp only [beq_self_eq_true, decide_true, Bool.and_true, Bool.true_and, cond_true] at H; replace H := nt_Scene H) | skip; simp only [List.drop_succ_cons, List.drop_zero, List.drop_nil])
  refine v_moreT tab_ok hN H (by rfl) (by (try simp only [beq_self_eq_true, decide_true, Bool.and_true, Bool.true_and, cond_true]); first | done | exact ct_Scene) ?_; clear H; intro a w H; try replace H := nt_Scene H; first | (simp only [beq_self_eq_true, decide_true, Bool.and_true, Bool.true_and, cond_true] at H; replace H := nt_Scene H) | skip
  replace H := v_knownT H 40 true (by rfl); (simp only [unG, gdEq, Nat.reduceBEq, cond_true, cond_false] at H); replace H := nt_Scene H
  refine v_guardT H (by rfl) (by rfl) (by rfl) ?_
  refine v_apartT (d := 43) (xs := [.tmp 41, .tmp 42]) (ks := [10, 12]) H (by rfl) (by rfl) rfl (.inr ⟨40, true, rfl, rfl, by decide⟩) rfl (by decide) rfl rfl ⟨⟨l.take n, rfl, Nat.le_of_eq htn.symm⟩, ⟨l.take n, rfl, Nat.le_of_eq htn.symm⟩, trivial⟩ rfl (by decide) (by decide) (by decide) (by rfl) ?_; clear H; intro a w H; replace H := nt_Scene H
  repeat (refine v_someT 5 tab_ok hN H (by rfl) (by (try simp only [beq_self_eq_true, decide_true, Bool.and_true, Bool.true_and, cond_true]); first | done | exact ct_Scene) ?_; clear H; intro a w H; replace H := nt_Scene H; first | (simp only [beq_self_eq_true, decide_true, Bool.and_true, Bool.true_and, cond_true] at H; replace H := nt_Scene H) | skip; simp only [List.drop_succ_cons, List.drop_zero, List.drop_nil])
  refine v_moreT tab_ok hN H (by rfl) (by (try simp only [beq_self_eq_true, decide_true, Bool.and_true, Bool.true_and, cond_true]); first | done | exact ct_Scene) ?_; clear H; intro a w H; try replace H := nt_Scene H; first | (simp only [beq_self_eq_true, decide_true, Bool.and_true, Bool.true_and, cond_true] at H; replace H := nt_Scene H) | skip
  refine v_drawNil H (fun H => ?_)
  replace H := H.keep [2, 3, 5, 0] 6 0 ⟨Nat.le_trans hN (by show 4 ≤ 6; decide), hR⟩ (by rfl) (by rfl)
  replace H := nf_Scene H; first | (simp only [beq_self_eq_true, decide_true, Bool.and_true, Bool.true_and, cond_true] at H; replace H := nf_Scene H) | skip
  repeat (first | refine wp_seq ?_ | refine wp_block ?_ | refine wp_skip ?_ | refine wp_exit ?_ | ((first | refine v_some 5 tab_ok hN H (by rfl) (by (try simp only [beq_self_eq_true, decide_true, Bool.and_true, Bool.true_and, cond_true]); first | done | exact ct_Scene) ?_ | refine v_more tab_ok hN H (by rfl) (by rfl) (by (try simp only [beq_self_eq_true, decide_true, Bool.and_true, Bool.true_and, cond_true]); first | done | exact ct_Scene) ?_); clear H; intro a w H; replace H := nf_Scene H; first | (simp only [beq_self_eq_true, decide_true, Bool.and_true, Bool.true_and, cond_true] at H; replace H := nf_Scene H) | skip; (try simp only [List.drop_succ_cons, List.drop_zero, List.drop_nil]); try refine wpList_nil ?_) | refine wp_region_lit ?_)
  refine v_call [4] [] (hov) H rfl rfl (by rfl) (by simp [pickB, bxs, ren, idx?, List.idxOf_cons, sub_refl, sub, allP, beq_self_eq_true, decide_true, Bool.and_true, Bool.true_and, cond_true] <;> omega) (by first | rfl | (simp [beq_self_eq_true, decide_true, Bool.and_true, Bool.true_and, cond_true] <;> omega)) (by first | exact trivial | exact ⟨sub_refl _ _, trivial⟩ | exact ⟨sub_refl _ _, sub_refl _ _, trivial⟩ | exact ⟨sub_refl _ _, sub_refl _ _, sub_refl _ _, trivial⟩ | exact ⟨⟨rfl, sub_refl _ _, trivial⟩, sub_refl _ _, trivial⟩ | (simp [cargs, cargsG, St.ev, St.tmp, find, ren, idx?, sub_refl, sub, allP, resv, resC, bss, beq_self_eq_true, decide_true, Bool.and_true, Bool.true_and, cond_true] <;> omega)) ?_; clear H; intro a w H; replace H := nf_Scene H; first | (simp only [beq_self_eq_true, decide_true, Bool.and_true, Bool.true_and, cond_true] at H; replace H := nf_Scene H) | skip; try refine wpList_nil ?_
  replace H := H.keep [2, 5, 0] 4 0 ⟨Nat.le_trans hN (by show 4 ≤ 4; decide), hR⟩ (by rfl) (by rfl)
  replace H := nf_Scene H; first | (simp only [beq_self_eq_true, decide_true, Bool.and_true, Bool.true_and, cond_true] at H; replace H := nf_Scene H) | skip
  repeat (first | refine wp_seq ?_ | refine wp_block ?_)
  refine v_drawW 2 [6, 14] [7, 8, 9, 10, 11, 12, 13] (by kernel_rfl) (by kernel_rfl) H (fun us => by rfl) (fun gS us H => ?_); (simp only [wkB, wkA, wkF, wk1, Nat.reduceLT, Nat.reduceAdd, decide_true, decide_false, cond_true, cond_false, List.take_succ_cons, List.take_zero] at H); replace H := nt_Scene H; first | (simp only [beq_self_eq_true, decide_true, Bool.and_true, Bool.true_and, cond_true] at H; replace H := nt_Scene H) | skip
  repeat (refine v_someT 5 tab_ok hN H (by rfl) (by (try simp only [beq_self_eq_true, decide_true, Bool.and_true, Bool.true_and, cond_true]); first | done | exact ct_Scene) ?_; clear H; intro a w H; replace H := nt_Scene H; first | (simp only [beq_self_eq_true, decide_true, Bool.and_true, Bool.true_and, cond_true] at H; replace H := nt_Scene H) | skip; simp only [List.drop_succ_cons, List.drop_zero, List.drop_nil])
  refine v_moreT tab_ok hN H (by rfl) (by (try simp only [beq_self_eq_true, decide_true, Bool.and_true, Bool.true_and, cond_true]); first | done | exact ct_Scene) ?_; clear H; intro a w H; try replace H := nt_Scene H; first | (simp only [beq_self_eq_true, decide_true, Bool.and_true, Bool.true_and, cond_true] at H; replace H := nt_Scene H) | skip
  replace H := v_knownT H 49 true (by rfl); (simp only [unG, gdEq, Nat.reduceBEq, cond_true, cond_false] at H); replace H := nt_Scene H
  replace H := v_seeT H 0 [0] 53 (by rfl) (by rfl) (by rfl) (by rfl) (by rfl) rfl (by simp) (by rfl); (simp only [nilT, Nat.reduceEqDiff, ↓reduceIte] at H); replace H := nt_Scene H
  refine v_guardT H (by rfl) (by rfl) (by rfl) ?_
  refine v_callT [2, 3] [] (hg) H (by rfl) (by rfl) rfl rfl (by rfl) (by simp [pickB, bxs, ren, idx?, List.idxOf_cons, sub_refl, sub, allP, dkv, cond_true, cond_false] <;> omega) (by first | rfl | (simp [dkv, cond_true, cond_false] <;> omega)) (by first | exact trivial | exact ⟨sub_refl _ _, trivial⟩ | exact ⟨sub_refl _ _, sub_refl _ _, trivial⟩ | exact ⟨sub_refl _ _, sub_refl _ _, sub_refl _ _, trivial⟩ | exact ⟨⟨rfl, sub_refl _ _, trivial⟩, sub_refl _ _, trivial⟩ | (simp [cargs, cargsG, St.ev, St.tmp, find, ren, idx?, sub_refl, sub, allP, resv, resC, bss, dkv, cond_true, cond_false] <;> omega)) ?_; clear H; intro a w H; try replace H := nt_Scene H; first | (simp only [dkv, cond_true, cond_false] at H; replace H := nt_Scene H) | skip
  repeat (refine v_someT 5 tab_ok hN H (by rfl) ct_Scene ?_; clear H; intro a w H; replace H := nt_Scene H; simp only [List.drop_succ_cons, List.drop_zero, List.drop_nil])
  refine v_moreT tab_ok hN H (by rfl) ct_Scene ?_; clear H; intro a w H; try replace H := nt_Scene H
  replace H := v_knownT H 49 true (by rfl); (simp only [unG, gdEq, Nat.reduceBEq, cond_true, cond_false] at H); replace H := nt_Scene H
  refine v_guardT H (by rfl) (by rfl) (by rfl) ?_
  refine v_callRT hsm H (by rfl) rfl rfl (by rfl) ⟨⟨_, _, rfl, Nat.le_of_eq htn.symm, htt⟩, ⟨sub_refl _ _, rfl, rfl⟩, trivial⟩ ?_; clear H; intro a w H; replace H := nt_Scene H
  repeat (refine v_someT 5 tab_ok hN H (by rfl) ct_Scene ?_; clear H; intro a w H; replace H := nt_Scene H; simp only [List.drop_succ_cons, List.drop_zero, List.drop_nil])
  refine v_moreT tab_ok hN H (by rfl) ct_Scene ?_; clear H; intro a w H; try replace H := nt_Scene H
  refine v_drawNil H (fun H => ?_)
  repeat (first | refine wp_seq ?_ | refine wp_block ?_ | refine wp_skip ?_ | refine wp_exit ?_ | ((first | refine v_some 5 tab_ok hN H (by rfl) ct_Scene ?_ | refine v_more tab_ok hN H (by rfl) (by rfl) ct_Scene ?_); clear H; intro a w H; replace H := nf_Scene H; (try simp only [List.drop_succ_cons, List.drop_zero, List.drop_nil]); try refine wpList_nil ?_) | refine wp_region_lit ?_)
  refine wp_ret ?_
  exact v_end [0, 1, 2, 3] [] tab_ok ⟨hN, hR⟩ (rs := [.tmp 2]) (ress := [_]) rfl H (by rfl) (by rfl) (by simp [pickB, bxs, ren, idx?, List.idxOf_cons, sub_refl, sub, allP, scv, rkv, dkv, cond_true, cond_false] <;> omega) (by first | rfl | (simp [scv, rkv, dkv, cond_true, cond_false] <;> omega)) (by first | exact trivial | exact ⟨sub_refl _ _, trivial⟩ | exact ⟨sub_refl _ _, sub_refl _ _, trivial⟩ | exact ⟨sub_refl _ _, sub_refl _ _, sub_refl _ _, trivial⟩ | exact ⟨⟨rfl, sub_refl _ _, trivial⟩, sub_refl _ _, trivial⟩ | (simp [cargs, cargsG, St.ev, St.tmp, find, ren, idx?, sub_refl, sub, allP, resv, resC, bss, scv, rkv, dkv, cond_true, cond_false] <;> omega)) rfl
end Go.Proofs.Ytpeefeioccglcaa
/- Are the writes more than is gone through? heavy. -/
namespace Go.Proofs.Ytpeefeioccglcaa
open Go Go.RowKit
/-- The state made plain. -/
theorem nf_Heavy {P : Program} {w0 w : World} {N : Gh} {nt : Nat} {st s2 : St} {a : Act} (H : Rel P w0 N nt st a w) (h : st = s2 := by (try simp only [pk, elemB, St.put, St.ev, St.tmp, St.keep, find, dropT, slots, AV.put, AV.loc, fitI, convI, IntKind.signed, IntKind.bits, strip, St.lose, mergeL, setAll, nth, renB, ren, idx?, sub, allP, low, bnd, Int.reduceEq, Nat.reduceAdd, Nat.reduceLT, reduceIte, reduceCtorEq, Nat.reduceEqDiff, Nat.reduceLeDiff, Nat.reduceBEq, Int.reducePow, Int.reduceToNat, ti22_t, ti22_z, ti5_t, ti5_z, ti178_t, ti178_z, ti37_t, ti37_z, ti39_t, ti39_z, ti23_t, ti23_z]); rfl) : Rel P w0 N nt s2 a w := h ▸ H
theorem ct_Heavy {c : Prop} (h : c := by ((try simp only [pk, elemB, St.put, St.ev, St.tmp, St.keep, find, dropT, slots, AV.put, AV.loc, fitI, convI, IntKind.signed, IntKind.bits, strip, St.lose, mergeL, setAll, nth, renB, ren, idx?, sub, allP, low, bnd, Int.reduceEq, Nat.reduceAdd, Nat.reduceLT, reduceIte, reduceCtorEq, Nat.reduceEqDiff, Nat.reduceLeDiff, Nat.reduceBEq, Int.reducePow, Int.reduceToNat, ti22_t, ti22_z, ti5_t, ti5_z, ti178_t, ti178_z, ti37_t, ti37_z, ti39_t, ti39_z, ti23_t, ti23_z, ti22, ti5, ti178, ti37, ti39, ti23, fit, gcond, ilo, ihi]); first | done | exact cd | exact cd2 | skip)) : c := h
structure Rw27 where
  key : List UInt8
  gone : Bool
  val : List UInt8
structure Ac27 where
  kind : Int
  n : Int
  key : List UInt8
  l : List Rw27
abbrev rwT : Ty := .cn .sc (.cn .sc (.cn .sc .nl))
abbrev acT : Ty := .cn .sc (.cn .sc (.cn .sc (.cn .sc .nl)))
def Rw27.av (r : Rw27) : AV := .st [.bs r.key none, .v (.bool r.gone), .bs r.val none]
def Ac27.av (a : Ac27) : AV := .st [.v (.int .i64 a.kind), .v (.int .i64 a.n), .bs a.key none, .sl rwT (a.l.map Rw27.av) none]
def hvR (r : Rw27) : Bool := decide (2000 < r.val.length) || decide (100 < r.key.length)
def hvA (a : Ac27) : Bool := (decide (6 < a.l.length) && decide (a.l.length < 64)) || decide (66 < a.l.length) || decide (3000 < a.key.length)
def hv27 (xs : List Ac27) : Bool := xs.any (fun a => hvA a || a.l.any hvR) || decide (20 < xs.length)
theorem hv_at (xs : List Ac27) (k : Nat) (h : k < xs.length) (x : Ac27) (hx : x = xs[k]) (ht : (hvA x || x.l.any hvR) = true) : hv27 xs = true := by
  unfold hv27
  rw [Bool.or_eq_true]
  exact .inl (List.any_eq_true.2 ⟨x, by rw [hx]; exact List.getElem_mem h, ht⟩)
theorem hv_next (xs : List Ac27) (k : Nat) (h : k < xs.length) (x : Ac27) (hx : x = xs[k]) (h0 : (xs.take k).any (fun a => hvA a || a.l.any hvR) = false) (ht : (hvA x || x.l.any hvR) = false) : (xs.take (k + 1)).any (fun a => hvA a || a.l.any hvR) = false := by
  rw [List.take_succ_eq_append_getElem h, List.any_append, h0, ← hx]
  simpa using ht
theorem ac_get (xs : List Ac27) (k : Nat) (h : k < xs.length) : (xs.map Ac27.av).getD k .any = xs[k].av := by simp [List.getD_eq_getElem?_getD, h]
theorem rw_get (xs : List Rw27) (k : Nat) (h : k < xs.length) : (xs.map Rw27.av).getD k .any = xs[k].av := by simp [List.getD_eq_getElem?_getD, h]
set_option maxRecDepth 20000 in
theorem heavy_v (xs : List Ac27) (hl : xs.length ≤ 34359738000) : VC Try.prog 15 [.sl acT (xs.map Ac27.av) none] [] (.v (.bool (hv27 xs))) := by
  refine v_enter Try.func15 rfl (by kernel_rfl) (by show 1 ≤ 82; decide) ?_
  intro N w0 a w hN hR H
  have hml : (xs.map Ac27.av).length = xs.length := List.length_map ..
  repeat (first | refine wp_seq ?_ | refine wp_block ?_ | refine wp_skip ?_ | refine wp_exit ?_ | ((first | refine v_some 5 tab_ok hN H (by rfl) ct_Heavy ?_ | refine v_more tab_ok hN H (by rfl) (by rfl) ct_Heavy ?_); clear H; intro a w H; replace H := nf_Heavy H; (try simp only [List.drop_succ_cons, List.drop_zero, List.drop_nil]); try refine wpList_nil ?_) | refine wp_region_lit ?_)
  refine v_loop (fun k : Nat => ⟨[(3, none, .v (.int .i64 (k : Int))), (2, none, .v (.bool false)), (0, none, .sl acT (xs.map Ac27.av) none)], [], [], []⟩) (fun k => k ≤ xs.length ∧ (xs.take k).any (fun a => hvA a || a.l.any hvR) = false) (fun k => xs.length - k) 0 ⟨Nat.zero_le _, rfl⟩ (H.to 0 0 ⟨hN, hR⟩ ⟨rfl, rfl, rfl, trivial⟩ rfl rfl rfl rfl rfl) ?_
  clear H
  intro k a w hk H
  obtain ⟨hk1, hk2⟩ := hk
  repeat (first | refine wp_seq ?_ | refine wp_block ?_ | refine wp_skip ?_ | refine wp_exit ?_ | ((first | refine v_some 5 tab_ok hN H (by rfl) (by (try simp only [hml]); first | done | exact ct_Heavy) ?_ | refine v_more tab_ok hN H (by rfl) (by rfl) (by (try simp only [hml]); first | done | exact ct_Heavy) ?_); clear H; intro a w H; replace H := nf_Heavy H; first | (simp only [hml] at H; replace H := nf_Heavy H) | skip; (try simp only [List.drop_succ_cons, List.drop_zero, List.drop_nil]); try refine wpList_nil ?_) | refine wp_region_lit ?_)
  refine v_cond H (by rfl) (fun hb => ?_) (fun hb => ?_)
  · have hlt : k < xs.length := by simpa using hb
    have hg := ac_get xs k hlt
    obtain ⟨x, hx⟩ : ∃ x, x = xs[k] := ⟨_, rfl⟩
    rw [← hx] at hg
    obtain ⟨kd, n, ky, ls⟩ := x
    simp only [Ac27.av] at hg
    have hll : (ls.map Rw27.av).length = ls.length := List.length_map ..
    refine wp_skip ?_
    repeat (first | refine wp_seq ?_ | refine wp_block ?_ | refine wp_skip ?_ | refine wp_exit ?_)
    (try refine wp_region_lit ?_); refine v_steps 3 tab_ok hN H (by rfl) (by (try simp only [hg, hll]); first | done | exact ct_Heavy) ?_; clear H; intro a w H; replace H := nf_Heavy H; first | (simp only [hg, hll] at H; replace H := nf_Heavy H) | skip
    (try refine wp_region_lit ?_); refine v_steps 5 tab_ok hN H (by rfl) (by (try simp only [hg, hll]); first | done | exact ct_Heavy) ?_; clear H; intro a w H; replace H := nf_Heavy H; first | (simp only [hg, hll] at H; replace H := nf_Heavy H) | skip
    (try refine wp_region_lit ?_); refine v_steps 3 tab_ok hN H (by rfl) (by (try simp only [hg, hll]); first | done | exact ct_Heavy) ?_; clear H; intro a w H; replace H := nf_Heavy H; first | (simp only [hg, hll] at H; replace H := nf_Heavy H) | skip
    (try refine wp_region_lit ?_); refine v_steps 6 tab_ok hN H (by rfl) (by (try simp only [hg, hll]); first | done | exact ct_Heavy) ?_; clear H; intro a w H; replace H := nf_Heavy H; first | (simp only [hg, hll] at H; replace H := nf_Heavy H) | skip
    (try refine wp_region_lit ?_); refine v_steps 3 tab_ok hN H (by rfl) (by (try simp only [hg, hll]); first | done | exact ct_Heavy) ?_; clear H; intro a w H; replace H := nf_Heavy H; first | (simp only [hg, hll] at H; replace H := nf_Heavy H) | skip
    (try refine wp_region_lit ?_); refine v_steps 6 tab_ok hN H (by rfl) (by (try simp only [hg, hll]); first | done | exact ct_Heavy) ?_; clear H; intro a w H; replace H := nf_Heavy H; first | (simp only [hg, hll] at H; replace H := nf_Heavy H) | skip
    (try refine wp_region_lit ?_); refine v_steps 3 tab_ok hN H (by rfl) (by (try simp only [hg, hll]); first | done | exact ct_Heavy) ?_; clear H; intro a w H; replace H := nf_Heavy H; first | (simp only [hg, hll] at H; replace H := nf_Heavy H) | skip
    repeat (first | refine wp_seq ?_ | refine wp_block ?_ | refine wp_skip ?_ | refine wp_exit ?_ | ((first | refine v_some 5 tab_ok hN H (by rfl) (by (try simp only [hg, hll]); first | done | exact ct_Heavy) ?_ | refine v_more tab_ok hN H (by rfl) (by rfl) (by (try simp only [hg, hll]); first | done | exact ct_Heavy) ?_); clear H; intro a w H; replace H := nf_Heavy H; first | (simp only [hg, hll] at H; replace H := nf_Heavy H) | skip; (try simp only [List.drop_succ_cons, List.drop_zero, List.drop_nil]); try refine wpList_nil ?_) | refine wp_region_lit ?_)
    refine v_cond H (by rfl) (fun hb => ?_) (fun hb => ?_)
    · have ht : hv27 xs = true := hv_at xs k hlt _ hx (by rw [Bool.or_eq_true]; left; simp [hvA] at hb ⊢; omega)
      rw [ht]
      repeat (first | refine wp_seq ?_ | refine wp_block ?_ | refine wp_skip ?_ | refine wp_exit ?_ | ((first | refine v_some 5 tab_ok hN H (by rfl) ct_Heavy ?_ | refine v_more tab_ok hN H (by rfl) (by rfl) ct_Heavy ?_); clear H; intro a w H; replace H := nf_Heavy H; (try simp only [List.drop_succ_cons, List.drop_zero, List.drop_nil]); try refine wpList_nil ?_) | refine wp_region_lit ?_)
      refine wp_ret ?_
      exact v_end [] [] tab_ok ⟨hN, hR⟩ (rs := [.tmp 2]) (ress := [_]) rfl H (by rfl) (by rfl) cb cw ca rfl
    · have hA : hvA ⟨kd, n, ky, ls⟩ = false := by simp [hvA] at hb ⊢; omega
      have hlb : ls.length ≤ 66 := by simp [hvA] at hA; omega
      clear hb
      replace H := H.keep [2, 3, 0] 0 0 ⟨Nat.le_trans hN (by show _ ≤ 0; decide), Nat.le_trans hR (by show _ ≤ 0; decide)⟩ (by rfl) (by rfl)
      replace H := nf_Heavy H
      repeat (first | refine wp_seq ?_ | refine wp_block ?_ | refine wp_skip ?_ | refine wp_exit ?_ | ((first | refine v_some 5 tab_ok hN H (by rfl) ct_Heavy ?_ | refine v_more tab_ok hN H (by rfl) (by rfl) ct_Heavy ?_); clear H; intro a w H; replace H := nf_Heavy H; (try simp only [List.drop_succ_cons, List.drop_zero, List.drop_nil]); try refine wpList_nil ?_) | refine wp_region_lit ?_)
      refine v_loop (fun j : Nat => ⟨[(4, none, .v (.int .i64 (j : Int))), (3, none, .v (.int .i64 (k : Int))), (2, none, .v (.bool false)), (0, none, .sl acT (xs.map Ac27.av) none)], [], [], []⟩) (fun j => j ≤ ls.length ∧ (ls.take j).any hvR = false) (fun j => ls.length - j) 0 ⟨Nat.zero_le _, rfl⟩ (H.to 0 0 ⟨hN, hR⟩ ⟨rfl, rfl, rfl, rfl, trivial⟩ rfl rfl rfl rfl rfl) ?_
      clear H
      intro j a w hj H
      obtain ⟨hj1, hj2⟩ := hj
      repeat (first | refine wp_seq ?_ | refine wp_block ?_ | refine wp_skip ?_ | refine wp_exit ?_)
      (try refine wp_region_lit ?_); refine v_steps 4 tab_ok hN H (by rfl) (by (try simp only [hg, hll]); first | done | exact ct_Heavy) ?_; clear H; intro a w H; replace H := nf_Heavy H; first | (simp only [hg, hll] at H; replace H := nf_Heavy H) | skip
      repeat (first | refine wp_seq ?_ | refine wp_block ?_ | refine wp_skip ?_ | refine wp_exit ?_ | ((first | refine v_some 5 tab_ok hN H (by rfl) (by (try simp only [hg, hll]); first | done | exact ct_Heavy) ?_ | refine v_more tab_ok hN H (by rfl) (by rfl) (by (try simp only [hg, hll]); first | done | exact ct_Heavy) ?_); clear H; intro a w H; replace H := nf_Heavy H; first | (simp only [hg, hll] at H; replace H := nf_Heavy H) | skip; (try simp only [List.drop_succ_cons, List.drop_zero, List.drop_nil]); try refine wpList_nil ?_) | refine wp_region_lit ?_)
      refine v_cond H (by rfl) (fun hb => ?_) (fun hb => ?_)
      · have hjt : j < ls.length := by simpa using hb
        have hr := rw_get ls j hjt
        obtain ⟨r, hrr⟩ : ∃ r, r = ls[j] := ⟨_, rfl⟩
        rw [← hrr] at hr
        obtain ⟨rk, rg, rv⟩ := r
        simp only [Rw27.av] at hr
        refine wp_skip ?_
        repeat (first | refine wp_seq ?_ | refine wp_block ?_ | refine wp_skip ?_ | refine wp_exit ?_)
        (try refine wp_region_lit ?_); refine v_steps 3 tab_ok hN H (by rfl) (by (try simp only [hg, hll, hr]); first | done | exact ct_Heavy) ?_; clear H; intro a w H; replace H := nf_Heavy H; first | (simp only [hg, hll, hr] at H; replace H := nf_Heavy H) | skip
        (try refine wp_region_lit ?_); refine v_steps 4 tab_ok hN H (by rfl) (by (try simp only [hg, hll, hr]); first | done | exact ct_Heavy) ?_; clear H; intro a w H; replace H := nf_Heavy H; first | (simp only [hg, hll, hr] at H; replace H := nf_Heavy H) | skip
        (try refine wp_region_lit ?_); refine v_steps 5 tab_ok hN H (by rfl) (by (try simp only [hg, hll, hr]); first | done | exact ct_Heavy) ?_; clear H; intro a w H; replace H := nf_Heavy H; first | (simp only [hg, hll, hr] at H; replace H := nf_Heavy H) | skip
        (try refine wp_region_lit ?_); refine v_steps 3 tab_ok hN H (by rfl) (by (try simp only [hg, hll, hr]); first | done | exact ct_Heavy) ?_; clear H; intro a w H; replace H := nf_Heavy H; first | (simp only [hg, hll, hr] at H; replace H := nf_Heavy H) | skip
        (try refine wp_region_lit ?_); refine v_steps 4 tab_ok hN H (by rfl) (by (try simp only [hg, hll, hr]); first | done | exact ct_Heavy) ?_; clear H; intro a w H; replace H := nf_Heavy H; first | (simp only [hg, hll, hr] at H; replace H := nf_Heavy H) | skip
        repeat (first | refine wp_seq ?_ | refine wp_block ?_ | refine wp_skip ?_ | refine wp_exit ?_ | ((first | refine v_some 5 tab_ok hN H (by rfl) (by (try simp only [hg, hll, hr]); first | done | exact ct_Heavy) ?_ | refine v_more tab_ok hN H (by rfl) (by rfl) (by (try simp only [hg, hll, hr]); first | done | exact ct_Heavy) ?_); clear H; intro a w H; replace H := nf_Heavy H; first | (simp only [hg, hll, hr] at H; replace H := nf_Heavy H) | skip; (try simp only [List.drop_succ_cons, List.drop_zero, List.drop_nil]); try refine wpList_nil ?_) | refine wp_region_lit ?_)
        repeat (first | refine wp_seq ?_ | refine wp_block ?_ | refine wp_skip ?_ | refine wp_exit ?_ | ((first | refine v_some 5 tab_ok hN H (by rfl) ct_Heavy ?_ | refine v_more tab_ok hN H (by rfl) (by rfl) ct_Heavy ?_); clear H; intro a w H; replace H := nf_Heavy H; (try simp only [List.drop_succ_cons, List.drop_zero, List.drop_nil]); try refine wpList_nil ?_) | refine wp_region_lit ?_)
        refine v_cond H (by rfl) (fun hb => ?_) (fun hb => ?_)
        · have ht : hv27 xs = true := hv_at xs k hlt _ hx (by rw [Bool.or_eq_true]; right; exact List.any_eq_true.2 ⟨⟨rk, rg, rv⟩, by rw [hrr]; exact List.getElem_mem hjt, by simp [hvR] at hb ⊢; omega⟩)
          rw [ht]
          repeat (first | refine wp_seq ?_ | refine wp_block ?_ | refine wp_skip ?_ | refine wp_exit ?_ | ((first | refine v_some 5 tab_ok hN H (by rfl) ct_Heavy ?_ | refine v_more tab_ok hN H (by rfl) (by rfl) ct_Heavy ?_); clear H; intro a w H; replace H := nf_Heavy H; (try simp only [List.drop_succ_cons, List.drop_zero, List.drop_nil]); try refine wpList_nil ?_) | refine wp_region_lit ?_)
          refine wp_ret ?_
          exact v_end [] [] tab_ok ⟨hN, hR⟩ (rs := [.tmp 2]) (ress := [_]) rfl H (by rfl) (by rfl) cb cw ca rfl
        · have hR2 : hvR ⟨rk, rg, rv⟩ = false := by simp [hvR] at hb ⊢; omega
          clear hb
          replace H := H.keep [2, 3, 4, 0] 0 0 ⟨Nat.le_trans hN (by show _ ≤ 0; decide), Nat.le_trans hR (by show _ ≤ 0; decide)⟩ (by rfl) (by rfl)
          replace H := nf_Heavy H
          repeat (first | refine wp_seq ?_ | refine wp_block ?_ | refine wp_skip ?_ | refine wp_exit ?_ | ((first | refine v_some 5 tab_ok hN H (by rfl) ct_Heavy ?_ | refine v_more tab_ok hN H (by rfl) (by rfl) ct_Heavy ?_); clear H; intro a w H; replace H := nf_Heavy H; (try simp only [List.drop_succ_cons, List.drop_zero, List.drop_nil]); try refine wpList_nil ?_) | refine wp_region_lit ?_)
          exact ⟨j + 1, ⟨hjt, by rw [List.take_succ_eq_append_getElem hjt, List.any_append, hj2, ← hrr]; simpa using hR2⟩, by omega, H.to 0 0 ⟨hN, hR⟩ ⟨rfl, rfl, rfl, rfl, trivial⟩ rfl rfl rfl rfl rfl⟩
      · have hge : j = ls.length := by simp at hb; omega
        subst hge
        rw [List.take_length] at hj2
        clear hb
        replace H := H.keep [2, 3, 0] 0 0 ⟨Nat.le_trans hN (by show _ ≤ 0; decide), Nat.le_trans hR (by show _ ≤ 0; decide)⟩ (by rfl) (by rfl)
        replace H := nf_Heavy H
        repeat (first | refine wp_seq ?_ | refine wp_block ?_ | refine wp_skip ?_ | refine wp_exit ?_ | ((first | refine v_some 5 tab_ok hN H (by rfl) ct_Heavy ?_ | refine v_more tab_ok hN H (by rfl) (by rfl) ct_Heavy ?_); clear H; intro a w H; replace H := nf_Heavy H; (try simp only [List.drop_succ_cons, List.drop_zero, List.drop_nil]); try refine wpList_nil ?_) | refine wp_region_lit ?_)
        exact ⟨k + 1, ⟨hlt, hv_next xs k hlt _ hx hk2 (by rw [hA]; exact hj2)⟩, by omega, H.to 0 0 ⟨hN, hR⟩ ⟨rfl, rfl, rfl, trivial⟩ rfl rfl rfl rfl rfl⟩
  · have hge : k = xs.length := by simp at hb; omega
    subst hge
    rw [List.take_length] at hk2
    clear hb
    have he : hv27 xs = decide (20 < xs.length) := by rw [hv27, hk2, Bool.false_or]
    rw [he]
    replace H := H.keep [2, 3, 0] 0 0 ⟨Nat.le_trans hN (by show _ ≤ 0; decide), Nat.le_trans hR (by show _ ≤ 0; decide)⟩ (by rfl) (by rfl)
    replace H := nf_Heavy H
    repeat (first | refine wp_seq ?_ | refine wp_block ?_ | refine wp_skip ?_ | refine wp_exit ?_ | ((first | refine v_some 5 tab_ok hN H (by rfl) (by (try simp only [hml]); first | done | exact ct_Heavy) ?_ | refine v_more tab_ok hN H (by rfl) (by rfl) (by (try simp only [hml]); first | done | exact ct_Heavy) ?_); clear H; intro a w H; replace H := nf_Heavy H; first | (simp only [hml] at H; replace H := nf_Heavy H) | skip; (try simp only [List.drop_succ_cons, List.drop_zero, List.drop_nil]); try refine wpList_nil ?_) | refine wp_region_lit ?_)
    refine wp_ret ?_
    exact v_end [] [] tab_ok ⟨hN, hR⟩ (rs := [.tmp 2]) (ress := [_]) rfl H (by rfl) (by rfl) (by simp [pickB, bxs, ren, idx?, List.idxOf_cons, sub_refl, sub, allP, hml] <;> omega) (by first | rfl | (simp [hml] <;> omega)) (by first | exact trivial | exact ⟨sub_refl _ _, trivial⟩ | exact ⟨sub_refl _ _, sub_refl _ _, trivial⟩ | exact ⟨sub_refl _ _, sub_refl _ _, sub_refl _ _, trivial⟩ | exact ⟨⟨rfl, sub_refl _ _, trivial⟩, sub_refl _ _, trivial⟩ | (simp [cargs, cargsG, St.ev, St.tmp, find, ren, idx?, sub_refl, sub, allP, resv, resC, bss, hml] <;> omega)) rfl
end Go.Proofs.Ytpeefeioccglcaa
/- P27.1: disks by themselves. -/
namespace Go.Proofs.Ytpeefeioccglcaa
open Go Go.RowKit
/-- The state made plain. -/
theorem nf_DisksL {P : Program} {w0 w : World} {N : Gh} {nt : Nat} {st s2 : St} {a : Act} (H : Rel P w0 N nt st a w) (h : st = s2 := by (try simp only [pk, elemB, St.put, St.ev, St.tmp, St.keep, find, dropT, slots, AV.put, AV.loc, fitI, convI, IntKind.signed, IntKind.bits, strip, St.lose, mergeL, setAll, nth, renB, ren, idx?, sub, allP, low, bnd, Int.reduceEq, Nat.reduceAdd, Nat.reduceLT, reduceIte, reduceCtorEq, Nat.reduceEqDiff, Nat.reduceLeDiff, Nat.reduceBEq, Int.reducePow, Int.reduceToNat, ti22_t, ti22_z, ti5_t, ti5_z, ti178_t, ti178_z, ti37_t, ti37_z, ti39_t, ti39_z, ti23_t, ti23_z, ti180_t, ti180_z, ti182_t, ti182_z, ti36_t, ti36_z]); rfl) : Rel P w0 N nt s2 a w := h ▸ H
theorem nt_DisksL {P : Program} {w0 w : World} {N gS : Gh} {nt : Nat} {q q2 st s2 : St} {a : Act} (H : RelT P w0 N nt gS q st a w) (h1 : q = q2 := by (try simp only [pk, elemB, St.put, St.ev, St.tmp, St.keep, find, dropT, slots, AV.put, AV.loc, fitI, convI, IntKind.signed, IntKind.bits, strip, St.lose, mergeL, setAll, nth, renB, ren, idx?, sub, allP, low, bnd, Int.reduceEq, Nat.reduceAdd, Nat.reduceLT, reduceIte, reduceCtorEq, Nat.reduceEqDiff, Nat.reduceLeDiff, Nat.reduceBEq, Int.reducePow, Int.reduceToNat, ti22_t, ti22_z, ti5_t, ti5_z, ti178_t, ti178_z, ti37_t, ti37_z, ti39_t, ti39_z, ti23_t, ti23_z, ti180_t, ti180_z, ti182_t, ti182_z, ti36_t, ti36_z]); rfl) (h : st = s2 := by (try simp only [pk, elemB, St.put, St.ev, St.tmp, St.keep, find, dropT, slots, AV.put, AV.loc, fitI, convI, IntKind.signed, IntKind.bits, strip, St.lose, mergeL, setAll, nth, renB, ren, idx?, sub, allP, low, bnd, Int.reduceEq, Nat.reduceAdd, Nat.reduceLT, reduceIte, reduceCtorEq, Nat.reduceEqDiff, Nat.reduceLeDiff, Nat.reduceBEq, Int.reducePow, Int.reduceToNat, ti22_t, ti22_z, ti5_t, ti5_z, ti178_t, ti178_z, ti37_t, ti37_z, ti39_t, ti39_z, ti23_t, ti23_z, ti180_t, ti180_z, ti182_t, ti182_z, ti36_t, ti36_z]); rfl) : RelT P w0 N nt gS q2 s2 a w := h1 ▸ h ▸ H
theorem ct_DisksL {c : Prop} (h : c := by ((try simp only [pk, elemB, St.put, St.ev, St.tmp, St.keep, find, dropT, slots, AV.put, AV.loc, fitI, convI, IntKind.signed, IntKind.bits, strip, St.lose, mergeL, setAll, nth, renB, ren, idx?, sub, allP, low, bnd, Int.reduceEq, Nat.reduceAdd, Nat.reduceLT, reduceIte, reduceCtorEq, Nat.reduceEqDiff, Nat.reduceLeDiff, Nat.reduceBEq, Int.reducePow, Int.reduceToNat, ti22_t, ti22_z, ti5_t, ti5_z, ti178_t, ti178_z, ti37_t, ti37_z, ti39_t, ti39_z, ti23_t, ti23_z, ti180_t, ti180_z, ti182_t, ti182_z, ti36_t, ti36_z, ti22, ti5, ti178, ti37, ti39, ti23, ti180, ti182, ti36, fit, gcond, ilo, ihi]); first | done | exact cd | exact cd2 | skip)) : c := h
theorem Rel.fzc {P : Program} {w0 w : World} {N : Gh} {nt : Nat} {a : Act} {t : List (Nat × Gd × AV)} {bx : List (Ty × AV)} {fz fz' : List Nat} {rw_ : List (TypeId × Nat)} (H : Rel P w0 N nt ⟨t, bx, fz, rw_⟩ a w) (h : fz.all (fun i => fz'.contains i || decide (bx.length ≤ i)) = true) : Rel P w0 N nt ⟨t, bx, fz', rw_⟩ a w := by
  obtain ⟨g, HI, hF⟩ := H
  refine ⟨g, ⟨HI.mem, HI.fr, HI.br, fun i x hx hf => ?_, HI.wr, HI.wz⟩, hF.sz, hF.df, hF.t, hF.u⟩
  have h1 := List.all_eq_true.1 h i (HI.fz i x hx hf)
  have h2 := (List.getElem?_eq_some_iff.1 hx).1
  rw [HI.br.len] at h2
  simp only [Bool.or_eq_true, decide_eq_true_eq, List.contains_eq_mem] at h1
  rcases h1 with h1 | h1
  · exact h1
  · exact absurd h1 (Nat.not_le.2 h2)
structure Sk where
  k : Nat
  γ : Nat
  n : Nat
  s : Nat
  l : List UInt8
def skF (xs : List Ac27) (i : Sk) : St := ⟨[(10, none, .v (.int .i64 (i.k : Int))), (9, none, .ptr 3 []), (7, none, .ptr 2 []), (5, none, .ptr 0 []), (4, none, .v (.bool false)), (1, none, .sl acT (xs.map Ac27.av) none)],
  [(dkT, .st [.vw 1 i.γ i.n, .v (.int .i64 (i.s : Int)), .v (.bool true)]), (vbT, .vb i.γ i.l), (rkT, .st [.bs (i.l.take i.n) none, .v (.int .i64 (i.s : Int))]), (scT, .st [.ptr 0 [], .v (.pointer none), .ptr 2 [], .v (.pointer none), .v (.int .i64 0)])], [], []⟩
set_option maxRecDepth 20000 in
set_option maxHeartbeats 1000000 in
theorem journalDisks_v (b : List UInt8) (xs : List Ac27) (hx : ∀ x ∈ xs, x.key.length ≤ 34359738000) (hl : xs.length ≤ 34359738000) (hb0 : b.length ≤ 34359738000) : VC Try.prog 3 [.bs b none, .sl acT (xs.map Ac27.av) none] [] (.v (.bool true)) := by
  have hv := heavy_v xs hl
  have hml : (xs.map Ac27.av).length = xs.length := List.length_map ..
  refine v_enter Try.func3 rfl (by kernel_rfl) (by show 2 ≤ 93; decide) ?_
  intro N w0 a w hN hR H
  repeat (first | refine wp_seq ?_ | refine wp_block ?_ | refine wp_skip ?_ | refine wp_exit ?_ | ((first | refine v_some 5 tab_ok hN H (by rfl) ct_DisksL ?_ | refine v_more tab_ok hN H (by rfl) (by rfl) ct_DisksL ?_); clear H; intro a w H; replace H := nf_DisksL H; (try simp only [List.drop_succ_cons, List.drop_zero, List.drop_nil]); try refine wpList_nil ?_) | refine wp_region_lit ?_)
  refine v_callG [] [] (hv) H (by rfl) rfl (by rfl) cb cw ca (by rfl) (by rfl) (by rfl) ?_; clear H; intro a w H; replace H := nf_DisksL H; try refine wpList_nil ?_
  repeat (first | refine wp_seq ?_ | refine wp_block ?_ | refine wp_skip ?_ | refine wp_exit ?_ | ((first | refine v_some 5 tab_ok hN H (by rfl) ct_DisksL ?_ | refine v_more tab_ok hN H (by rfl) (by rfl) ct_DisksL ?_); clear H; intro a w H; replace H := nf_DisksL H; (try simp only [List.drop_succ_cons, List.drop_zero, List.drop_nil]); try refine wpList_nil ?_) | refine wp_region_lit ?_)
  refine v_cond H (by rfl) (fun hb => ?_) (fun hb => ?_)
  · repeat (first | refine wp_seq ?_ | refine wp_block ?_ | refine wp_skip ?_ | refine wp_exit ?_ | ((first | refine v_some 5 tab_ok hN H (by rfl) ct_DisksL ?_ | refine v_more tab_ok hN H (by rfl) (by rfl) ct_DisksL ?_); clear H; intro a w H; replace H := nf_DisksL H; (try simp only [List.drop_succ_cons, List.drop_zero, List.drop_nil]); try refine wpList_nil ?_) | refine wp_region_lit ?_)
    refine wp_ret ?_
    exact v_end [] [] tab_ok ⟨hN, hR⟩ (rs := [.tmp 4]) (ress := [_]) rfl H (by rfl) (by rfl) cb cw ca rfl
  · have hb1 : b.length ≤ 3000 := by simp at hb; omega
    clear hb
    have h1 := dof_v b (by omega)
    have h2 := rof_v b (by omega)
    simp only [dkv, rkv] at h1 h2
    replace H := H.keep [0, 1, 4] 0 0 ⟨Nat.le_trans hN (by show _ ≤ 0; decide), Nat.le_trans hR (by show _ ≤ 0; decide)⟩ (by rfl) (by rfl)
    replace H := nf_DisksL H
    repeat (first | refine wp_seq ?_ | refine wp_block ?_ | refine wp_skip ?_ | refine wp_exit ?_ | ((first | refine v_some 5 tab_ok hN H (by rfl) ct_DisksL ?_ | refine v_more tab_ok hN H (by rfl) (by rfl) ct_DisksL ?_); clear H; intro a w H; replace H := nf_DisksL H; (try simp only [List.drop_succ_cons, List.drop_zero, List.drop_nil]); try refine wpList_nil ?_) | refine wp_region_lit ?_)
    refine v_call [] [] (h1) H rfl rfl (by rfl) cb cw ca ?_; clear H; intro a w H; replace H := nf_DisksL H; try refine wpList_nil ?_
    repeat (first | refine wp_seq ?_ | refine wp_block ?_ | refine wp_skip ?_ | refine wp_exit ?_ | ((first | refine v_some 5 tab_ok hN H (by rfl) ct_DisksL ?_ | refine v_more tab_ok hN H (by rfl) (by rfl) ct_DisksL ?_); clear H; intro a w H; replace H := nf_DisksL H; (try simp only [List.drop_succ_cons, List.drop_zero, List.drop_nil]); try refine wpList_nil ?_) | refine wp_region_lit ?_)
    refine v_call [] [] (h2) H rfl rfl (by rfl) cb cw ca ?_; clear H; intro a w H; replace H := nf_DisksL H; try refine wpList_nil ?_
    repeat (first | refine wp_seq ?_ | refine wp_block ?_ | refine wp_skip ?_ | refine wp_exit ?_ | ((first | refine v_some 5 tab_ok hN H (by rfl) ct_DisksL ?_ | refine v_more tab_ok hN H (by rfl) (by rfl) ct_DisksL ?_); clear H; intro a w H; replace H := nf_DisksL H; (try simp only [List.drop_succ_cons, List.drop_zero, List.drop_nil]); try refine wpList_nil ?_) | refine wp_region_lit ?_)
    refine v_loop (skF xs) (fun i => i.k ≤ xs.length ∧ i.n ≤ i.l.length ∧ i.n ≤ 1048576 ∧ i.s ≤ i.n) (fun i => xs.length - i.k) ⟨0, 1, b.length, b.length, b⟩ ⟨Nat.zero_le _, Nat.le_refl _, by show b.length ≤ 1048576; omega, Nat.le_refl _⟩ (by
      simp only [skF, List.take_length]
      exact H.to 4 0 ⟨Nat.le_trans hN (by decide), hR⟩ ⟨rfl, rfl, rfl, rfl, rfl, rfl, trivial⟩ rfl rfl rfl rfl rfl) ?_
    clear H
    rintro ⟨k, γ, n, s, l⟩ a w ⟨hk, hn, hn2, hs⟩ H
    simp only [skF] at H hk hn hn2 hs
    repeat (first | refine wp_seq ?_ | refine wp_block ?_ | refine wp_skip ?_ | refine wp_exit ?_ | ((first | refine v_some 5 tab_ok hN H (by rfl) (by (try simp only [hml]); first | done | exact ct_DisksL) ?_ | refine v_more tab_ok hN H (by rfl) (by rfl) (by (try simp only [hml]); first | done | exact ct_DisksL) ?_); clear H; intro a w H; replace H := nf_DisksL H; first | (simp only [hml] at H; replace H := nf_DisksL H) | skip; (try simp only [List.drop_succ_cons, List.drop_zero, List.drop_nil]); try refine wpList_nil ?_) | refine wp_region_lit ?_)
    refine v_cond H (by rfl) (fun hb => ?_) (fun hb => ?_)
    · have hlt : k < xs.length := by simpa using hb
      have hg := ac_get xs k hlt
      have hkl := hx _ (List.getElem_mem hlt)
      obtain ⟨x, hxx⟩ : ∃ x, x = xs[k] := ⟨_, rfl⟩
      rw [← hxx] at hg hkl
      obtain ⟨kd, m, ky, ls⟩ := x
      simp only [Ac27.av] at hg hkl
      refine wp_skip ?_
      repeat (first | refine wp_seq ?_ | refine wp_block ?_ | refine wp_skip ?_ | refine wp_exit ?_)
      (try refine wp_region_lit ?_); refine v_steps 3 tab_ok hN H (by rfl) (by (try simp only [hg]); first | done | exact ct_DisksL) ?_; clear H; intro a w H; replace H := nf_DisksL H; first | (simp only [hg] at H; replace H := nf_DisksL H) | skip
      (try refine wp_region_lit ?_); refine v_steps 3 tab_ok hN H (by rfl) ct_DisksL ?_; clear H; intro a w H; replace H := nf_DisksL H
      repeat (first | refine wp_seq ?_ | refine wp_block ?_ | refine wp_skip ?_ | refine wp_exit ?_ | ((first | refine v_some 5 tab_ok hN H (by rfl) ct_DisksL ?_ | refine v_more tab_ok hN H (by rfl) (by rfl) ct_DisksL ?_); clear H; intro a w H; replace H := nf_DisksL H; (try simp only [List.drop_succ_cons, List.drop_zero, List.drop_nil]); try refine wpList_nil ?_) | refine wp_region_lit ?_)
      have H := v_ref H 11 4 (Nat.le_trans hN (by decide)) rfl rfl rfl
      (simp only [nilT, Nat.reduceEqDiff, ↓reduceIte] at H)
      replace H := nf_DisksL H
      repeat (first | refine wp_seq ?_ | refine wp_block ?_ | refine wp_skip ?_ | refine wp_exit ?_ | ((first | refine v_some 5 tab_ok hN H (by rfl) ct_DisksL ?_ | refine v_more tab_ok hN H (by rfl) (by rfl) ct_DisksL ?_); clear H; intro a w H; replace H := nf_DisksL H; (try simp only [List.drop_succ_cons, List.drop_zero, List.drop_nil]); try refine wpList_nil ?_) | refine wp_region_lit ?_)
      apply cutS (R := fun a w => ∃ γ n s l, (n ≤ l.length ∧ n ≤ 1048576 ∧ s ≤ n) ∧ Rel Try.prog w0 N 93 ⟨[(12, none, .v (.bool true)), (10, none, .v (.int .i64 (k : Int))), (9, none, .ptr 3 []), (7, none, .ptr 2 []), (5, none, .ptr 0 []), (4, none, .v (.bool false)), (1, none, .sl acT (xs.map Ac27.av) none)], [(dkT, .st [.vw 1 γ n, .v (.int .i64 (s : Int)), .v (.bool true)]), (vbT, .vb γ l), (rkT, .st [.bs (l.take n) none, .v (.int .i64 (s : Int))]), (scT, .st [.ptr 0 [], .v (.pointer none), .ptr 2 [], .v (.pointer none), .v (.int .i64 0)])], [], []⟩ a w)
      intro key
      · refine v_cond H (by rfl) (fun hb => ?_) (fun hb => ?_)
        · have hap : ∀ h : n + ky.length ≤ 1048576, True := fun _ => trivial
          by_cases hc : n + ky.length ≤ 1048576
          · have e1 := dappend_ok γ n s l ky hn hc
            have e2 := rappend_ok (l.take n) ky s (by rw [List.length_take]; omega)
            simp only [dkv, rkv] at e1 e2
            repeat (first | refine wp_seq ?_ | refine wp_block ?_ | refine wp_skip ?_ | refine wp_exit ?_)
            repeat (first | refine wp_seq ?_ | refine wp_block ?_)
            refine v_draw 0 [3, 7] [4, 5, 6] (by kernel_rfl) (by kernel_rfl) H (by rfl) (fun gS H => ?_); try replace H := nt_DisksL H
            repeat (refine v_someT 5 tab_ok hN H (by rfl) ct_DisksL ?_; clear H; intro a w H; replace H := nt_DisksL H; simp only [List.drop_succ_cons, List.drop_zero, List.drop_nil])
            refine v_moreT tab_ok hN H (by rfl) ct_DisksL ?_; clear H; intro a w H; try replace H := nt_DisksL H
            refine v_callT [0, 1] [] (e1) H (by rfl) (by rfl) rfl rfl (by rfl) (by simp [pickB, bxs, ren, idx?, List.idxOf_cons, sub_refl, sub, allP, cond_true, cond_false] <;> omega) (by first | rfl | (simp [cond_true, cond_false] <;> omega)) (by first | exact trivial | exact ⟨sub_refl _ _, trivial⟩ | exact ⟨sub_refl _ _, sub_refl _ _, trivial⟩ | exact ⟨sub_refl _ _, sub_refl _ _, sub_refl _ _, trivial⟩ | exact ⟨⟨rfl, sub_refl _ _, trivial⟩, sub_refl _ _, trivial⟩ | (simp [cargs, cargsG, St.ev, St.tmp, find, ren, idx?, sub_refl, sub, allP, resv, resC, bss, cond_true, cond_false] <;> omega)) ?_; clear H; intro a w H; try replace H := nt_DisksL H; first | (simp only [cond_true, cond_false] at H; replace H := nt_DisksL H) | skip
            repeat (refine v_someT 5 tab_ok hN H (by rfl) ct_DisksL ?_; clear H; intro a w H; replace H := nt_DisksL H; simp only [List.drop_succ_cons, List.drop_zero, List.drop_nil])
            refine v_moreT tab_ok hN H (by rfl) ct_DisksL ?_; clear H; intro a w H; try replace H := nt_DisksL H
            refine v_callT [2] [] (e2) H (by rfl) (by rfl) rfl rfl (by rfl) cb cw ca ?_; clear H; intro a w H; try replace H := nt_DisksL H
            repeat (refine v_someT 5 tab_ok hN H (by rfl) ct_DisksL ?_; clear H; intro a w H; replace H := nt_DisksL H; simp only [List.drop_succ_cons, List.drop_zero, List.drop_nil])
            refine v_moreT tab_ok hN H (by rfl) ct_DisksL ?_; clear H; intro a w H; try replace H := nt_DisksL H
            refine v_drawNil H (fun H => ?_)
            have e3 : (l.take n ++ ky).take (n + ky.length) = l.take n ++ ky := List.take_of_length_le (by simp; omega)
            refine key _ _ ⟨γ + 1, n + ky.length, s, l.take n ++ ky, ⟨by simp; omega, hc, by omega⟩, ?_⟩
            rw [e3]
            replace H := H.keep [12, 10, 9, 7, 5, 4, 1] 4 0 ⟨Nat.le_trans hN (by decide), hR⟩ (by rfl) (by rfl)
            replace H := nf_DisksL H
            exact H.fzc (by rfl)
          · have e1 := dappend_no γ n s l ky hn2 hkl (by omega)
            have e2 := rappend_no (l.take n) ky s (by rw [List.length_take]; omega) hkl (by rw [List.length_take]; omega)
            simp only [dkv, rkv] at e1 e2
            repeat (first | refine wp_seq ?_ | refine wp_block ?_ | refine wp_skip ?_ | refine wp_exit ?_)
            repeat (first | refine wp_seq ?_ | refine wp_block ?_)
            refine v_draw 0 [3, 7] [4, 5, 6] (by kernel_rfl) (by kernel_rfl) H (by rfl) (fun gS H => ?_); try replace H := nt_DisksL H
            repeat (refine v_someT 5 tab_ok hN H (by rfl) ct_DisksL ?_; clear H; intro a w H; replace H := nt_DisksL H; simp only [List.drop_succ_cons, List.drop_zero, List.drop_nil])
            refine v_moreT tab_ok hN H (by rfl) ct_DisksL ?_; clear H; intro a w H; try replace H := nt_DisksL H
            refine v_callT [0, 1] [] (e1) H (by rfl) (by rfl) rfl rfl (by rfl) (by simp [pickB, bxs, ren, idx?, List.idxOf_cons, sub_refl, sub, allP, cond_true, cond_false] <;> omega) (by first | rfl | (simp [cond_true, cond_false] <;> omega)) (by first | exact trivial | exact ⟨sub_refl _ _, trivial⟩ | exact ⟨sub_refl _ _, sub_refl _ _, trivial⟩ | exact ⟨sub_refl _ _, sub_refl _ _, sub_refl _ _, trivial⟩ | exact ⟨⟨rfl, sub_refl _ _, trivial⟩, sub_refl _ _, trivial⟩ | (simp [cargs, cargsG, St.ev, St.tmp, find, ren, idx?, sub_refl, sub, allP, resv, resC, bss, cond_true, cond_false] <;> omega)) ?_; clear H; intro a w H; try replace H := nt_DisksL H; first | (simp only [cond_true, cond_false] at H; replace H := nt_DisksL H) | skip
            repeat (refine v_someT 5 tab_ok hN H (by rfl) ct_DisksL ?_; clear H; intro a w H; replace H := nt_DisksL H; simp only [List.drop_succ_cons, List.drop_zero, List.drop_nil])
            refine v_moreT tab_ok hN H (by rfl) ct_DisksL ?_; clear H; intro a w H; try replace H := nt_DisksL H
            refine v_callT [2] [] (e2) H (by rfl) (by rfl) rfl rfl (by rfl) cb cw ca ?_; clear H; intro a w H; try replace H := nt_DisksL H
            repeat (refine v_someT 5 tab_ok hN H (by rfl) ct_DisksL ?_; clear H; intro a w H; replace H := nt_DisksL H; simp only [List.drop_succ_cons, List.drop_zero, List.drop_nil])
            refine v_moreT tab_ok hN H (by rfl) ct_DisksL ?_; clear H; intro a w H; try replace H := nt_DisksL H
            refine v_drawNil H (fun H => ?_)
            refine key _ _ ⟨γ, n, s, l, ⟨hn, hn2, hs⟩, ?_⟩
            replace H := H.keep [12, 10, 9, 7, 5, 4, 1] 4 0 ⟨Nat.le_trans hN (by decide), hR⟩ (by rfl) (by rfl)
            replace H := nf_DisksL H
            exact H.fzc (by rfl)
        · clear hb
          have hln : (l.take n).length = n := by rw [List.length_take]; omega
          repeat (first | refine wp_seq ?_ | refine wp_block ?_ | refine wp_skip ?_ | refine wp_exit ?_ | ((first | refine v_some 5 tab_ok hN H (by rfl) ct_DisksL ?_ | refine v_more tab_ok hN H (by rfl) (by rfl) ct_DisksL ?_); clear H; intro a w H; replace H := nf_DisksL H; (try simp only [List.drop_succ_cons, List.drop_zero, List.drop_nil]); try refine wpList_nil ?_) | refine wp_region_lit ?_)
          refine v_cond H (by rfl) (fun hb => ?_) (fun hb => ?_)
          · by_cases hc : 0 ≤ m ∧ m ≤ (n : Int)
            · have e3 : (l.take n).take m.toNat = l.take m.toNat := by rw [List.take_take, Nat.min_eq_left (by omega)]
              have e1 := dcut_ok γ n s m l hn hn2 hs hc.1 hc.2
              have e2 := rcut_ok (l.take n) s m (by rw [List.length_take]; omega) (by rw [List.length_take]; omega) hc.1 (by rw [List.length_take]; omega)
              simp only [dkv, rkv] at e1 e2; rw [e3] at e2
              repeat (first | refine wp_seq ?_ | refine wp_block ?_ | refine wp_skip ?_ | refine wp_exit ?_)
              repeat (first | refine wp_seq ?_ | refine wp_block ?_)
              refine v_draw 0 [3, 7] [4, 5, 6] (by kernel_rfl) (by kernel_rfl) H (by rfl) (fun gS H => ?_); try replace H := nt_DisksL H
              repeat (refine v_someT 5 tab_ok hN H (by rfl) ct_DisksL ?_; clear H; intro a w H; replace H := nt_DisksL H; simp only [List.drop_succ_cons, List.drop_zero, List.drop_nil])
              refine v_moreT tab_ok hN H (by rfl) ct_DisksL ?_; clear H; intro a w H; try replace H := nt_DisksL H
              refine v_callT [0, 1] [] (e1) H (by rfl) (by rfl) rfl rfl (by rfl) (by simp [pickB, bxs, ren, idx?, List.idxOf_cons, sub_refl, sub, allP, cond_true, cond_false] <;> omega) (by first | rfl | (simp [cond_true, cond_false] <;> omega)) (by first | exact trivial | exact ⟨sub_refl _ _, trivial⟩ | exact ⟨sub_refl _ _, sub_refl _ _, trivial⟩ | exact ⟨sub_refl _ _, sub_refl _ _, sub_refl _ _, trivial⟩ | exact ⟨⟨rfl, sub_refl _ _, trivial⟩, sub_refl _ _, trivial⟩ | (simp [cargs, cargsG, St.ev, St.tmp, find, ren, idx?, sub_refl, sub, allP, resv, resC, bss, cond_true, cond_false] <;> omega)) ?_; clear H; intro a w H; try replace H := nt_DisksL H; first | (simp only [cond_true, cond_false] at H; replace H := nt_DisksL H) | skip
              repeat (refine v_someT 5 tab_ok hN H (by rfl) ct_DisksL ?_; clear H; intro a w H; replace H := nt_DisksL H; simp only [List.drop_succ_cons, List.drop_zero, List.drop_nil])
              refine v_moreT tab_ok hN H (by rfl) ct_DisksL ?_; clear H; intro a w H; try replace H := nt_DisksL H
              refine v_callT [2] [] (e2) H (by rfl) (by rfl) rfl rfl (by rfl) cb cw ca ?_; clear H; intro a w H; try replace H := nt_DisksL H
              repeat (refine v_someT 5 tab_ok hN H (by rfl) ct_DisksL ?_; clear H; intro a w H; replace H := nt_DisksL H; simp only [List.drop_succ_cons, List.drop_zero, List.drop_nil])
              refine v_moreT tab_ok hN H (by rfl) ct_DisksL ?_; clear H; intro a w H; try replace H := nt_DisksL H
              refine v_drawNil H (fun H => ?_)
              refine key _ _ ⟨γ, m.toNat, min s m.toNat, l, ⟨by omega, by omega, by omega⟩, ?_⟩
              replace H := H.keep [12, 10, 9, 7, 5, 4, 1] 4 0 ⟨Nat.le_trans hN (by decide), hR⟩ (by rfl) (by rfl)
              replace H := nf_DisksL H
              exact H.fzc (by rfl)
            · have hc' : m < 0 ∨ (n : Int) < m := by omega
              have e1 := dcut_no γ n s m l hn2 hc'
              have e2 := rcut_no (l.take n) s m (by rw [List.length_take]; omega) (by rw [hln]; exact hc')
              simp only [dkv, rkv] at e1 e2
              repeat (first | refine wp_seq ?_ | refine wp_block ?_ | refine wp_skip ?_ | refine wp_exit ?_)
              repeat (first | refine wp_seq ?_ | refine wp_block ?_)
              refine v_draw 0 [3, 7] [4, 5, 6] (by kernel_rfl) (by kernel_rfl) H (by rfl) (fun gS H => ?_); try replace H := nt_DisksL H
              repeat (refine v_someT 5 tab_ok hN H (by rfl) ct_DisksL ?_; clear H; intro a w H; replace H := nt_DisksL H; simp only [List.drop_succ_cons, List.drop_zero, List.drop_nil])
              refine v_moreT tab_ok hN H (by rfl) ct_DisksL ?_; clear H; intro a w H; try replace H := nt_DisksL H
              refine v_callT [0, 1] [] (e1) H (by rfl) (by rfl) rfl rfl (by rfl) (by simp [pickB, bxs, ren, idx?, List.idxOf_cons, sub_refl, sub, allP, cond_true, cond_false] <;> omega) (by first | rfl | (simp [cond_true, cond_false] <;> omega)) (by first | exact trivial | exact ⟨sub_refl _ _, trivial⟩ | exact ⟨sub_refl _ _, sub_refl _ _, trivial⟩ | exact ⟨sub_refl _ _, sub_refl _ _, sub_refl _ _, trivial⟩ | exact ⟨⟨rfl, sub_refl _ _, trivial⟩, sub_refl _ _, trivial⟩ | (simp [cargs, cargsG, St.ev, St.tmp, find, ren, idx?, sub_refl, sub, allP, resv, resC, bss, cond_true, cond_false] <;> omega)) ?_; clear H; intro a w H; try replace H := nt_DisksL H; first | (simp only [cond_true, cond_false] at H; replace H := nt_DisksL H) | skip
              repeat (refine v_someT 5 tab_ok hN H (by rfl) ct_DisksL ?_; clear H; intro a w H; replace H := nt_DisksL H; simp only [List.drop_succ_cons, List.drop_zero, List.drop_nil])
              refine v_moreT tab_ok hN H (by rfl) ct_DisksL ?_; clear H; intro a w H; try replace H := nt_DisksL H
              refine v_callT [2] [] (e2) H (by rfl) (by rfl) rfl rfl (by rfl) cb cw ca ?_; clear H; intro a w H; try replace H := nt_DisksL H
              repeat (refine v_someT 5 tab_ok hN H (by rfl) ct_DisksL ?_; clear H; intro a w H; replace H := nt_DisksL H; simp only [List.drop_succ_cons, List.drop_zero, List.drop_nil])
              refine v_moreT tab_ok hN H (by rfl) ct_DisksL ?_; clear H; intro a w H; try replace H := nt_DisksL H
              refine v_drawNil H (fun H => ?_)
              refine key _ _ ⟨γ, n, s, l, ⟨hn, hn2, hs⟩, ?_⟩
              replace H := H.keep [12, 10, 9, 7, 5, 4, 1] 4 0 ⟨Nat.le_trans hN (by decide), hR⟩ (by rfl) (by rfl)
              replace H := nf_DisksL H
              exact H.fzc (by rfl)
          · clear hb
            repeat (first | refine wp_seq ?_ | refine wp_block ?_ | refine wp_skip ?_ | refine wp_exit ?_ | ((first | refine v_some 5 tab_ok hN H (by rfl) ct_DisksL ?_ | refine v_more tab_ok hN H (by rfl) (by rfl) ct_DisksL ?_); clear H; intro a w H; replace H := nf_DisksL H; (try simp only [List.drop_succ_cons, List.drop_zero, List.drop_nil]); try refine wpList_nil ?_) | refine wp_region_lit ?_)
            refine v_cond H (by rfl) (fun hb => ?_) (fun hb => ?_)
            · have e1 := dsync_v γ n s l hn2
              have e2 := rsync_v (l.take n) s (by rw [List.length_take]; omega)
              rw [hln] at e2
              simp only [dkv, rkv] at e1 e2
              repeat (first | refine wp_seq ?_ | refine wp_block ?_ | refine wp_skip ?_ | refine wp_exit ?_ | ((first | refine v_some 5 tab_ok hN H (by rfl) ct_DisksL ?_ | refine v_more tab_ok hN H (by rfl) (by rfl) ct_DisksL ?_); clear H; intro a w H; replace H := nf_DisksL H; (try simp only [List.drop_succ_cons, List.drop_zero, List.drop_nil]); try refine wpList_nil ?_) | refine wp_region_lit ?_)
              refine v_call [0, 1] [] (e1) H rfl rfl (by rfl) (by simp [pickB, bxs, ren, idx?, List.idxOf_cons, sub_refl, sub, allP, cond_true, cond_false] <;> omega) (by first | rfl | (simp [cond_true, cond_false] <;> omega)) (by first | exact trivial | exact ⟨sub_refl _ _, trivial⟩ | exact ⟨sub_refl _ _, sub_refl _ _, trivial⟩ | exact ⟨sub_refl _ _, sub_refl _ _, sub_refl _ _, trivial⟩ | exact ⟨⟨rfl, sub_refl _ _, trivial⟩, sub_refl _ _, trivial⟩ | (simp [cargs, cargsG, St.ev, St.tmp, find, ren, idx?, sub_refl, sub, allP, resv, resC, bss, cond_true, cond_false] <;> omega)) ?_; clear H; intro a w H; replace H := nf_DisksL H; first | (simp only [cond_true, cond_false] at H; replace H := nf_DisksL H) | skip; try refine wpList_nil ?_
              repeat (first | refine wp_seq ?_ | refine wp_block ?_ | refine wp_skip ?_ | refine wp_exit ?_ | ((first | refine v_some 5 tab_ok hN H (by rfl) ct_DisksL ?_ | refine v_more tab_ok hN H (by rfl) (by rfl) ct_DisksL ?_); clear H; intro a w H; replace H := nf_DisksL H; (try simp only [List.drop_succ_cons, List.drop_zero, List.drop_nil]); try refine wpList_nil ?_) | refine wp_region_lit ?_)
              refine v_call [2] [] (e2) H rfl rfl (by rfl) cb cw ca ?_; clear H; intro a w H; replace H := nf_DisksL H; try refine wpList_nil ?_
              (try refine wp_region_lit ?_); refine v_steps 2 tab_ok hN H (by rfl) ct_DisksL ?_; clear H; intro a w H; replace H := nf_DisksL H
              try refine wpList_nil ?_
              refine key _ _ ⟨γ, n, n, l, ⟨hn, hn2, Nat.le_refl _⟩, ?_⟩
              replace H := H.keep [12, 10, 9, 7, 5, 4, 1] 4 0 ⟨Nat.le_trans hN (by decide), hR⟩ (by rfl) (by rfl)
              replace H := nf_DisksL H
              exact H.fzc (by rfl)
            · clear hb
              repeat (first | refine wp_seq ?_ | refine wp_block ?_ | refine wp_skip ?_ | refine wp_exit ?_ | ((first | refine v_some 5 tab_ok hN H (by rfl) ct_DisksL ?_ | refine v_more tab_ok hN H (by rfl) (by rfl) ct_DisksL ?_); clear H; intro a w H; replace H := nf_DisksL H; (try simp only [List.drop_succ_cons, List.drop_zero, List.drop_nil]); try refine wpList_nil ?_) | refine wp_region_lit ?_)
              refine v_cond H (by rfl) (fun hb => ?_) (fun hb => ?_)
              · by_cases hc : 0 ≤ m ∧ m ≤ (n : Int) - (s : Int)
                · have e3 : (l.take n).take (s + m.toNat) = l.take (s + m.toNat) := by rw [List.take_take, Nat.min_eq_left (by omega)]
                  have e1 := dcrash_ok γ n s m l hn hn2 hs hc.1 hc.2
                  have e2 := rcrash_ok (l.take n) s m (by rw [List.length_take]; omega) (by rw [List.length_take]; omega) hc.1 (by rw [List.length_take]; omega)
                  simp only [dkv, rkv] at e1 e2; rw [e3] at e2
                  repeat (first | refine wp_seq ?_ | refine wp_block ?_ | refine wp_skip ?_ | refine wp_exit ?_)
                  repeat (first | refine wp_seq ?_ | refine wp_block ?_)
                  refine v_draw 0 [3, 7] [4, 5, 6] (by kernel_rfl) (by kernel_rfl) H (by rfl) (fun gS H => ?_); try replace H := nt_DisksL H
                  repeat (refine v_someT 5 tab_ok hN H (by rfl) ct_DisksL ?_; clear H; intro a w H; replace H := nt_DisksL H; simp only [List.drop_succ_cons, List.drop_zero, List.drop_nil])
                  refine v_moreT tab_ok hN H (by rfl) ct_DisksL ?_; clear H; intro a w H; try replace H := nt_DisksL H
                  refine v_callT [0, 1] [] (e1) H (by rfl) (by rfl) rfl rfl (by rfl) (by simp [pickB, bxs, ren, idx?, List.idxOf_cons, sub_refl, sub, allP, cond_true, cond_false] <;> omega) (by first | rfl | (simp [cond_true, cond_false] <;> omega)) (by first | exact trivial | exact ⟨sub_refl _ _, trivial⟩ | exact ⟨sub_refl _ _, sub_refl _ _, trivial⟩ | exact ⟨sub_refl _ _, sub_refl _ _, sub_refl _ _, trivial⟩ | exact ⟨⟨rfl, sub_refl _ _, trivial⟩, sub_refl _ _, trivial⟩ | (simp [cargs, cargsG, St.ev, St.tmp, find, ren, idx?, sub_refl, sub, allP, resv, resC, bss, cond_true, cond_false] <;> omega)) ?_; clear H; intro a w H; try replace H := nt_DisksL H; first | (simp only [cond_true, cond_false] at H; replace H := nt_DisksL H) | skip
                  repeat (refine v_someT 5 tab_ok hN H (by rfl) ct_DisksL ?_; clear H; intro a w H; replace H := nt_DisksL H; simp only [List.drop_succ_cons, List.drop_zero, List.drop_nil])
                  refine v_moreT tab_ok hN H (by rfl) ct_DisksL ?_; clear H; intro a w H; try replace H := nt_DisksL H
                  refine v_callT [2] [] (e2) H (by rfl) (by rfl) rfl rfl (by rfl) cb cw ca ?_; clear H; intro a w H; try replace H := nt_DisksL H
                  repeat (refine v_someT 5 tab_ok hN H (by rfl) ct_DisksL ?_; clear H; intro a w H; replace H := nt_DisksL H; simp only [List.drop_succ_cons, List.drop_zero, List.drop_nil])
                  refine v_moreT tab_ok hN H (by rfl) ct_DisksL ?_; clear H; intro a w H; try replace H := nt_DisksL H
                  refine v_drawNil H (fun H => ?_)
                  refine key _ _ ⟨γ, s + m.toNat, s + m.toNat, l, ⟨by omega, by omega, by omega⟩, ?_⟩
                  replace H := H.keep [12, 10, 9, 7, 5, 4, 1] 4 0 ⟨Nat.le_trans hN (by decide), hR⟩ (by rfl) (by rfl)
                  replace H := nf_DisksL H
                  exact H.fzc (by rfl)
                · have hc' : m < 0 ∨ (n : Int) - (s : Int) < m := by omega
                  have e1 := dcrash_no γ n s m l hn2 hs hc'
                  have e2 := rcrash_no (l.take n) s m (by rw [List.length_take]; omega) (by rw [List.length_take]; omega) (by rw [hln]; exact hc')
                  simp only [dkv, rkv] at e1 e2
                  repeat (first | refine wp_seq ?_ | refine wp_block ?_ | refine wp_skip ?_ | refine wp_exit ?_)
                  repeat (first | refine wp_seq ?_ | refine wp_block ?_)
                  refine v_draw 0 [3, 7] [4, 5, 6] (by kernel_rfl) (by kernel_rfl) H (by rfl) (fun gS H => ?_); try replace H := nt_DisksL H
                  repeat (refine v_someT 5 tab_ok hN H (by rfl) ct_DisksL ?_; clear H; intro a w H; replace H := nt_DisksL H; simp only [List.drop_succ_cons, List.drop_zero, List.drop_nil])
                  refine v_moreT tab_ok hN H (by rfl) ct_DisksL ?_; clear H; intro a w H; try replace H := nt_DisksL H
                  refine v_callT [0, 1] [] (e1) H (by rfl) (by rfl) rfl rfl (by rfl) (by simp [pickB, bxs, ren, idx?, List.idxOf_cons, sub_refl, sub, allP, cond_true, cond_false] <;> omega) (by first | rfl | (simp [cond_true, cond_false] <;> omega)) (by first | exact trivial | exact ⟨sub_refl _ _, trivial⟩ | exact ⟨sub_refl _ _, sub_refl _ _, trivial⟩ | exact ⟨sub_refl _ _, sub_refl _ _, sub_refl _ _, trivial⟩ | exact ⟨⟨rfl, sub_refl _ _, trivial⟩, sub_refl _ _, trivial⟩ | (simp [cargs, cargsG, St.ev, St.tmp, find, ren, idx?, sub_refl, sub, allP, resv, resC, bss, cond_true, cond_false] <;> omega)) ?_; clear H; intro a w H; try replace H := nt_DisksL H; first | (simp only [cond_true, cond_false] at H; replace H := nt_DisksL H) | skip
                  repeat (refine v_someT 5 tab_ok hN H (by rfl) ct_DisksL ?_; clear H; intro a w H; replace H := nt_DisksL H; simp only [List.drop_succ_cons, List.drop_zero, List.drop_nil])
                  refine v_moreT tab_ok hN H (by rfl) ct_DisksL ?_; clear H; intro a w H; try replace H := nt_DisksL H
                  refine v_callT [2] [] (e2) H (by rfl) (by rfl) rfl rfl (by rfl) cb cw ca ?_; clear H; intro a w H; try replace H := nt_DisksL H
                  repeat (refine v_someT 5 tab_ok hN H (by rfl) ct_DisksL ?_; clear H; intro a w H; replace H := nt_DisksL H; simp only [List.drop_succ_cons, List.drop_zero, List.drop_nil])
                  refine v_moreT tab_ok hN H (by rfl) ct_DisksL ?_; clear H; intro a w H; try replace H := nt_DisksL H
                  refine v_drawNil H (fun H => ?_)
                  refine key _ _ ⟨γ, n, s, l, ⟨hn, hn2, hs⟩, ?_⟩
                  replace H := H.keep [12, 10, 9, 7, 5, 4, 1] 4 0 ⟨Nat.le_trans hN (by decide), hR⟩ (by rfl) (by rfl)
                  replace H := nf_DisksL H
                  exact H.fzc (by rfl)
              · refine wp_skip ?_
                refine key _ _ ⟨γ, n, s, l, ⟨hn, hn2, hs⟩, ?_⟩
                replace H := H.keep [12, 10, 9, 7, 5, 4, 1] 4 0 ⟨Nat.le_trans hN (by decide), hR⟩ (by rfl) (by rfl)
                replace H := nf_DisksL H
                exact H.fzc (by rfl)
      clear H
      rintro a w ⟨γ, n, s, l, ⟨hn, hn2, hs⟩, H⟩
      have hdk := disk_v γ n s l hn hn2
      simp only [scv, rkv, dkv] at hdk
      repeat (first | refine wp_seq ?_ | refine wp_block ?_ | refine wp_skip ?_ | refine wp_exit ?_)
      (try refine wp_region_lit ?_); refine v_steps 4 tab_ok hN H (by rfl) ct_DisksL ?_; clear H; intro a w H; replace H := nf_DisksL H
      refine v_callG [3, 2, 0, 1] [] (hdk) H (by rfl) rfl (by rfl) (by simp [pickB, bxs, ren, idx?, List.idxOf_cons, sub_refl, sub, allP, List.idxOf_cons] <;> omega) (by first | rfl | (simp [List.idxOf_cons] <;> omega)) (by first | exact trivial | exact ⟨sub_refl _ _, trivial⟩ | exact ⟨sub_refl _ _, sub_refl _ _, trivial⟩ | exact ⟨sub_refl _ _, sub_refl _ _, sub_refl _ _, trivial⟩ | exact ⟨⟨rfl, sub_refl _ _, trivial⟩, sub_refl _ _, trivial⟩ | (simp [cargs, cargsG, St.ev, St.tmp, find, ren, idx?, sub_refl, sub, allP, resv, resC, bss, List.idxOf_cons] <;> omega)) (by rfl) (by rfl) (by rfl) ?_; clear H; intro a w H; replace H := nf_DisksL H; first | (simp only [List.idxOf_cons] at H; replace H := nf_DisksL H) | skip; try refine wpList_nil ?_
      repeat (first | refine wp_seq ?_ | refine wp_block ?_ | refine wp_skip ?_ | refine wp_exit ?_ | ((first | refine v_some 5 tab_ok hN H (by rfl) ct_DisksL ?_ | refine v_more tab_ok hN H (by rfl) (by rfl) ct_DisksL ?_); clear H; intro a w H; replace H := nf_DisksL H; (try simp only [List.drop_succ_cons, List.drop_zero, List.drop_nil]); try refine wpList_nil ?_) | refine wp_region_lit ?_)
      refine v_cond H (by rfl) (fun hb => ?_) (fun hb => ?_)
      · simp at hb
      · clear hb
        repeat (first | refine wp_seq ?_ | refine wp_block ?_ | refine wp_skip ?_ | refine wp_exit ?_ | ((first | refine v_some 5 tab_ok hN H (by rfl) ct_DisksL ?_ | refine v_more tab_ok hN H (by rfl) (by rfl) ct_DisksL ?_); clear H; intro a w H; replace H := nf_DisksL H; (try simp only [List.drop_succ_cons, List.drop_zero, List.drop_nil]); try refine wpList_nil ?_) | refine wp_region_lit ?_)
        exact ⟨⟨k + 1, γ, n, s, l⟩, ⟨hlt, hn, hn2, hs⟩, by show xs.length - (k + 1) < xs.length - k; omega, H.to 4 0 ⟨Nat.le_trans hN (by decide), hR⟩ ⟨rfl, rfl, rfl, rfl, rfl, rfl, trivial⟩ rfl rfl rfl rfl rfl⟩
    · have hge : k = xs.length := by simp at hb; omega
      repeat (first | refine wp_seq ?_ | refine wp_block ?_ | refine wp_skip ?_ | refine wp_exit ?_ | ((first | refine v_some 5 tab_ok hN H (by rfl) ct_DisksL ?_ | refine v_more tab_ok hN H (by rfl) (by rfl) ct_DisksL ?_); clear H; intro a w H; replace H := nf_DisksL H; (try simp only [List.drop_succ_cons, List.drop_zero, List.drop_nil]); try refine wpList_nil ?_) | refine wp_region_lit ?_)
      refine wp_ret ?_
      exact v_end [] [] tab_ok ⟨hN, hR⟩ (rs := [.tmp 4]) (ress := [_]) rfl H (by rfl) (by rfl) cb cw ca rfl
end Go.Proofs.Ytpeefeioccglcaa
/- JournalDisks, of all arguments of its types. -/
namespace Go.Proofs.Ytpeefeioccglcaa
open Go Go.RowKit
theorem raw27_sh {x : AV} (h : Sh tab 1048576 3 178 x) : ∃ r : Rw27, x = r.av ∧ True := by
  obtain ⟨fs, rfl, hf⟩ := h.rcd rfl rfl
  obtain ⟨f0, r, rfl, h0, hf⟩ := shl_cons hf
  obtain ⟨f1, r, rfl, h1, hf⟩ := shl_cons hf
  obtain ⟨f2, r, rfl, h2, hf⟩ := shl_cons hf
  obtain rfl := shl_nil hf
  obtain ⟨k, rfl, _⟩ := h0.bytes rfl rfl rfl
  obtain ⟨g, rfl⟩ := h1.bool rfl rfl
  obtain ⟨v, rfl, _⟩ := h2.bytes rfl rfl rfl
  exact ⟨⟨k, g, v⟩, rfl, trivial⟩
theorem act27_sh {x : AV} (h : Sh tab 1048576 5 39 x) : ∃ r : Ac27, x = r.av ∧ r.key.length ≤ 34359738000 := by
  obtain ⟨fs, rfl, hf⟩ := h.rcd rfl rfl
  obtain ⟨f0, r, rfl, h0, hf⟩ := shl_cons hf
  obtain ⟨f1, r, rfl, h1, hf⟩ := shl_cons hf
  obtain ⟨f2, r, rfl, h2, hf⟩ := shl_cons hf
  obtain ⟨f3, r, rfl, h3, hf⟩ := shl_cons hf
  obtain rfl := shl_nil hf
  obtain ⟨k, rfl, _⟩ := h0.int rfl rfl
  obtain ⟨n, rfl, _⟩ := h1.int rfl rfl
  obtain ⟨l, rfl, hl⟩ := h2.bytes rfl rfl rfl
  obtain ⟨es, rfl, _, he⟩ := h3.slc rfl rfl rfl
  obtain ⟨ys, rfl, _⟩ := sh_list (q := fun _ : Rw27 => True) (f := Rw27.av) (fun x hx => raw27_sh hx) he
  exact ⟨⟨k, n, l, ys⟩, rfl, Nat.le_trans hl (by decide)⟩
theorem journalDisks_az (az : List AV) (h : ShL (Sh tab 1048576 6) [22, 23] az) : VC Try.prog 3 az [] (.v (.bool true)) := by
  obtain ⟨a0, r, rfl, h0, h⟩ := shl_cons h
  obtain ⟨a1, r, rfl, h1, h⟩ := shl_cons h
  obtain rfl := shl_nil h
  obtain ⟨l, rfl, hl⟩ := h0.bytes rfl rfl rfl
  obtain ⟨es, rfl, hn, he⟩ := h1.slc rfl rfl rfl
  obtain ⟨ys, rfl, hy⟩ := sh_list (q := fun r : Ac27 => r.key.length ≤ 34359738000) (f := Ac27.av) (fun x hx => act27_sh hx) he
  exact journalDisks_v l ys hy (by rw [List.length_map] at hn; omega) (by omega)
end Go.Proofs.Ytpeefeioccglcaa
