/- What grows, lent to a call that only reads it. -/
import Derived.Test.YthphhnkoilcofaaRShaZ
import Derived.Test.YthphhnkoilcofaaOpen
import Derived.Lib.SliceRun
import Derived.Shelf.SlicesE.Reverse
set_option linter.unusedSimpArgs false
set_option linter.unusedVariables false
namespace Go.Proofs.Ythphhnkoilcofaa
open Go Go.RowKit
/-- A value seen by whoever only reads. -/
def lend (bx : List (Ty × AV)) : Nat → AV → AV → Prop
  | _, .vw i γ n, .bs l none => ∃ e l0, bx[i]? = some (.vc e .sc, .vb γ l0) ∧ n ≤ l0.length ∧ l = l0.take n
  | _, .vw i γ n, .sl T es none => ∃ e es0, bx[i]? = some (.vc e T, .vc γ es0) ∧ n ≤ es0.length ∧ es = es0.take n
  | d + 1, .st fs, .st fs' => allP (lend bx d) fs fs'
  | _, a, b => sub 4 a b ∧ pure_ 4 b = true ∧ strip 4 b = b
def flat : Nat → AV → Bool
  | _, .v _ => true
  | _, .ba _ => true
  | d + 1, .st fs => fs.all (flat d)
  | d + 1, .tup fs => fs.all (flat d)
  | _, _ => false
section
variable {P : Program} {τ : Tab} {w0 w : World} {N : Gh} {g gS : Gh} {st st' sq sq' : St} {nt : Nat} {a : Act}
theorem base_allOf (h : Mem g w) : g.base.le (allOf w) := ⟨fun b o u hu => h.ro b o u hu, fun i x hx => by simp [Gh.base] at hx, fun i r hr => by simp [Gh.base] at hr⟩
theorem lend_rc (HI : Inv P w0 N g st.bx st.fz st.rw w) : ∀ {d : Nat} {T : Ty} {x y : AV} {cs : List Value}, RC g T x cs → lend st.bx d x y → RC (allOf w) T y cs := by
  have hbase := base_allOf HI.mem
  have leaf : ∀ {T : Ty} {x y : AV} {cs : List Value}, RC g T x cs → (sub 4 x y ∧ pure_ 4 y = true ∧ strip 4 y = y) → RC (allOf w) T y cs := fun h hl => by
    have := ((h.sub_ hl.1).strip_ hl.2.1).mono hbase
    rw [hl.2.2] at this
    exact this
  have vb : ∀ {T : Ty} {i γ n : Nat} {l : List UInt8} {cs : List Value}, RC g T (.vw i γ n) cs → (∃ e l0, st.bx[i]? = some (.vc e .sc, .vb γ l0) ∧ n ≤ l0.length ∧ l = l0.take n) → RC (allOf w) T (.bs l none) cs := by
    rintro T i γ n l cs h ⟨e, l0, hb, hn, rfl⟩
    obtain ⟨rfl, y, e3, T3, A, c, rfl, hy, hty, hle, hnc, hm, hxx⟩ := h.vw_inv
    obtain ⟨y', hy', hyT, hbc⟩ := HI.br.at_ i _ _ hb
    rw [hy] at hy'; injection hy' with hy'; subst hy'
    obtain ⟨l2, ⟨e4, he4, htid⟩, hmp, hgen, hcm, hcs, hcl⟩ := hbc.vb_inv
    obtain ⟨hcc, hA⟩ := hxx hgen
    have htl : (l0.take n).length = n := by rw [List.length_take]; omega
    have := RC.bs (g := allOf w) (l := l0.take n) (tok := none) (A := A) (c := c) (by omega) hm ?_ (fun i hi => by cases hi)
    · rw [htl] at this; exact this
    · rcases hA with ⟨ho, rfl⟩ | ⟨ho, rfl⟩
      · left
        have := hcm.2 ho
        exact List.length_eq_zero_iff.1 (by omega)
      · right
        refine ⟨y.blk, 0, rfl, fun j hj => ?_⟩
        have hblk := (HI.mem.bx i y hy ho).c hmp
        show w.cell? _ = _
        rw [hblk.cell, List.getElem?_toArray, hcs, Nat.zero_add, List.getElem?_map, List.getElem?_append_left (by omega), List.getElem?_eq_getElem (by omega)]
        simp
  have vc : ∀ {T T' : Ty} {i γ n : Nat} {es : List AV} {cs : List Value}, RC g T (.vw i γ n) cs → (∃ e es0, st.bx[i]? = some (.vc e T', .vc γ es0) ∧ n ≤ es0.length ∧ es = es0.take n) → RC (allOf w) T (.sl T' es none) cs := by
    rintro T T' i γ n es cs h ⟨e, es0, hb, hn, rfl⟩
    obtain ⟨rfl, y, e3, T3, A, c, rfl, hy, hty, hle, hnc, hm, hxx⟩ := h.vw_inv
    obtain ⟨y', hy', hyT, hbc⟩ := HI.br.at_ i _ _ hb
    rw [hy] at hy'; injection hy' with hy'; subst hy'
    obtain ⟨T2, F, sp, ⟨e2, he2, htid⟩, hmp, hgen, h0, hcm, hcs, hcl, hsp, hFk⟩ := hbc.vc_inv
    injection he2 with he20 he2; subst he20 he2
    obtain ⟨hcc, hA⟩ := hxx hgen
    have htl : (es0.take n).length = n := by rw [List.length_take]; omega
    have := RC.sl (g := allOf w) (T := T') (es := es0.take n) (tok := none) (A := A) (c := c) (by omega) hm F ?_ (fun k hk => by
      rw [List.getElem_take]
      exact ((hFk k (by omega)).mono hbase).mono ⟨fun _ _ _ h => h, fun i x hx => by simp [allOf] at hx, fun i r hr => by simp [allOf] at hr⟩) (fun i hi => by cases hi)
    · rw [htl] at this; exact this
    · rcases hA with ⟨ho, rfl⟩ | ⟨ho, rfl⟩
      · left
        have := hcm.2 ho
        exact List.length_eq_zero_iff.1 (by omega)
      · right
        refine ⟨y.blk, 0, rfl, fun k hk j u hu => ?_⟩
        have hblk := (HI.mem.bx i y hy ho).c hmp
        show w.cell? _ = _
        rw [hblk.cell, List.getElem?_toArray, hcs, Nat.zero_add]
        exact flat_at hFk (by omega) hu
  intro d
  induction d with
  | zero =>
    intro T x y cs h hl
    unfold lend at hl
    split at hl
    · exact vb h hl
    · exact vc h hl
    · rename_i heq; exact absurd heq (by simp)
    · exact leaf h hl
  | succ d ih =>
    have key : ∀ {T : Ty} {cs : List Value} {fs fs' : List AV}, RC g T (.st fs) cs → allP (lend st.bx d) fs fs' → RC (allOf w) T (.st fs') cs := by
      intro T
      induction T with
      | cn T Ts _ ihs =>
        intro cs fs fs' h hp
        cases h with
        | cn h hs =>
          cases fs' with
          | nil => exact hp.elim
          | cons b m => exact .cn (ih h hp.1) (ihs hs hp.2)
      | nl => intro cs fs fs' h hp; cases h; cases fs' with | nil => exact .nl | cons b m => exact hp.elim
      | _ => intro cs fs fs' h hp; cases h
    intro T x y cs h hl
    unfold lend at hl
    split at hl
    · exact vb h hl
    · exact vc h hl
    · rename_i heq; cases heq; exact key h hl
    · exact leaf h hl
theorem lend_rv (HI : Inv P w0 N g st.bx st.fz st.rw w) {d : Nat} {x y : AV} {v : Value} (h : RV g x v) (hx : isAny x = false) (ht : ∀ az, x ≠ .tup az) (hl : lend st.bx d x y) : RV (allOf w) y v := by
  rcases h.rv1 hx ht with ⟨T, cs, h1, h2, h3⟩ | h
  · exact (show RV1 (allOf w) y v from .inl ⟨T, cs, h1, lend_rc HI h2 hl, h3⟩).rv
  · exact (show RV1 (allOf w) y v from .inr (lend_rc HI h hl)).rv
theorem RC.flat_ {g g' : Gh} : ∀ {d : Nat} {T : Ty} {x : AV} {cs : List Value}, RC g T x cs → flat d x = true → RC g' T x cs := by
  intro d
  induction d with
  | zero => intro T x cs h hp; cases h <;> first | exact .v ‹_› | exact .ba ‹_› | (simp [flat] at hp)
  | succ d ih =>
    have key : ∀ {T : Ty} {cs : List Value} {fs : List AV}, RC g T (.st fs) cs → fs.all (flat d) = true → RC g' T (.st fs) cs := by
      intro T
      induction T with
      | cn T Ts _ ihs =>
        intro cs fs h hp
        cases h with
        | cn h hs =>
          simp only [List.all_cons, Bool.and_eq_true] at hp
          exact .cn (ih h hp.1) (ihs hs hp.2)
      | nl => intro cs fs h hp; cases h; exact .nl
      | _ => intro cs fs h hp; cases h
    intro T x cs h hp
    cases h with
    | v h => exact .v h
    | ba h => exact .ba h
    | nl => exact .nl
    | cn h hs => exact key (.cn h hs) hp
    | _ => simp [flat] at hp
theorem RV1.flat_ {g g' : Gh} {d : Nat} {x : AV} {v : Value} (h : RV1 g x v) (hp : flat d x = true) : RV1 g' x v := by
  rcases h with ⟨T, cs, h1, h2, h3⟩ | h
  · exact .inl ⟨T, cs, h1, h2.flat_ hp, h3⟩
  · exact .inr (h.flat_ hp)
theorem RV.flat_ {g g' : Gh} {d : Nat} {x : AV} {v : Value} (h : RV g x v) (hp : flat (d + 1) x = true) : RV g' x v := by
  cases x with
  | any => trivial
  | tup az =>
    obtain ⟨vs, h1, h2, h3⟩ := h
    simp only [flat, List.all_eq_true] at hp
    exact ⟨vs, h1, h2, fun i a u ha hu => (h3 i a u ha hu).flat_ (hp a (List.mem_of_getElem? ha))⟩
  | _ => exact RV1.flat_ (d := d + 1) h hp
theorem lend_args (HI : Inv P w0 N g st.bx st.fz st.rw w) (hF : FR g nt st a) {c : Gd} (hg : gholds a c) {xs : List Operand} {args : List AV} (hx : xs.all (fun x => !isAny (st.ev c x) && (match st.ev c x with | .tup _ => false | _ => true)) = true) (ha : allP (lend st.bx 3) (xs.map (st.ev c)) args) :
    args.length = xs.length ∧ ∀ (i : Nat) x v, args[i]? = some x → (xs.map a.eval)[i]? = some v → RV (allOf w) x v := by
  obtain ⟨h1, h2⟩ := allP_get ha
  refine ⟨by rw [← h1, List.length_map], fun i x v hi hv => ?_⟩
  obtain ⟨y, hy, hl⟩ := h2 i x hi
  rw [List.getElem?_map] at hy hv
  obtain ⟨o, ho, rfl⟩ := Option.map_eq_some_iff.1 hy
  obtain ⟨o', ho', rfl⟩ := Option.map_eq_some_iff.1 hv
  rw [ho] at ho'; injection ho' with ho'; subst ho'
  have := List.all_eq_true.1 hx o (List.mem_of_getElem? ho)
  simp only [Bool.and_eq_true, Bool.not_eq_true'] at this
  exact lend_rv HI (ev_sound hF hg o) this.1 (fun az e => by have h := this.2; rw [e] at h; cases h) hl
theorem read_call (HI : Inv P w0 N g st.bx st.fz st.rw w) {g1 : Gh} {w' : World} (h : Inv P w (allOf w) g1 [] [] [] w') : Inv P w0 N g st.bx st.fz st.rw w' := by
  have hk := h.fr.kept
  have hno : ∀ k, ¬ (allOf w).has k := fun k hh => by
    rcases hh with ⟨y, hy, _⟩ | ⟨r, hr, _⟩
    · simp [allOf] at hy
    · simp [allOf] at hr
  exact HI.keep (fun k hk' => hk.block k hk' (hno k)) hk.size hk.os hk.tape hk.output
/-- A call that only reads what is lent to it. -/
theorem v_callR {ops : Array Oper} {Q : Exit → Act → World → Prop} {rest : List Oper} {o : Oper} {f : FuncId} {xs : List Operand} {ats : Array TypeId} {args : List AV} {res : AV}
    (hc : VC P f args [] res) (H : Rel P w0 N nt st a w) (hgd : o.guard = none) (ho : o.op = .call ⟨.value (.func f), xs.toArray, ats⟩)
    (hx : (xs.all (fun x => !isAny (st.ev none x) && (match st.ev none x with | .tup _ => false | _ => true)) && okDst nt none o.dst && flat 4 res) = true) (ha : allP (lend st.bx 3) (xs.map (st.ev none)) args)
    (k : ∀ a w, Rel P w0 N nt (st.put o.dst none res) a w → wpList P ops Q rest a w) : wpList P ops Q (o :: rest) a w := by
  obtain ⟨hfok, hcall⟩ := hc
  obtain ⟨g, HI, hF⟩ := H
  simp only [Bool.and_eq_true] at hx
  obtain ⟨⟨x1, x2⟩, x3⟩ := hx
  obtain ⟨h1, h2⟩ := lend_args HI hF (c := none) trivial x1 ha
  refine wpList_plain hgd fun K hK => ?_
  unfold Oper.wp
  rw [run_callF hfok xs ats ho w, Oper.upon_enter]
  refine (hcall w (allOf w) (xs.map a.eval) (allOf_inv P w) (by simp [h1]) h2).mono fun e w' hp => ?_
  obtain ⟨g1, v, rfl, HI1, hv⟩ := hp
  refine hK _ _ (k _ _ ⟨g, ?_, hF.put x2 (fun _ => hv.flat_ (d := 3) x3) rfl (fun h => absurd trivial h)⟩)
  have := read_call HI HI1
  cases o.dst <;> exact this
/-- What was known under a guard that is known to hold, is known. -/
def gdEq (t : Nat) : Bool → Gd → Bool
  | true, some (k, true) => k == t
  | false, some (k, false) => k == t
  | _, _ => false
theorem gdEq_ok {t : Nat} {b : Bool} {c : Gd} (h : gdEq t b c = true) : c = some (t, b) := by
  unfold gdEq at h
  split at h
  · rw [beq_iff_eq.1 h]
  · rw [beq_iff_eq.1 h]
  · cases h
def unG (t : Nat) (b : Bool) : List (Nat × Gd × AV) → List (Nat × Gd × AV)
  | [] => []
  | (k, c, x) :: l => (k, bif gdEq t b c then none else c, x) :: unG t b l
theorem unG_mem {t : Nat} {b : Bool} {p : Nat × Gd × AV} : ∀ {l : List (Nat × Gd × AV)}, p ∈ unG t b l → ∃ q ∈ l, p = (q.1, bif gdEq t b q.2.1 then none else q.2.1, q.2.2)
  | (k, c, x) :: l, h => by
    rcases List.mem_cons.1 h with h | h
    · exact ⟨_, List.mem_cons_self, h⟩
    · obtain ⟨q, hq, e⟩ := unG_mem h
      exact ⟨q, List.mem_cons_of_mem _ hq, e⟩
theorem FR.unG (hF : FR g nt st a) {t : Nat} {b : Bool} (h : a.tmps.getD t undef = .bool b) : FR g nt ⟨unG t b st.t, st.bx, st.fz, st.rw⟩ a := by
  refine ⟨hF.sz, hF.df, fun p hp hg => ?_, fun p hp hg => ?_⟩
  · obtain ⟨q, hq, rfl⟩ := unG_mem hp
    cases e : gdEq t b q.2.1 with
    | true => exact hF.t q hq (by rw [gdEq_ok e]; exact h)
    | false => exact hF.t q hq (by simpa [e] using hg)
  · obtain ⟨q, hq, rfl⟩ := unG_mem hp
    cases e : gdEq t b q.2.1 with
    | true => exact absurd (by rw [e]; exact trivial) hg
    | false => exact hF.u q hq (by simpa [e] using hg)
theorem v_known (H : Rel P w0 N nt st a w) (t : Nat) (b : Bool) (hk : st.tmp none t = .v (.bool b)) : Rel P w0 N nt ⟨unG t b st.t, st.bx, st.fz, st.rw⟩ a w := by
  obtain ⟨g, HI, hF⟩ := H
  have h1 := tmp_sound hF (c := none) trivial t
  rw [hk] at h1
  exact ⟨g, HI, hF.unG h1.v_inv⟩
theorem v_knownT (H : RelT P w0 N nt gS sq st a w) (t : Nat) (b : Bool) (hk : st.tmp none t = .v (.bool b)) : RelT P w0 N nt gS sq ⟨unG t b st.t, st.bx, st.fz, st.rw⟩ a w := by
  obtain ⟨hM, hrw, hFq, hBq, g, HI, hF, hle, hbs⟩ := H
  have h1 := tmp_sound hF (c := none) trivial t
  rw [hk] at h1
  exact ⟨hM, hrw, hFq, hBq, g, HI, hF.unG h1.v_inv, hle, hbs⟩
/-- A guard that is known to hold, in a region that draws. -/
theorem v_guardT {ops : Array Oper} {Q : Exit → Act → World → Prop} {L A : List Nat} {i : Nat} {rest : List Oper} {o : Oper} {t : Nat} {b : Bool} (H : RelT P w0 N nt gS sq st a w) (hL : L.contains i = true) (hgd : gdOf ops o = some (some (t, b))) (hk : st.tmp none t = .v (.bool b))
    (h : wpT P ops Q (Mem gS) L A ({ o with guard := none } :: rest) i a w) : wpT P ops Q (Mem gS) L A (o :: rest) i a w := by
  obtain ⟨hM, hrw, hFq, hBq, g, HI, hF, hle, hbs⟩ := H
  have h1 := tmp_sound hF (c := none) trivial t
  rw [hk] at h1
  have hw : Region.wanted o (yielded ops a.tmps) = true := (gdOf_wanted hgd).2 h1.v_inv
  obtain ⟨dst, op, ty, pos, after, gd⟩ := o
  unfold wpT at h ⊢
  rw [if_pos hw, if_pos hL]
  rw [if_pos (by simp [Region.wanted]), if_pos hL] at h
  exact h
end
section
variable {P : Program} {τ : Tab} {w0 w : World} {N : Gh} {g gS : Gh} {st st' sq sq' : St} {nt : Nat} {a : Act} {r : AV} {cd : Prop}
end
end Go.Proofs.Ythphhnkoilcofaa
/- slices.Clone of entries, in values. -/
namespace Go.Proofs.Ythphhnkoilcofaa
open Go Go.RowKit
section
variable {P : Program} {τ : Tab} {w0 w : World} {N : Gh} {g : Gh} {st : St} {nt : Nat} {a : Act}
/-- A slice of no elements, laid out: it may grow. -/
theorem v_mk0 {ops : Array Oper} {Q : Exit → Act → World → Prop} {rest : List Oper} {o : Oper} {t e : Nat} {i j : TI} (hτ : τ.ok P) (hi : Tab.get t τ = some i) (hid : i.d = .slc e) (hj : Tab.get e τ = some j) (hs : 0 < j.ty.size) (H : Rel P w0 N nt st a w)
    (k : ∀ a w, Rel P w0 N nt ((⟨st.t, st.bx ++ [(.vc e j.ty, .vc 0 [])], st.fz, st.rw⟩ : St).put o.dst none (.vw st.bx.length 0 0)) a w → wpList P ops Q rest a w) (hgd : o.guard = none := by rfl) (ho : o.op = .buildSlice t 0 #[] := by rfl) (hd : okDst nt none o.dst = true := by rfl) : wpList P ops Q (o :: rest) a w := by
  obtain ⟨g, HI, hF⟩ := H
  have hok := Tab.get_ok hτ hi
  have hdd := hok.d
  rw [hid] at hdd
  have hjok := Tab.get_ok hτ hj
  obtain ⟨g', l1, I1, h1⟩ := HI.boxG (x := ⟨w.heap.size, e, .vc e j.ty, [], false, 0, 0, false, none⟩) (a := .vc 0 []) (w' := w.alloc (.cells #[] e)) rfl (grown_alloc w _) (fun _ => ⟨rfl, .of rfl (Blk.new w e #[])⟩) (fun e => by cases e) (fun e => by cases e)
    (.inr (.inl ⟨j.ty, 0, [], fun _ => [], [], ⟨_, rfl, rfl⟩, rfl, rfl, rfl, hs, ⟨Nat.zero_le _, fun _ => rfl⟩, rfl, (by show 0 = 0 * _; rw [Nat.zero_mul]), fun u hu => (by cases hu), fun k hk => absurd hk (by simp)⟩))
  refine wpList_plain hgd fun K hK => ?_
  unfold Oper.wp
  have he : (execOp a.eval o).run P w = .ok (.value (.slice (some ⟨w.heap.size, 0, none⟩) 0 0)) (w.alloc (.cells #[] e)) := by
    obtain ⟨dst, op, ty, pos, after, gd⟩ := o
    dsimp only at ho
    subst ho
    simp [execOp, Instr.buildSlice, run_underlying (show P.underlying t = _ from hdd), hjok.sizeOf w, Instr.fill, newRow]
    rw [show (Array.map (fun _ : Nat => (default : Value)) (Array.range 0)) = #[] from Array.eq_empty_of_size_eq_zero (by simp)]
  rw [he, Oper.upon_value]
  refine hK _ _ (k _ _ ⟨g', ?_, (hF.mono l1.1).put hd (fun _ => (RC.vw h1 rfl (Nat.le_refl _) (Nat.le_refl _) (Nat.zero_le _) fun _ => ⟨rfl, .inr ⟨rfl, rfl⟩⟩).rv1) rfl (fun h => absurd trivial h)⟩)
  cases o.dst <;> exact I1
/-- Is a slice that stays as it is nil? -/
theorem v_isNil {ops : Array Oper} {Q : Exit → Act → World → Prop} {rest : List Oper} {o : Oper} {t e q : Nat} {x : Operand} {T : Ty} {es : List AV} (H : Rel P w0 N nt st a w) (ht : P.underlying t = some (.slice e))
    (k : ∀ b : Bool, (es ≠ [] → b = false) → ∀ a w, Rel P w0 N nt (st.put o.dst none (.v (.bool b))) a w → wpList P ops Q rest a w) (hgd : o.guard = none := by rfl) (ho : o.op = .binOp .eql t x (.const (.slice none 0 0)) q := by rfl) (hd : okDst nt none o.dst = true := by rfl) (hx : st.ev none x = .sl T es none := by rfl) : wpList P ops Q (o :: rest) a w := by
  obtain ⟨g, HI, hF⟩ := H
  have ex := ev_sound hF (c := none) trivial x
  rw [hx] at ex
  obtain ⟨_, A, c, F, e1, _, _, hr, _⟩ := ex.sl_inv.sl_inv
  injection e1 with e1
  refine wpList_plain hgd fun K hK => ?_
  unfold Oper.wp
  have he : (execOp a.eval o).run P w = .ok (.value (.bool A.isNone)) w := by
    obtain ⟨dst, op, ty, pos, after, gd⟩ := o
    dsimp only at ho
    subst ho
    have hg : (eqGuard .eql t x (.const (.slice none 0 0)) (.slice A es.length c) (.slice none 0 0)).run P w = .ok () w := by simp [eqGuard]
    have hb := Lib.run_eql_slice_nil w t e A es.length c 0 0 ht
    have ev0 : a.eval (.const (.slice none 0 0)) = .slice none 0 0 := rfl
    simp only [execOp, ev0, e1, Sem.run_bind, hg, Result.andThen_ok, hb, Sem.run_pure]
  rw [he, Oper.upon_value]
  refine hK _ _ (k A.isNone (fun hne => ?_) _ _ ⟨g, ?_, hF.put hd (fun _ => RV.v_of rfl) rfl (fun h => absurd trivial h)⟩)
  · rcases hr with h | ⟨b, o, hA, _⟩
    · exact absurd h hne
    · rw [hA]; rfl
  · cases o.dst <;> exact HI
end
theorem clone_v (l : List Pr) (hl : l ≠ []) (hn : l.length ≤ 34359738000) : VX Try.prog 132 [] [] [] [.sl prT (l.map prA) none] [(.vc 62 prT, .vc 1 (l.map prA))] [] [] (.vw 0 1 l.length) := by
  have hlm : (l.map prA).length = l.length := List.length_map ..
  have hne : l.map prA ≠ [] := fun h => hl (by simpa using h)
  refine mE Try.func132 ?_; intro N w0 a w hN hR H
  refine mW ?_; clear H; intro a w H
  refine v_isNil H Try.underlying57 ?_; clear H; intro b hb0 a w H
  have hbf := hb0 hne
  subst hbf
  replace H := nf H
  try refine wpList_nil ?_
  refine mW ?_; clear H; intro a w H
  refine mC H (fun hb => ?_) (fun hb => ?_)
  · cases hb
  · refine mS ?_
    (try refine wp_region_lit ?_)
    refine v_mk0 tab_ok (i := ti57) (j := ti62) rfl rfl rfl (by decide) H ?_; clear H; intro a w H
    replace H := nf H
    have hX := @hlm
    refine mW ?_; clear H; intro a w H
    refine wp_ret ?_; exact mEnd [0] [] [.tmp 2] [_] hN hR H
theorem clone0_v : VC Try.prog 132 [.sl prT [] none] [] (.sl prT [] none) := by
  refine mE Try.func132 ?_; intro N w0 a w hN hR H
  refine mW ?_; clear H; intro a w H
  refine v_isNil H Try.underlying57 ?_; clear H; intro b hb0 a w H
  clear hb0
  replace H := nf H
  try refine wpList_nil ?_
  refine mW ?_; clear H; intro a w H
  cases b with
  | true =>
    refine mC H (fun hb => ?_) (fun hb => ?_)
    · refine mW ?_; clear H; intro a w H
      refine wp_ret ?_; exact mEnd [] [] [.tmp 2] [_] hN hR H
    · cases hb
  | false =>
    refine mC H (fun hb => ?_) (fun hb => ?_)
    · cases hb
    · refine mS ?_
      (try refine wp_region_lit ?_)
      refine v_mk0 tab_ok (i := ti57) (j := ti62) rfl rfl rfl (by decide) H ?_; clear H; intro a w H
      replace H := nf H
      refine mW ?_; clear H; intro a w H
      have H := v_frz H 2 0 (Nat.le_trans hN (by decide)) rfl (by decide) rfl
      replace H := nf H
      refine wp_ret ?_; exact mEnd [] [] [.tmp 2] [_] hN hR H
theorem sort0_v : VC Try.prog 133 [.sl prT [] none, .v (.func (.func 134) #[] #[])] [] (.tup []) := by
  refine VC.ofA ⟨_, Try.func133, by kernel_rfl, by kernel_rfl⟩ fun w N vs hM hl hv => ?_
  obtain ⟨u, v, rfl, h1, h2⟩ := two (args := []) hl hv
  obtain ⟨_, A, c, F, e1, _⟩ := h1.sl_inv.sl_inv
  injection e1 with e1
  subst e1
  refine (AnyF.slices_SortFunc_none srtL A c _ w).mono ?_
  rintro e w' ⟨rfl, rfl⟩
  exact ⟨_, rfl, Below.refl _ _, ⟨[], rfl, rfl, fun i a u ha _ => by simp at ha⟩⟩
end Go.Proofs.Ythphhnkoilcofaa
/- node.sorted: entries by rising key, or why they may not be. -/
namespace Go.Proofs.Ythphhnkoilcofaa
open Go Go.RowKit
def chkP : List (List UInt8) → List Pr → Nat
  | _, [] => 0
  | ks, p :: l => if 1024 < p.2.length then 4 else if p.1 ∈ ks then 6 else chkP (ks ++ [p.1]) l
def errP (l : List Pr) : Nat := if 4096 < l.length then 4 else chkP [] l
def keysP (l : List Pr) : List (List UInt8) := l.map (·.1)
theorem chkP_dis : ∀ (ks : List (List UInt8)) (l : List Pr), chkP ks l = 0 → Dis l ∧ ∀ x ∈ l, x.1 ∉ ks
  | _, [], _ => ⟨List.Pairwise.nil, fun x hx => by cases hx⟩
  | ks, p :: l, h => by
    unfold chkP at h
    split at h
    · cases h
    · split at h
      · cases h
      · rename_i hn
        obtain ⟨h1, h2⟩ := chkP_dis _ l h
        refine ⟨List.pairwise_cons.2 ⟨fun y hy e => h2 y hy (by simp [e]), h1⟩, fun x hx => ?_⟩
        rcases List.mem_cons.1 hx with rfl | hx
        · exact hn
        · exact fun hm => h2 x hx (List.mem_append_left _ hm)
theorem chkP_cons (ks : List (List UInt8)) (l : List Pr) (k : Nat) (h : k < l.length) : chkP ks (l.drop k) = if 1024 < l[k].2.length then 4 else if l[k].1 ∈ ks then 6 else chkP (ks ++ [l[k].1]) (l.drop (k + 1)) := by
  rw [List.drop_eq_getElem_cons h]; rfl
def resP (l : List Pr) : AV := if errP l = 0 then .tup [.sl prT ((srt l).map prA) none, .v (.int .i64 0)] else .tup [.sl prT [] none, .v (.int .i64 (errP l : Int))]
theorem ktP : KT Try.prog 37 32 := KT.of Try.underlying37 Try.underlying5 (by kernel_rfl) (by kernel_rfl) (by kernel_rfl) (by kernel_rfl) (by kernel_rfl) (by decide +kernel)
theorem prA_get (l : List Pr) (k : Nat) (h : k < l.length) : (l.map prA).getD k .any = .st [.ba l[k].1, .bs l[k].2 none] := by simp [prA, List.getD_eq_getElem?_getD, h]
set_option maxRecDepth 20000 in
set_option maxHeartbeats 1000000 in
theorem sorted_v (l : List Pr) (hk : K32 l) (hl : l.length ≤ 34359738000) : VC Try.prog 88 [.sl prT (l.map prA) none] [] (resP l) := by
  have hlm : (l.map prA).length = l.length := List.length_map ..
  refine mE Try.func88 ?_; intro N w0 a w hN hR H
  have hX := @hlm
  refine mW ?_; clear H; intro a w H
  refine mC H (fun hb => ?_) (fun hb => ?_)
  · have he : errP l = 4 := by unfold errP; rw [if_pos (by simp at hb; omega)]
    have hr : resP l = .tup [.sl prT [] none, .v (.int .i64 4)] := by unfold resP; rw [he]; rfl
    rw [hr]
    refine mW ?_; clear H; intro a w H
    refine wp_ret ?_; exact mEnd [] [] [.tmp 2, .tmp 3] [_, _] hN hR H
  · have hle : l.length ≤ 4096 := by simp at hb; omega
    have he : errP l = chkP [] l := by unfold errP; rw [if_neg (by omega)]
    clear hb
    replace H := mK [0, 2, 3] 0 0 hN hR H
    refine mS ?_
    (try refine wp_region_lit ?_)
    refine v_mkMap (.ba 32) .sc H ?_; clear H; intro a w H
    replace H := nf H
    refine mW ?_; clear H; intro a w H
    refine v_loop (fun k : Nat => ⟨[(14, none, .v (.int .i64 (k : Int))), (13, none, .v (.int .i64 (l.length : Int))), (12, none, .sl prT (l.map prA) none), (4, none, .mr 0), (3, none, .v (.int .i64 0)), (2, none, .v (.slice none 0 0)), (0, none, .sl prT (l.map prA) none)],
      [(.mp (.ba 32) .sc, .mp ((keysP (l.take k)).map .ba) (List.replicate k (.v (.bool true))))], [], []⟩) (fun k => k ≤ l.length ∧ chkP (keysP (l.take k)) (l.drop k) = chkP [] l) (fun k => l.length - k) 0 ⟨Nat.zero_le _, rfl⟩ (H.to 1 0 ⟨Nat.le_trans hN (by decide), hR⟩ ⟨rfl, rfl, rfl, rfl, rfl, rfl, rfl, trivial⟩ rfl rfl rfl rfl rfl) ?_
    clear H
    rintro k a w ⟨hk1, hk2⟩ H
    refine mW ?_; clear H; intro a w H
    refine mC H (fun hb => ?_) (fun hb => ?_)
    · have hlt : k < l.length := by simpa using hb
      clear hb
      have hg := prA_get l k hlt
      have hp32 := hk _ (List.getElem_mem hlt)
      have hstep := chkP_cons (keysP (l.take k)) l k hlt
      rw [hk2] at hstep
      have htk : keysP (l.take (k + 1)) = keysP (l.take k) ++ [l[k].1] := by unfold keysP; rw [List.take_succ_eq_append_getElem hlt, List.map_append]; rfl
      obtain ⟨p, hpp⟩ : ∃ p, p = l[k] := ⟨_, rfl⟩
      rw [← hpp] at hg hp32 hstep htk
      obtain ⟨kb, vb⟩ := p
      dsimp only at hg hp32 hstep htk
      refine mS ?_
      clear hX; have hX := And.intro @hlm (@hg)
      (try refine wp_region_lit ?_); refine mN 3 hN H ?_; clear H; intro a w H
      refine mW ?_; clear H; intro a w H
      refine mC H (fun hb => ?_) (fun hb => ?_)
      · have hv : 1024 < vb.length := by simp at hb; omega
        have he4 : errP l = 4 := by rw [he, hstep, if_pos hv]
        have hr : resP l = .tup [.sl prT [] none, .v (.int .i64 4)] := by unfold resP; rw [he4]; rfl
        rw [hr]
        refine mW ?_; clear H; intro a w H
        refine wp_ret ?_; exact mEnd [] [] [.tmp 2, .tmp 3] [_, _] hN hR H
      · have hv : ¬ 1024 < vb.length := by simp at hb; omega
        clear hb
        rw [if_neg hv] at hstep
        refine mS ?_
        (try refine wp_region_lit ?_); refine mN 3 hN H ?_; clear H; intro a w H
        refine v_look ktP H Try.underlying205 Try.zeroValue4 (z := .v (.bool false)) (fun g => RV.v_of rfl) hp32 ?_ ?_
        · intro hnm
          clear H; intro a w H
          replace H := nf H
          rw [if_neg hnm] at hstep
          refine mW ?_; clear H; intro a w H
          refine mC H (fun hb => ?_) (fun hb => ?_)
          · cases hb
          · refine mS ?_
            (try refine wp_region_lit ?_); refine mN 3 hN H ?_; clear H; intro a w H
            refine v_mapNew ktP H Try.underlying205 hp32 hnm ?_; clear H; intro a w H
            replace H := nf H
            try refine wpList_nil ?_
            refine mW ?_; clear H; intro a w H
            exact ⟨k + 1, ⟨hlt, by rw [htk, ← hstep]⟩, by omega, H.to 1 0 ⟨Nat.le_trans hN (by decide), hR⟩ ⟨rfl, rfl, rfl, rfl, rfl, rfl, rfl, trivial⟩ (by rw [htk, List.map_append, List.replicate_succ']; rfl) rfl rfl rfl rfl⟩
        · intro j v hj hvj
          clear H; intro a w H
          have hvt : v = .v (.bool true) := by
            have := List.mem_of_getElem? hvj
            exact (List.mem_replicate.1 this).2
          subst hvt
          rw [if_pos (List.mem_of_getElem? hj)] at hstep
          have he6 : errP l = 6 := by rw [he, hstep]
          have hr : resP l = .tup [.sl prT [] none, .v (.int .i64 6)] := by unfold resP; rw [he6]; rfl
          rw [hr]
          replace H := nf H
          refine mW ?_; clear H; intro a w H
          refine mC H (fun hb => ?_) (fun hb => ?_)
          · refine mW ?_; clear H; intro a w H
            refine wp_ret ?_; exact mEnd [] [] [.tmp 2, .tmp 3] [_, _] hN hR H
          · cases hb
    · have hge : k = l.length := by simp at hb; omega
      clear hb
      subst hge
      rw [List.drop_length] at hk2
      have he0 : errP l = 0 := by rw [he, ← hk2]; rfl
      have hdis := (chkP_dis [] l (by rw [← hk2]; rfl)).1
      have hr : resP l = .tup [.sl prT ((srt l).map prA) none, .v (.int .i64 0)] := by unfold resP; rw [if_pos he0]
      rw [hr]
      replace H := mK [0, 2, 3] 0 0 hN hR H
      by_cases hl0 : l = []
      · subst hl0
        have hs0 : srt [] = [] := rfl
        rw [hs0]
        simp only [List.map_nil] at H ⊢
        refine mS ?_
        clear hX
        (try refine wp_region_lit ?_); refine mN 1 hN H ?_; clear H; intro a w H
        refine mCall [] [] (clone0_v) H ?_; clear H; intro a w H; try refine wpList_nil ?_
        refine mW ?_; clear H; intro a w H
        refine mCall [] [] (sort0_v) H ?_; clear H; intro a w H; try refine wpList_nil ?_
        refine mW ?_; clear H; intro a w H
        refine wp_ret ?_; exact mEnd [] [] [.tmp 2, .tmp 3] [_, _] hN hR H
      · have hc := clone_v l hl0 hl
        have hs := sort_v l 1 hdis (by omega)
        have hsl : (srt l).length = l.length := (srt_perm l).length_eq
        refine mS ?_
        clear hX
        (try refine wp_region_lit ?_); refine mN 1 hN H ?_; clear H; intro a w H
        refine mCall [] [] (hc) H ?_; clear H; intro a w H; try refine wpList_nil ?_
        refine mW ?_; clear H; intro a w H
        refine mCall [0] [] (hs) H ?_; clear H; intro a w H; try refine wpList_nil ?_
        refine mW ?_; clear H; intro a w H
        have H := v_frz H 2 0 (Nat.le_trans hN (by decide)) rfl (by rw [List.length_map, hsl]; exact Nat.le_refl _) rfl
        replace H := nf H
        have htl : ((srt l).map prA).take l.length = (srt l).map prA := List.take_of_length_le (by rw [List.length_map, hsl]; exact Nat.le_refl _)
        rw [htl] at H
        refine wp_ret ?_; exact mEnd [] [] [.tmp 2, .tmp 3] [_, _] hN hR H
end Go.Proofs.Ythphhnkoilcofaa
/- Digests of a byte and parts: the program's. -/
namespace Go.Proofs.Ythphhnkoilcofaa
open Go Go.RowKit
theorem of_v (t : UInt8) (ls : List (List UInt8)) (hb : ls.flatten.length ≤ 34359737000) (hl : ls.length ≤ 34359737000) : VC Try.prog 80 [.v (B8 t), .sl .sc (bss ls) none] [] (.ba (sum (t :: ls.flatten))) := by
  have hbl := bss_len ls
  have ht := t.toNat_lt
  refine mE Try.func80 ?_; intro N w0 a w hN hR H
  have hX := And.intro @ren_s8v (@ren_shv)
  have hY := And.intro @s8v.eq_1 (And.intro @shv.eq_1 (And.intro @W32.eq_1 (@h0.eq_1)))
  refine mW ?_; clear H; intro a w H
  refine mCall [] [] (new_v) H ?_; clear H; intro a w H; try refine wpList_nil ?_
  refine mW ?_; clear H; intro a w H
  obtain ⟨s1, b1, n1, h1, hw1⟩ := write_g [] [t] h0 (List.replicate 64 0) 0 good_nil (by simp) 0 (by decide)
  refine mCall [1] [] (hw1) H ?_; clear H; intro a w H; try refine wpList_nil ?_
  refine mW ?_; clear H; intro a w H
  refine v_loop (fun i : S8 × List UInt8 × Nat × Nat => ⟨[(4, none, .ptr 0 []), (5, none, .ptr 1 []), (15, none, .v (.int .i64 (i.2.2.2 : Int))), (14, none, .v (.int .i64 (ls.length : Int))), (13, none, .sl .sc (bss ls) none)], [(.ba 32, .ba (List.replicate 32 0)), (ti248.ty, shv i.1 i.2.1 i.2.2.1 (1 + (ls.take i.2.2.2).flatten.length))], [], []⟩)
    (fun i => Good (t :: (ls.take i.2.2.2).flatten) i.1 i.2.1 i.2.2.1 ∧ i.2.2.2 ≤ ls.length) (fun i => ls.length - i.2.2.2) (s1, b1, n1, 0) ⟨by simpa using h1, Nat.zero_le _⟩
    (H.to 2 0 ⟨Nat.le_trans hN (by decide), hR⟩ ⟨rfl, rfl, rfl, by rw [hbl]; rfl, rfl, trivial⟩ rfl rfl rfl rfl rfl) ?_
  clear H
  rintro ⟨s2, b2, n2, k⟩ a w ⟨h2, hk⟩ H
  dsimp only at h2 hk H
  refine mW ?_; clear H; intro a w H
  refine mC H (fun hb => ?_) (fun hb => ?_)
  · have hlt : k < ls.length := by simpa using hb
    have hf := flat_take_le ls (k + 1)
    rw [flat_take ls k hlt, List.length_append] at hf
    refine wp_skip ?_
    refine wp_seq ?_
    refine wp_block ?_
    refine wp_seq ?_
    (try refine wp_region_lit ?_); refine mN 2 hN H ?_; clear H; intro a w H
    rw [bss_get ls k hlt] at H
    refine mW ?_; clear H; intro a w H
    obtain ⟨s3, b3, n3, h3, hw3⟩ := write_g _ ls[k] s2 b2 n2 h2 (by omega) (1 + (ls.take k).flatten.length) (by omega)
    refine mCall [1] [] (hw3) H ?_; clear H; intro a w H; try refine wpList_nil ?_
    refine mW ?_; clear H; intro a w H
    refine ⟨(s3, b3, n3, k + 1), ⟨by rw [flat_take ls k hlt]; simpa using h3, hlt⟩, by dsimp only; omega, H.to 2 0 ⟨Nat.le_trans hN (by decide), hR⟩ ⟨rfl, rfl, rfl, rfl, rfl, trivial⟩ (by rw [flat_take ls k hlt, List.length_append]; simp only [List.take_succ_cons, List.take_zero]; rw [Nat.add_assoc]) rfl rfl rfl rfl⟩
  · have hge : k = ls.length := by simp at hb; omega
    subst hge
    rw [List.take_length] at h2 H
    have hsl := sum_length (t :: ls.flatten)
    have h1l : (t :: ls.flatten).length = 1 + ls.flatten.length := by simp; omega
    have hsum := sumS_v (t :: ls.flatten) s2 b2 n2 h2 (by rw [h1l]; omega)
    rw [h1l] at hsum
    refine mW ?_; clear H; intro a w H
    refine mCall [1] [] (hsum) H ?_; clear H; intro a w H; try refine wpList_nil ?_
    refine mW ?_; clear H; intro a w H
    refine wp_ret ?_; exact mEnd [] [] [.cell 4 27] [_] hN hR H
theorem empty_v : VC Try.prog 65 [] [] (.ba (sum [0])) := by
  have hsl := sum_length [0]
  refine mE Try.func65 ?_; intro N w0 a w hN hR H
  have hX := And.intro @ren_s8v (@ren_shv)
  have hY := And.intro @s8v.eq_1 (And.intro @shv.eq_1 (And.intro @W32.eq_1 (@h0.eq_1)))
  refine mW ?_; clear H; intro a w H
  refine mCall [] [] (of_v 0 [] (by simp) (by simp)) H ?_; clear H; intro a w H; try refine wpList_nil ?_
  refine mW ?_; clear H; intro a w H
  refine wp_ret ?_; exact mEnd [] [] [.cell 0 27] [_] hN hR H
end Go.Proofs.Ythphhnkoilcofaa
/- Nodes: what is read. -/
namespace Go.Proofs.Ythphhnkoilcofaa
open Go Go.RowKit
def Nd.one (a b : List UInt8) : Nd := ⟨1, a, b, z32, z32⟩
def Nd.two (a b : List UInt8) : Nd := ⟨2, z32, z32, a, b⟩
def decOk (l : List UInt8) : Prop := l = [0] ∨ (l.length = 65 ∧ (l.getD 0 0 = 1 ∨ l.getD 0 0 = 2))
instance (l : List UInt8) : Decidable (decOk l) := inferInstanceAs (Decidable (_ ∨ _))
def dec (l : List UInt8) : Nd := if l.length = 65 ∧ l.getD 0 0 = 1 then .one ((l.drop 1).take 32) (l.drop 33) else if l.length = 65 ∧ l.getD 0 0 = 2 then .two ((l.drop 1).take 32) (l.drop 33) else .zero
theorem z32_len : z32.length = 32 := by simp [z32]
theorem zero_wf : Nd.zero.wf := ⟨z32_len, z32_len, z32_len, z32_len⟩
theorem zero_ok : Nd.zero.ok := by simp [Nd.ok, Nd.bare, Nd.zero]
theorem Nd.ok_cases {n : Nd} (h : n.ok) : n = .zero ∨ (∃ a b, n = .one a b) ∨ ∃ a b, n = .two a b := by
  unfold Nd.ok Nd.bare at h
  split at h
  · exact .inr (.inl ⟨_, _, h⟩)
  · split at h
    · exact .inr (.inr ⟨_, _, h⟩)
    · exact .inl h
theorem text_len {n : Nd} (hw : n.wf) : n.text.length ≤ 65 := by
  obtain ⟨h1, h2, h3, h4⟩ := hw
  unfold Nd.text
  split
  · simp; omega
  · split
    · simp; omega
    · simp
end Go.Proofs.Ythphhnkoilcofaa
/- What the statements share: bytes that are lent, and kept. -/
namespace Go.Proofs.Ythphhnkoilcofaa
open Go Go.RowKit
/-- The marks in the spare room. -/
def marks (n : Nat) : Nat → List UInt8
  | 0 => []
  | k + 1 => marks n k ++ [UInt8.ofNat (200 + (n + k) % 50)]
theorem marks_len (n k : Nat) : (marks n k).length = k := by
  induction k with
  | zero => rfl
  | succ k ih => simp [marks, ih]
theorem set_end (pre : List UInt8) (m : Nat) (z x : UInt8) (hm : 0 < m) : (pre ++ List.replicate m z).set pre.length x = pre ++ [x] ++ List.replicate (m - 1) z := by
  obtain ⟨m, rfl⟩ : ∃ k, m = k + 1 := ⟨m - 1, by omega⟩
  rw [List.set_append_right _ _ (Nat.le_refl _), Nat.sub_self, List.replicate_succ]
  simp
def lentOf (l : List UInt8) : List UInt8 := l ++ marks l.length 5
theorem lent_len (l : List UInt8) : (lentOf l).length = l.length + 5 := by simp [lentOf, marks_len]
theorem lent_v (l : List UInt8) (hl : l.length ≤ 34359738000) : VX Try.prog 81 [] [] [] [.bs l none] [(.ba (l.length + 5), .ba (lentOf l))] [0] [] (.bc (lentOf l) l.length (some 0)) := by
  have hml := fun k => marks_len l.length k
  refine mE Try.func81 ?_; intro N w0 a w hN hR H
  have h5 : ((l.length : Int) + 5).toNat = l.length + 5 := by omega
  have ht : List.take (l.length + 5) l = l := List.take_of_length_le (by omega)
  have hd : List.drop l.length (List.replicate (l.length + 5) (0 : UInt8)) = List.replicate 5 0 := by rw [List.drop_replicate]; congr 1; omega
  have hX := And.intro @h5 (And.intro @ht (@hd))
  refine mW ?_; clear H; intro a w H
  refine v_loop (fun k : Nat => ⟨[(0, none, .bs l none), (3, none, .win 0 [] 0 (l.length + 5)), (4, none, .v (.int .i64 ((l.length + k : Nat) : Int)))], [(.ba (l.length + 5), .ba (l ++ marks l.length k ++ List.replicate (5 - k) 0))], [], []⟩) (fun k => k ≤ 5) (fun k => 5 - k) 0 (by decide) (H.to 1 0 ⟨Nat.le_trans hN (by decide), hR⟩ ⟨rfl, rfl, rfl, trivial⟩ (by simp [marks]) rfl rfl rfl rfl) ?_
  clear H
  intro k a w hk H
  clear hX
  refine mW ?_; clear H; intro a w H
  refine mC H (fun hb => ?_) (fun hb => ?_)
  · have hlt : k < 5 := by simp at hb; omega
    have hpl : (l ++ marks l.length k).length = l.length + k := by rw [List.length_append, hml]
    have hs := set_end (l ++ marks l.length k) (5 - k) 0 (UInt8.ofNat (200 + (l.length + k) % 50)) (by omega)
    rw [hpl] at hs
    have hx : UInt8.ofNat ((200 + ((l.length + k : Nat) : Int) % 50) % 256).toNat = UInt8.ofNat (200 + (l.length + k) % 50) := by congr 1; omega
    refine mW ?_; clear H; intro a w H
    rw [hx, hs] at H
    exact ⟨k + 1, by omega, by omega, H.to 1 0 ⟨Nat.le_trans hN (by decide), hR⟩ ⟨rfl, rfl, by simp only [find]; rfl, trivial⟩ (by simp only [List.take_succ_cons, List.take_zero, marks, List.append_assoc, Nat.sub_sub]) rfl rfl rfl rfl⟩
  · have : k = 5 := by simp at hb; omega
    subst this
    rw [Nat.sub_self, List.replicate_zero, List.append_nil] at H
    refine mW ?_; clear H; intro a w H
    have H := v_bc H 2 0 hN rfl (by omega) rfl
    simp only [nilT, reduceIte, Nat.reduceEqDiff] at H
    have hX := @lentOf.eq_1
    refine wp_ret ?_; exact mEnd [0] [] [.tmp 2] [_] hN hR H
end Go.Proofs.Ythphhnkoilcofaa
/- The document's digests and nodes. -/
namespace Go.Proofs.Ythphhnkoilcofaa
open Go Go.RowKit
theorem textR_v (t : UInt8) (ls : List (List UInt8)) (hb : ls.flatten.length ≤ 34359738367) (hl : ls.length ≤ 34359738367) :
    VC Try.prog 188 [.v (B8 t), .sl .sc (bss ls) none] [(5, (t :: ls.flatten).length)] (.bs (t :: ls.flatten) (some 0)) := by
  have hbl := bss_len ls
  have ht : t.toNat < 256 := t.toNat_lt
  refine mE Try.func188 ?_; intro N w0 a w hN hR H
  refine mW ?_; clear H; intro a w H
  refine v_loop (fun k : Nat => ⟨[(6, none, .v (.int .i64 (k : Int))), (5, none, .bs (t :: (ls.take k).flatten) (some 0)), (1, none, .sl .sc (bss ls) none)], [], [], [(5, (t :: (ls.take k).flatten).length)]⟩) (fun k => k ≤ ls.length) (fun k => ls.length - k) 0 (Nat.zero_le _) (H.to 0 1 ⟨hN, Nat.le_trans hR (by decide)⟩ ⟨rfl, rfl, rfl, trivial⟩ rfl rfl rfl rfl rfl) ?_
  clear H
  intro k a w hk H
  refine mW ?_; clear H; intro a w H
  refine mC H (fun hb => ?_) (fun hb => ?_)
  · have hlt : k < ls.length := by rw [hbl] at hb; simpa using hb
    have hf := flat_take_le ls (k + 1)
    rw [flat_take ls k hlt, List.length_append] at hf
    refine wp_skip ?_
    repeat (first | refine wp_seq ?_ | refine wp_block ?_)
    (try refine wp_region_lit ?_); refine mN 5 hN H ?_; clear H; intro a w H
    rw [bss_get ls k hlt] at H
    refine mW ?_; clear H; intro a w H
    exact ⟨k + 1, hlt, by omega, H.to 0 1 ⟨hN, Nat.le_trans hR (by decide)⟩ ⟨rfl, by rw [flat_take ls k hlt]; rfl, rfl, trivial⟩ rfl (by rw [flat_take ls k hlt]; simp only [List.take_succ_cons, List.take_zero, List.length_cons, List.length_append, List.cons.injEq, Prod.mk.injEq, true_and, and_true]; omega) rfl rfl rfl⟩
  · have hge : k = ls.length := by rw [hbl] at hb; simp at hb; omega
    subst hge
    rw [List.take_length] at H
    refine mW ?_; clear H; intro a w H
    refine wp_ret ?_; exact mEnd [] [0] [.tmp 4] [_] hN hR H
set_option maxRecDepth 20000 in
theorem leafR_v (k v : List UInt8) (hk : k.length = 32) (hv : v.length = 32) :
    VC Try.prog 166 [.ba k, .ba v] [(5, 65)] (.bs (1 :: (k ++ v)) (some 0)) := by
  refine mE Try.func166 ?_; intro N w0 a w hN hR H
  refine mW ?_; clear H; intro a w H
  have hX := And.intro (List.take_of_length_le (Nat.le_of_eq hk)) (List.take_of_length_le (Nat.le_of_eq hv))
  refine mS ?_; refine mD 2 [2, 3] [] H ?_; clear H; intro gS H; refine mT ?_; clear H; intro a w H
  refine mCallT [] [] (textR_v 1 [k, v] (by simp; omega) (by simp)) H ?_; clear H; intro a w H
  refine mT ?_; clear H; intro a w H
  refine v_drawNil H ?_; clear H; intro H
  refine mW ?_; clear H; intro a w H
  clear hX; have hX := And.intro @hk (@hv)
  refine wp_ret ?_; exact mEnd [] [1] [.tmp 4] [_] hN hR H
set_option maxRecDepth 20000 in
theorem innerR_v (k v : List UInt8) (hk : k.length = 32) (hv : v.length = 32) :
    VC Try.prog 145 [.ba k, .ba v] [(5, 65)] (.bs (2 :: (k ++ v)) (some 0)) := by
  refine mE Try.func145 ?_; intro N w0 a w hN hR H
  refine mW ?_; clear H; intro a w H
  have hX := And.intro (List.take_of_length_le (Nat.le_of_eq hk)) (List.take_of_length_le (Nat.le_of_eq hv))
  refine mS ?_; refine mD 2 [2, 3] [] H ?_; clear H; intro gS H; refine mT ?_; clear H; intro a w H
  refine mCallT [] [] (textR_v 2 [k, v] (by simp; omega) (by simp)) H ?_; clear H; intro a w H
  refine mT ?_; clear H; intro a w H
  refine v_drawNil H ?_; clear H; intro H
  refine mW ?_; clear H; intro a w H
  clear hX; have hX := And.intro @hk (@hv)
  refine wp_ret ?_; exact mEnd [] [1] [.tmp 4] [_] hN hR H
end Go.Proofs.Ythphhnkoilcofaa
/- The document's look at a node. -/
namespace Go.Proofs.Ythphhnkoilcofaa
open Go Go.RowKit
theorem bif_and (a b : Bool) : (bif a then b else false) = (a && b) := by cases a <;> rfl
theorem checkR_v (n : Nd) (hw : n.wf) : VC Try.prog 108 [n.av] [] (errv (if n.ok then 0 else 2)) := by
  obtain ⟨k, key, v, l, r⟩ := n
  obtain ⟨h1, h2, h3, h4⟩ := hw
  dsimp only at h1 h2 h3 h4
  refine mE Try.func108 ?_; intro N w0 a w hN hR H
  simp only [Nd.av] at H
  have hk0 : ((k.toNat : Int) = 0) ↔ k = 0 := ⟨fun h => UInt8.toNat_inj.1 (by simpa using h), fun h => by subst h; rfl⟩
  have hk1 : ((k.toNat : Int) = 1) ↔ k = 1 := ⟨fun h => UInt8.toNat_inj.1 (by simp; omega), fun h => by subst h; rfl⟩
  have hk2 : ((k.toNat : Int) = 2) ↔ k = 2 := ⟨fun h => UInt8.toNat_inj.1 (by simp; omega), fun h => by subst h; rfl⟩
  refine mW ?_; clear H; intro a w H
  refine mC H (fun hb => ?_) (fun hb => ?_)
  · replace H := mK [1, 2, 3] 2 0 hN hR H
    refine mW ?_; clear H; intro a w H
    have hok : Nd.ok ⟨k, key, v, l, r⟩ := by clear H; simp only [bif_and, Bool.not_eq_true', Bool.not_eq_false', Bool.and_eq_true, Bool.and_eq_false_imp, decide_eq_true_eq, decide_eq_false_iff_not] at *; simp only [hz] at *; simp_all [Nd.ok, Nd.bare, Nd.zero]
    rw [if_pos hok]
    refine wp_ret ?_; exact mEnd [] [] [.tmp 2] [_] hN hR H
  · replace H := mK [1, 2, 3] 2 0 hN hR H
    rename_i hb0
    refine mW ?_; clear H; intro a w H
    refine mC H (fun hb => ?_) (fun hb => ?_)
    · replace H := mK [1, 2, 3] 2 0 hN hR H
      refine mW ?_; clear H; intro a w H
      have hok : Nd.ok ⟨k, key, v, l, r⟩ := by clear H; simp only [bif_and, Bool.not_eq_true', Bool.not_eq_false', Bool.and_eq_true, Bool.and_eq_false_imp, decide_eq_true_eq, decide_eq_false_iff_not] at *; simp only [hz] at *; simp_all [Nd.ok, Nd.bare, Nd.zero]
      rw [if_pos hok]
      refine wp_ret ?_; exact mEnd [] [] [.tmp 2] [_] hN hR H
    · replace H := mK [1, 2, 3] 2 0 hN hR H
      refine mW ?_; clear H; intro a w H
      refine mC H (fun hb => ?_) (fun hb => ?_)
      · refine mW ?_; clear H; intro a w H
        have hok : Nd.ok ⟨k, key, v, l, r⟩ := by clear H; simp only [bif_and, Bool.not_eq_true', Bool.not_eq_false', Bool.and_eq_true, Bool.and_eq_false_imp, decide_eq_true_eq, decide_eq_false_iff_not] at *; simp only [hz] at *; simp_all [Nd.ok, Nd.bare, Nd.zero]
        rw [if_pos hok]
        refine wp_ret ?_; exact mEnd [] [] [.tmp 2] [_] hN hR H
      · refine mW ?_; clear H; intro a w H
        have hok : ¬ Nd.ok ⟨k, key, v, l, r⟩ := by
          clear H
          simp only [bif_and, Bool.not_eq_true', Bool.not_eq_false', Bool.and_eq_true, Bool.and_eq_false_imp, decide_eq_true_eq, decide_eq_false_iff_not] at *
          simp only [hz] at *
          intro h
          rcases Nd.ok_cases h with e | ⟨p, q, e⟩ | ⟨p, q, e⟩
          all_goals (simp only [Nd.zero, Nd.one, Nd.two, Nd.mk.injEq] at e; simp_all)
        rw [if_neg hok]
        refine wp_ret ?_; exact mEnd [] [] [.tmp 2] [_] hN hR H
end Go.Proofs.Ythphhnkoilcofaa
/- The document's nodes, written and read. -/
namespace Go.Proofs.Ythphhnkoilcofaa
open Go Go.RowKit
theorem encodeR_ok (n : Nd) (hw : n.wf) (h : n.ok) : VC Try.prog 143 [n.av] [(5, n.text.length)] (.tup [.bs n.text (some 0), errv 0]) := by
  have hck := checkR_v n hw
  rw [if_pos h] at hck
  obtain ⟨k, key, v, l, r⟩ := n
  obtain ⟨h1, h2, h3, h4⟩ := hw
  dsimp only at h1 h2 h3 h4
  refine mE Try.func143 ?_; intro N w0 a w hN hR H
  have hk1 : ((k.toNat : Int) = 1) ↔ k = 1 := ⟨fun h => UInt8.toNat_inj.1 (by simp; omega), fun h => by subst h; rfl⟩
  have hk2 : ((k.toNat : Int) = 2) ↔ k = 2 := ⟨fun h => UInt8.toNat_inj.1 (by simp; omega), fun h => by subst h; rfl⟩
  simp only [Nd.av] at H hck
  refine mW ?_; clear H; intro a w H
  refine mCall [] [] (hck) H ?_; clear H; intro a w H; try refine wpList_nil ?_
  refine mW ?_; clear H; intro a w H
  refine mC H (fun hb => ?_) (fun hb => ?_)
  · simp at hb
  · refine mW ?_; clear H; intro a w H
    refine mC H (fun hb => ?_) (fun hb => ?_)
    · have hk : k = 1 := hk1.1 (by simpa using hb)
      subst hk
      refine mW ?_; clear H; intro a w H
      refine mCall [] [] (leafR_v key v h1 h2) H ?_; clear H; intro a w H; try refine wpList_nil ?_
      refine mW ?_; clear H; intro a w H
      have hX := @Nd.text.eq_1
      refine wp_ret ?_; exact mEnd [] [0] [.tmp 2, .tmp 3] [_, _] hN hR H
    · have hX := @Nd.text.eq_1
      refine mW ?_; clear H; intro a w H
      refine mC H (fun hb => ?_) (fun hb => ?_)
      · have hk : k = 2 := hk2.1 (by simpa using hb)
        subst hk
        clear hX
        refine mW ?_; clear H; intro a w H
        refine mCall [] [] (innerR_v l r h3 h4) H ?_; clear H; intro a w H; try refine wpList_nil ?_
        refine mW ?_; clear H; intro a w H
        have hX := @Nd.text.eq_1
        refine wp_ret ?_; exact mEnd [] [0] [.tmp 2, .tmp 3] [_, _] hN hR H
      · have hk : k = 0 := by
          simp only [Nd.ok, Nd.bare, Nd.zero] at h
          simp_all
        subst hk
        clear hX
        refine mW ?_; clear H; intro a w H
        have hX := @Nd.text.eq_1
        refine wp_ret ?_; exact mEnd [] [0] [.tmp 2, .tmp 3] [_, _] hN hR H
theorem digestR_ok (n : Nd) (hw : n.wf) (h : n.ok) : VC Try.prog 109 [n.av] [] (.tup [.ba (sum n.text), errv 0]) := by
  have hck := encodeR_ok n hw h
  obtain ⟨h1, h2, h3, h4⟩ := id hw
  have htl := text_len hw
  have hsl := sum_length n.text
  refine mE Try.func109 ?_; intro N w0 a w hN hR H
  simp only [Nd.av] at H hck
  refine mW ?_; clear H; intro a w H
  refine mCall [] [] (hck) H ?_; clear H; intro a w H; try refine wpList_nil ?_
  refine mW ?_; clear H; intro a w H
  refine mC H (fun hb => ?_) (fun hb => ?_)
  · simp at hb
  · refine mW ?_; clear H; intro a w H
    refine mCall [] [] (sumR_v n.text (by omega)) H ?_; clear H; intro a w H; try refine wpList_nil ?_
    refine mW ?_; clear H; intro a w H
    refine wp_ret ?_; exact mEnd [] [] [.cell 2 27, .tmp 3] [_, _] hN hR H
end Go.Proofs.Ythphhnkoilcofaa
/- Digests of the empty place, of leaves, of inner nodes. -/
namespace Go.Proofs.Ythphhnkoilcofaa
open Go Go.RowKit
def leafH (k v : List UInt8) : List UInt8 := sum (1 :: (k ++ v))
def innerH (l r : List UInt8) : List UInt8 := sum (2 :: (l ++ r))
theorem leafH_len (k v : List UInt8) : (leafH k v).length = 32 := sum_length _
theorem innerH_len (k v : List UInt8) : (innerH k v).length = 32 := sum_length _
set_option maxRecDepth 20000 in
theorem leaf_v (k v : List UInt8) (hk : k.length = 32) (hv : v.length = 32) : VC Try.prog 136 [.ba k, .ba v] [] (.ba (leafH k v)) := by
  have h := of_v 1 [k, v] (by simp; omega) (by simp)
  have e : [k, v].flatten = k ++ v := by simp
  rw [e] at h
  have hsl := sum_length (1 :: (k ++ v))
  unfold leafH
  refine mE Try.func136 ?_; intro N w0 a w hN hR H
  refine mW ?_; clear H; intro a w H
  have hX := And.intro (List.take_of_length_le (Nat.le_of_eq hk)) (List.take_of_length_le (Nat.le_of_eq hv))
  refine mS ?_; refine mD 0 [2, 3, 4] [] H ?_; clear H; intro gS H; refine mT ?_; clear H; intro a w H
  refine mCallT [] [] (h) H ?_; clear H; intro a w H
  refine mT ?_; clear H; intro a w H
  refine v_drawNil H ?_; clear H; intro H
  clear hX; have hX := And.intro @hk (@hv)
  refine wp_ret ?_; exact mEnd [] [] [.cell 4 27] [_] hN hR H
set_option maxRecDepth 20000 in
theorem inner_v (k v : List UInt8) (hk : k.length = 32) (hv : v.length = 32) : VC Try.prog 67 [.ba k, .ba v] [] (.ba (innerH k v)) := by
  have h := of_v 2 [k, v] (by simp; omega) (by simp)
  have e : [k, v].flatten = k ++ v := by simp
  rw [e] at h
  have hsl := sum_length (2 :: (k ++ v))
  unfold innerH
  refine mE Try.func67 ?_; intro N w0 a w hN hR H
  refine mW ?_; clear H; intro a w H
  have hX := And.intro (List.take_of_length_le (Nat.le_of_eq hk)) (List.take_of_length_le (Nat.le_of_eq hv))
  refine mS ?_; refine mD 0 [2, 3, 4] [] H ?_; clear H; intro gS H; refine mT ?_; clear H; intro a w H
  refine mCallT [] [] (h) H ?_; clear H; intro a w H
  refine mT ?_; clear H; intro a w H
  refine v_drawNil H ?_; clear H; intro H
  clear hX; have hX := And.intro @hk (@hv)
  refine wp_ret ?_; exact mEnd [] [] [.cell 4 27] [_] hN hR H
end Go.Proofs.Ythphhnkoilcofaa
/- Roots of entries at a depth; entries that rise part where their bit does. In plain Lean. -/
namespace Go.Proofs.Ythphhnkoilcofaa
open Go Go.RowKit
abbrev En := List UInt8 × List UInt8
def base (l : List En) : List UInt8 := match l with
  | [] => sum [0]
  | x :: _ => leafH x.1 x.2
def half (b : Bool) (d : Nat) (l : List En) : List En := l.filter fun x => bitN x.1 d == b
def rootA : Nat → Nat → List En → List UInt8
  | 0, _, l => base l
  | f + 1, d, l => if l.length < 2 then base l else innerH (rootA f (d + 1) (half false d l)) (rootA f (d + 1) (half true d l))
theorem rootA_len : ∀ f d l, (rootA f d l).length = 32
  | 0, _, [] => sum_length _
  | 0, _, _ :: _ => leafH_len _ _
  | f + 1, d, l => by
    unfold rootA
    split
    · exact rootA_len 0 d l
    · exact innerH_len _ _
theorem rootA_small (f d : Nat) (l : List En) (h : l.length < 2) : rootA f d l = base l := by
  cases f with
  | zero => rfl
  | succ f => rw [rootA, if_pos h]
/-- Unlike keys that share their first d bits. -/
def Sep (d : Nat) (l : List En) : Prop := l.Pairwise fun x y => agree d x.1 y.1 ∧ ¬ agree 256 x.1 y.1
theorem Sep.side {d : Nat} {l : List En} (h : Sep d l) (b : Bool) : Sep (d + 1) (half b d l) := by
  unfold Sep half
  have h2 : (l.filter fun x => bitN x.1 d == b).Pairwise fun x y => agree d x.1 y.1 ∧ ¬ agree 256 x.1 y.1 := h.filter _
  refine List.Pairwise.imp_of_mem (fun {x y} hx hy hp => ⟨fun t ht => ?_, hp.2⟩) h2
  by_cases h1 : t < d
  · exact hp.1 t h1
  · rw [show t = d by omega]
    have e1 : bitN x.1 d = b := by simpa using (List.mem_filter.1 hx).2
    have e2 : bitN y.1 d = b := by simpa using (List.mem_filter.1 hy).2
    rw [e1, e2]
theorem Sep.deep {d : Nat} {l : List En} (h : Sep d l) (hd : 256 ≤ d) : l.length < 2 := by
  match l, h with
  | [], _ => simp
  | [_], _ => simp
  | x :: y :: l, h =>
    exfalso
    have := (List.pairwise_cons.1 h).1 y List.mem_cons_self
    exact this.2 fun t ht => this.1 t (by omega)
/-- Keys that rise and share their first d bits. -/
def Rise (d : Nat) (l : List En) : Prop := l.Pairwise fun x y => agree d x.1 y.1 ∧ ltB x.1 y.1
theorem Rise.sep {d : Nat} {l : List En} (h : Rise d l) : Sep d l := List.Pairwise.imp (fun {x y} hp => ⟨hp.1, fun ha => by
  obtain ⟨c, hc, _, h2, h3⟩ := hp.2
  rw [ha c hc, h3] at h2; cases h2⟩) h
theorem Rise.side {d : Nat} {l : List En} (h : Rise d l) (b : Bool) : Rise (d + 1) (half b d l) := by
  have h1 := h.sep.side b
  have h2 : (half b d l).Pairwise fun x y => agree d x.1 y.1 ∧ ltB x.1 y.1 := h.filter _
  exact List.Pairwise.imp₂ (fun x y p q => ⟨q.1, p.2⟩) h2 h1
/-- How many entries have the bit 0. -/
def partN (d : Nat) (l : List En) : Nat := (l.takeWhile fun x => !bitN x.1 d).length
theorem Rise.part {d : Nat} (hd : d < 256) : ∀ {l : List En}, Rise d l → half false d l = l.take (partN d l) ∧ half true d l = l.drop (partN d l)
  | [], _ => ⟨rfl, rfl⟩
  | x :: l, h => by
    obtain ⟨h1, h2⟩ := List.pairwise_cons.1 h
    obtain ⟨e1, e2⟩ := Rise.part hd h2
    cases hb : bitN x.1 d
    · have e : partN d (x :: l) = partN d l + 1 := by simp [partN, List.takeWhile_cons, hb]
      rw [e]
      refine ⟨?_, ?_⟩
      · rw [List.take_succ_cons, ← e1]; simp [half, List.filter_cons, hb]
      · rw [List.drop_succ_cons, ← e2]; simp [half, List.filter_cons, hb]
    · have e : partN d (x :: l) = 0 := by simp [partN, List.takeWhile_cons, hb]
      have hall : ∀ y ∈ l, bitN y.1 d = true := fun y hy => by
        obtain ⟨ha, c, hc, g1, g2, g3⟩ := h1 y hy
        rcases Nat.lt_trichotomy c d with hl | rfl | hg
        · have := ha c hl; rw [g2, g3] at this; cases this
        · rw [hb] at g2; cases g2
        · rw [← g1 d hg]; exact hb
      rw [e]
      refine ⟨?_, ?_⟩
      · rw [List.take_zero]
        simp only [half, List.filter_cons, hb]
        simp only [Bool.true_beq, Bool.false_eq_true, if_false]
        refine List.filter_eq_nil_iff.2 fun y hy => ?_
        simp [hall y hy]
      · rw [List.drop_zero]
        refine List.filter_eq_self.2 fun y hy => ?_
        rcases List.mem_cons.1 hy with rfl | hy
        · simp [hb]
        · simp [hall y hy]
theorem partN_le (d : Nat) (l : List En) : partN d l ≤ l.length := by
  unfold partN
  exact (List.takeWhile_sublist _).length_le
theorem Rise.chain {d : Nat} : ∀ {l : List En}, (∀ k (h : k + 1 < l.length), agree d (l[k]'(by omega)).1 l[k + 1].1 ∧ ltB (l[k]'(by omega)).1 l[k + 1].1) → Rise d l
  | [], _ => List.Pairwise.nil
  | [_], _ => by unfold Rise; simp
  | x :: y :: l, h => by
    have ih := Rise.chain (l := y :: l) fun k hk => h (k + 1) (by simpa using hk)
    have h0 := h 0 (by simp)
    refine List.pairwise_cons.2 ⟨fun z hz => ?_, ih⟩
    rcases List.mem_cons.1 hz with rfl | hz
    · exact h0
    · have := (List.pairwise_cons.1 ih).1 z hz
      exact ⟨h0.1.trans this.1, h0.2.trans this.2⟩
theorem half_mem {b : Bool} {d : Nat} {l : List En} {x : En} (h : x ∈ half b d l) : x ∈ l := (List.mem_filter.1 h).1
end Go.Proofs.Ythphhnkoilcofaa
/- A region that draws its order, in which one loud operation (new memory) may come up before or behind another one (a call): both are walked. -/
namespace Go.Proofs.Ythphhnkoilcofaa
open Go
section
variable {P : Program} {ops : Array Oper} {Q : Exit → Act → World → Prop} {S : World → Prop} {L A : List Nat} {c f : Nat}
theorem unlisted {listed : Array Bool} {k : Nat} (h : k ∈ Region.ready .any ops listed) : listed.getD k false ≠ true := by
  obtain ⟨h1, _⟩ := mem_ready.1 h
  intro h2
  rcases Nat.lt_or_ge k listed.size with h' | h'
  · simp [h'] at h1 h2; rw [h1] at h2; cases h2
  · simp [Array.getElem?_eq_none h'] at h1
/-- Which operations are listed: those below k; f besides. -/
def Upto (n : Nat) (k : Nat) (x : Bool) (f : Nat) (listed : Array Bool) : Prop := listed.size = n ∧ ∀ i, i < n → ∀ d, listed.getD i d = (decide (i < k) || (x && i == f))
theorem Upto.set {n k f : Nat} {x : Bool} {listed : Array Bool} (h : Upto n k x f listed) (hk : k < n) : Upto n (k + 1) x f (listed.setIfInBounds k true) := by
  refine ⟨by simpa using h.1, fun i hi d => ?_⟩
  by_cases hik : k = i
  · subst hik; simp [h.1, hk]
  · rw [getD_set_ne d hik, h.2 i hi d]
    congr 1
    simp; omega
theorem Upto.down {n k f : Nat} {x : Bool} {listed : Array Bool} (hn : n = ops.size) (h : Upto n k x f listed) (he : ∀ (j : Nat) (o : Oper), ops[j]? = some o → ∀ e ∈ o.after, Region.binds .any e = true → e.on < j)
    (hfe : x = true → ∀ o, ops[f]? = some o → ∀ e ∈ o.after, Region.binds .any e = true → e.on < k) : Down ops listed := by
  intro j o hj hl e hm hb
  have hjlt := (Array.getElem?_eq_some_iff.1 hj).1
  rw [h.2 j (by omega) false] at hl
  have h1 := he j o hj e hm hb
  rw [h.2 e.on (by omega) false]
  simp only [Bool.or_eq_true, decide_eq_true_eq, Bool.and_eq_true, beq_iff_eq] at hl ⊢
  rcases hl with hl | ⟨hx, rfl⟩
  · exact .inl (by omega)
  · exact .inl (hfe hx o hj e hm hb)
theorem tAny_nil {listed : Array Bool} {a : Act} {w : World} (h : ∀ i, i < ops.size → ∀ d, listed.getD i d = true) (hQ : Q .normal a w) : tAny P ops Q S L A 0 listed a w := by
  refine ⟨?_, hQ⟩
  rw [List.eq_nil_iff_forall_not_mem]
  intro j hj
  obtain ⟨hju, o, ho, _⟩ := mem_ready.1 hj
  rw [h j (Array.getElem?_eq_some_iff.1 ho).1 true] at hju
  cases hju
end
section
variable {P : Program} {τ : Tab} {w0 w : World} {N : Gh} {g gS : Gh} {st st' sq sq' : St} {nt : Nat} {a : Act}
/-- Only boxes that are there may be frozen. -/
theorem v_fz (H : Rel P w0 N nt st a w) : Rel P w0 N nt ⟨st.t, st.bx, st.fz.filter fun i => decide (i < st.bx.length), st.rw⟩ a w := by
  obtain ⟨g, HI, hF⟩ := H
  refine ⟨g, ⟨HI.mem, HI.fr, HI.br, fun i x hx hf => ?_, HI.wr, HI.wz⟩, ⟨hF.sz, hF.df, hF.t, hF.u⟩⟩
  have h1 := HI.fz i x hx hf
  have h2 := (List.getElem?_eq_some_iff.1 hx).1
  rw [HI.br.len] at h2
  simp only [List.mem_filter, decide_eq_true_eq]
  exact ⟨h1, h2⟩
/-- A slot seen as something that says less. -/
theorem v_sub (H : Rel P w0 N nt st a w) (d : Nat) {x y : AV} (hs : sub 4 x y) (hx : isAny x = false) (ht : ∀ az, x ≠ .tup az) (hd : find d st.t = some (none, x)) : Rel P w0 N nt ⟨nilT d y st.t, st.bx, st.fz, st.rw⟩ a w := by
  obtain ⟨g, HI, hF⟩ := H
  refine ⟨g, HI, hF.sz, hF.df, fun p hp hg => ?_, fun p hp hg => by rcases nilT_mem hp with h | h; (subst h; exact absurd trivial hg); exact hF.u p h hg⟩
  rcases nilT_mem hp with h | h
  · subst h
    have h1 : RV g x (a.tmps.getD d undef) := hF.t _ (find_mem hd) trivial
    exact ((h1.rv1 hx ht).sub_ hs).rv
  · exact hF.t p h hg
theorem RelT.toRel (H : RelT P w0 N nt gS sq st a w) : Rel P w0 N nt st a w := by
  obtain ⟨_, _, _, _, g, HI, hF, _⟩ := H
  exact ⟨g, HI, hF⟩
end
end Go.Proofs.Ythphhnkoilcofaa
/- Values seen as others: a nil slice inside a box as a row that is none yet; an empty window as no bytes. -/
namespace Go.Proofs.Ythphhnkoilcofaa
open Go Go.RowKit
section
variable {P : Program} {τ : Tab} {w0 w w' : World} {N : Gh} {g g1 g2 : Gh} {st st' : St} {nt : Nat} {a : Act}
theorem RC.sc_slice {T : Ty} {A : Option Addr} {n c : Nat} {cs : List Value} (h : RC g T (.v (.slice A n c)) cs) : T = .sc ∧ cs = [.slice A n c] := by
  cases h with
  | v h => exact ⟨rfl, rfl⟩
theorem RC.nilK {y : AV} (hy : RC g .sc y [.slice none 0 0]) : ∀ (k : Nat) {T : Ty} {fs : List AV} {cs : List Value}, RC g T (.st fs) cs → fs[k]? = some (.v (.slice none 0 0)) → RC g T (.st (fs.set k y)) cs
  | _, _, [], _, h, hk => by simp at hk
  | 0, _, x :: fs, _, h, hk => by
    simp only [List.getElem?_cons_zero, Option.some.injEq] at hk
    subst hk
    cases h with
    | cn h hs =>
      obtain ⟨rfl, rfl⟩ := h.sc_slice
      exact .cn hy hs
  | k + 1, _, x :: fs, _, h, hk => by
    cases h with
    | cn h hs => exact .cn h (RC.nilK hy k hs (by simpa using hk))
/-- The same, of other elements. -/
theorem v_nilX (hτ : τ.ok P) (H : Rel P w0 N nt st a w) (i k e : Nat) {j : TI} (T' : Ty) {T : Ty} {fs : List AV} (hj : Tab.get e τ = some j) (hs : 0 < j.ty.size) (hb : st.bx[i]? = some (T, .st fs)) (hd : fs[k]? = some (.v (.slice none 0 0))) :
    Rel P w0 N nt ⟨st.t, st.bx.set i (T, .st (fs.set k (.sl T' [] (some st.rw.length)))), st.fz, st.rw ++ [(e, 0)]⟩ a w := by
  obtain ⟨g, HI, hF⟩ := H
  have hok := Tab.get_ok hτ hj
  obtain ⟨g1, l1, I1, h1⟩ := HI.rowNil (nilRow hok hs w) rfl rfl ⟨hok.cells.symm, rfl⟩
  obtain ⟨x, hx, rfl, hr⟩ := I1.br.at_ i T _ hb
  obtain ⟨hxo, hxm, hr⟩ := hr.rc_of (fun _ _ e => by cases e) (fun _ _ e => by cases e) (fun _ _ e => by cases e)
  have hy := (RC.sl (g := g1) (T := T') (es := []) (tok := some st.rw.length) (A := none) (c := 0) (by simp) (by simp [maxLen]) (fun _ => []) (.inl rfl) (fun k hk => absurd hk (by simp)) fun i hi => by injection hi with hi; subst hi; exact ⟨_, h1, by simp, fun _ => ⟨rfl, rfl⟩⟩)
  exact ⟨g1, I1.re hx (.pl (RC.nilK hy k hr hd) hxo hxm), ⟨(hF.mono l1.1).sz, hF.df, (hF.mono l1.1).t, hF.u⟩⟩
end
end Go.Proofs.Ythphhnkoilcofaa
/- Proofs as bytes: what may be, how it is told. -/
namespace Go.Proofs.Ythphhnkoilcofaa
open Go Go.RowKit
structure Pf where
  s : List (List UInt8)
  e : Nd
  deriving DecidableEq
def bas (ls : List (List UInt8)) : List AV := ls.map .ba
theorem bas_len (ls : List (List UInt8)) : (bas ls).length = ls.length := by simp [bas]
theorem bas_get (ls : List (List UInt8)) (k : Nat) (hk : k < ls.length) : (bas ls).getD k .any = .ba ls[k] := by simp [bas, List.getD, hk]
structure Pf.wf (p : Pf) : Prop where
  s : ∀ h ∈ p.s, h.length = 32
  e : p.e.wf
def Pf.av (p : Pf) : AV := .st [.sl (.ba 32) (bas p.s) none, p.e.av]
def Pf.chk (p : Pf) : Int := if 256 < p.s.length then 4 else if p.e.ok ∧ p.e.k ≠ 2 then 0 else 2
/-- The digest of nothing. -/
def E0 : List UInt8 := sum [0]
def hidesB (s : List (List UInt8)) (t : Nat) : Bool := match s[t]? with | some h => h != E0 | none => false
def Pf.bits (p : Pf) : List UInt8 := bitsB p.s.length (hidesB p.s)
def hashes (s : List (List UInt8)) : List UInt8 := (s.filter (· != E0)).flatten
def Pf.text (p : Pf) : List UInt8 := [UInt8.ofNat (p.s.length / 256), UInt8.ofNat p.s.length] ++ (p.bits ++ (hashes p.s ++ p.e.text))
theorem hashes_len : ∀ (s : List (List UInt8)), (∀ h ∈ s, h.length = 32) → (hashes s).length ≤ 32 * s.length
  | [], _ => by simp [hashes]
  | h :: s, hs => by
    have ih := hashes_len s fun x hx => hs x (List.mem_cons_of_mem _ hx)
    have h1 := hs h List.mem_cons_self
    unfold hashes at ih ⊢
    rw [List.filter_cons]
    split
    · simp only [List.flatten_cons, List.length_append, List.length_cons]; omega
    · simp only [List.length_cons]; omega
end Go.Proofs.Ythphhnkoilcofaa
/- Roots of entries that rise: the program's. -/
namespace Go.Proofs.Ythphhnkoilcofaa
open Go Go.RowKit
def partK (d : Nat) (ks : List (List UInt8)) : Nat := (ks.takeWhile fun x => !bitN x d).length
theorem partK_of (d : Nat) : ∀ (ks : List (List UInt8)) (k : Nat), k ≤ ks.length → (∀ j (h : j < ks.length), j < k → bitN ks[j] d = false) → (∀ h : k < ks.length, bitN ks[k] d = true) → partK d ks = k
  | [], k, hk, _, _ => by simp at hk; subst hk; rfl
  | x :: ks, 0, _, _, h2 => by
    have := h2 (by simp)
    simp only [List.getElem_cons_zero] at this
    simp [partK, List.takeWhile_cons, this]
  | x :: ks, k + 1, hk, h1, h2 => by
    have h0 := h1 0 (by simp) (by omega)
    simp only [List.getElem_cons_zero] at h0
    have ih := partK_of d ks k (by simpa using hk) (fun j h hj => by have := h1 (j + 1) (by simpa using h) (by omega); rwa [List.getElem_cons_succ] at this) (fun h => by have := h2 (by simpa using h); rwa [List.getElem_cons_succ] at this)
    unfold partK at ih ⊢
    simp [List.takeWhile_cons, h0, ih]
theorem partN_K (d : Nat) (l : List En) : partK d (l.map Prod.fst) = partN d l := by
  unfold partK partN
  induction l with
  | nil => rfl
  | cons x l ih => simp only [List.map_cons, List.takeWhile_cons]; cases bitN x.1 d <;> simp [ih]
theorem pbit_zero (p : List UInt8) (d : Nat) (hd : d < 256) : decide (pbit p (d : Int) = 0) = !bitN p d := by
  rw [pbit, if_pos (by omega), Int.toNat_natCast]
  cases bitN p d <;> rfl
def Wd (l : List En) : Prop := ∀ x ∈ l, x.1.length = 32 ∧ x.2.length = 32
theorem Wd.half {l : List En} (h : Wd l) (b : Bool) (d : Nat) : Wd (half b d l) := fun x hx => h x (half_mem hx)
end Go.Proofs.Ythphhnkoilcofaa
/- Keys as ways down: the document's functions. -/
namespace Go.Proofs.Ythphhnkoilcofaa
open Go Go.RowKit
theorem half_bit (c : UInt8) (m : Nat) (hm : m < 8) : c.toNat / 2 ^ (7 - m) % 2 = if bitAt c m then 1 else 0 := by
  rw [bitAt_test c m hm, Nat.testBit_eq_decide_div_mod_eq]
  have := Nat.mod_two_eq_zero_or_one (c.toNat / 2 ^ (7 - m))
  rcases this with h | h <;> rw [h] <;> rfl
set_option maxRecDepth 20000 in
theorem bitR_v (p : List UInt8) (hp : p.length = 32) (d : Int) : VC Try.prog 103 [.ba p, .v (.int .i64 d)] [] (.v (.int .i64 (pbit p d))) := by
  refine mE Try.func103 ?_; intro N w0 a w hN hR H
  refine mW ?_; clear H; intro a w H
  by_cases h : 0 ≤ d ∧ d < 256
  · have e8 := e8w d h.1
    skip
    refine mC H (fun hb => ?_) (fun hb => ?_)
    · exfalso; simp at hb; omega
    · obtain ⟨c, hc⟩ : ∃ c, c = p.getD (d.toNat / 8) 0 := ⟨_, rfl⟩
      have hc8 := c.toNat_lt
      have hX := And.intro @e8 (Eq.symm (hc))
      have hY := @e8
      refine mW ?_; clear H; intro a w H
      refine v_loop (fun k : Nat => ⟨[(6, none, .v (.int .i64 (k : Int))), (5, none, .v (.int .i64 ((c.toNat / 2 ^ k : Nat) : Int))), (1, none, .v (.int .i64 d))], [(.ba 32, .ba p)], [], []⟩) (fun k => k ≤ 7 - d.toNat % 8) (fun k => 8 - k) 0 (Nat.zero_le _) (H.to 1 0 ⟨Nat.le_trans hN (by decide), hR⟩ ⟨rfl, by rw [Nat.pow_zero, Nat.div_one]; rfl, rfl, trivial⟩ rfl rfl rfl rfl rfl) ?_
      clear H
      intro k a w hk H
      have hlt2 : c.toNat / 2 ^ k < 256 := Nat.lt_of_le_of_lt (Nat.div_le_self _ _) hc8
      obtain ⟨v, hv⟩ : ∃ v, v = c.toNat / 2 ^ k := ⟨_, rfl⟩
      rw [← hv] at H hlt2
      have hv' : PLift (v = c.toNat / 2 ^ k) := ⟨hv⟩
      clear hv
      clear hX
      clear hY
      refine mW ?_; clear H; intro a w H
      refine mC H (fun hb => ?_) (fun hb => ?_)
      · have hlt : k < 7 - d.toNat % 8 := by simp at hb; omega
        refine mW ?_; clear H; intro a w H
        have e2 : (v : Int) / 2 = ((c.toNat / 2 ^ (k + 1) : Nat) : Int) := by
          have hv : v = c.toNat / 2 ^ k := hv'.down
          rw [Nat.pow_succ, ← Nat.div_div_eq_div_mul, ← hv]; omega
        rw [e2] at H
        exact ⟨k + 1, hlt, by omega, H.to 1 0 ⟨Nat.le_trans hN (by decide), hR⟩ ⟨rfl, rfl, rfl, trivial⟩ rfl rfl rfl rfl rfl⟩
      · have hge : k = 7 - d.toNat % 8 := by simp at hb; omega
        subst hge
        have hb2 := half_bit c (d.toNat % 8) (by omega)
        have hv : v = c.toNat / 2 ^ (7 - d.toNat % 8) := hv'.down
        rw [← hv] at hb2
        clear hv
        have e3 : pbit p d = ((v % 2 : Nat) : Int) := by
          rw [pbit, if_pos h, hb2, hc]; unfold bitN; split <;> rfl
        rw [e3]
        refine mW ?_; clear H; intro a w H
        refine wp_ret ?_; exact mEnd [] [] [.tmp 4] [_] hN hR H
  · rw [pbit, if_neg h]
    refine mC H (fun hb => ?_) (fun hb => ?_)
    · refine mW ?_; clear H; intro a w H
      refine wp_ret ?_; exact mEnd [] [] [.tmp 4] [_] hN hR H
    · exfalso; simp at hb; omega
end Go.Proofs.Ythphhnkoilcofaa
/- Digests of the empty place, of leaves, of inner nodes: the document's. -/
namespace Go.Proofs.Ythphhnkoilcofaa
open Go Go.RowKit
theorem ofHR_v (t : UInt8) (ls : List (List UInt8)) (hb : ls.flatten.length ≤ 34359737000) (hl : ls.length ≤ 34359737000) : VC Try.prog 142 [.v (B8 t), .sl .sc (bss ls) none] [] (.ba (sum (t :: ls.flatten))) := by
  have h1 := textR_v t ls (by omega) (by omega)
  have h2 := sumR_v (t :: ls.flatten) (by simp only [List.length_cons]; omega)
  have hsl := sum_length (t :: ls.flatten)
  refine mE Try.func142 ?_; intro N w0 a w hN hR H
  refine mW ?_; clear H; intro a w H
  refine mCall [] [] (h1) H ?_; clear H; intro a w H; try refine wpList_nil ?_
  refine mW ?_; clear H; intro a w H
  refine mCall [] [] (h2) H ?_; clear H; intro a w H; try refine wpList_nil ?_
  refine mW ?_; clear H; intro a w H
  refine wp_ret ?_; exact mEnd [] [] [.cell 4 26] [_] hN hR H
theorem emptyR_v : VC Try.prog 130 [] [] (.ba (sum [0])) := by
  have hsl := sum_length [0]
  refine mE Try.func130 ?_; intro N w0 a w hN hR H
  refine mW ?_; clear H; intro a w H
  refine mCall [] [] (ofHR_v 0 [] (by simp) (by simp)) H ?_; clear H; intro a w H; try refine wpList_nil ?_
  refine mW ?_; clear H; intro a w H
  refine wp_ret ?_; exact mEnd [] [] [.cell 0 26] [_] hN hR H
theorem leafHR_v (k v : List UInt8) (hk : k.length = 32) (hv : v.length = 32) : VC Try.prog 131 [.ba k, .ba v] [] (.ba (leafH k v)) := by
  have h1 := leafR_v k v hk hv
  have h2 := sumR_v (1 :: (k ++ v)) (by simp; omega)
  have hsl := sum_length (1 :: (k ++ v))
  have hl : (1 :: (k ++ v)).length = 65 := by simp; omega
  unfold leafH
  refine mE Try.func131 ?_; intro N w0 a w hN hR H
  refine mW ?_; clear H; intro a w H
  refine mCall [] [] (h1) H ?_; clear H; intro a w H; try refine wpList_nil ?_
  refine mW ?_; clear H; intro a w H
  refine mCall [] [] (h2) H ?_; clear H; intro a w H; try refine wpList_nil ?_
  refine mW ?_; clear H; intro a w H
  refine wp_ret ?_; exact mEnd [] [] [.cell 4 26] [_] hN hR H
theorem innerHR_v (k v : List UInt8) (hk : k.length = 32) (hv : v.length = 32) : VC Try.prog 110 [.ba k, .ba v] [] (.ba (innerH k v)) := by
  have h1 := innerR_v k v hk hv
  have h2 := sumR_v (2 :: (k ++ v)) (by simp; omega)
  have hsl := sum_length (2 :: (k ++ v))
  unfold innerH
  refine mE Try.func110 ?_; intro N w0 a w hN hR H
  refine mW ?_; clear H; intro a w H
  refine mCall [] [] (h1) H ?_; clear H; intro a w H; try refine wpList_nil ?_
  refine mW ?_; clear H; intro a w H
  refine mCall [] [] (h2) H ?_; clear H; intro a w H; try refine wpList_nil ?_
  refine mW ?_; clear H; intro a w H
  refine wp_ret ?_; exact mEnd [] [] [.cell 4 26] [_] hN hR H
end Go.Proofs.Ythphhnkoilcofaa
/- Proofs as bytes: how they are read. -/
namespace Go.Proofs.Ythphhnkoilcofaa
open Go Go.RowKit
/-- The sides that marks and bytes say, what is left, and whether bytes were lacking. -/
def runS : List Bool → List UInt8 → List (List UInt8) × List UInt8 × Bool
  | [], r => ([], r, false)
  | m :: ms, r => if m = true ∧ r.length < 32 then ([E0], r, true) else ((if m then r.take 32 else E0) :: (runS ms (if m then r.drop 32 else r)).1, (runS ms (if m then r.drop 32 else r)).2)
def marksOf (bits : List UInt8) (n : Nat) : List Bool := (List.range n).map fun i => bitAt (bits.getD (i / 8) 0) (i % 8)
def rdQ (l : List UInt8) : Pf × Bool :=
  if l.length < 2 then (⟨[], .zero⟩, false) else
  if 256 < num 0 (l.take 2) then (⟨[], .zero⟩, false) else
  if (l.drop 2).length < (num 0 (l.take 2) + 7) / 8 then (⟨[], .zero⟩, false) else
  let x := runS (marksOf ((l.drop 2).take ((num 0 (l.take 2) + 7) / 8)) (num 0 (l.take 2))) ((l.drop 2).drop ((num 0 (l.take 2) + 7) / 8))
  if x.2.2 then (⟨x.1, .zero⟩, false) else (⟨x.1, dec x.2.1⟩, decide (decOk x.2.1))
/-- Where the reading stands. -/
structure At (ms : List Bool) (l : List UInt8) (i : Nat × List (List UInt8) × List UInt8 × Bool) : Prop where
  k : i.1 ≤ ms.length
  len : i.2.1.length = i.1
  lr : i.2.2.1.length ≤ l.length
  ok : i.2.2.2 = false → runS ms l = (i.2.1 ++ (runS (ms.drop i.1) i.2.2.1).1, (runS (ms.drop i.1) i.2.2.1).2)
  no : i.2.2.2 = true → runS ms l = (i.2.1, i.2.2.1, true)
end Go.Proofs.Ythphhnkoilcofaa
/- Proofs as bytes: read, and told again. -/
namespace Go.Proofs.Ythphhnkoilcofaa
open Go Go.RowKit
def Pf.zero : Pf := ⟨[], .zero⟩
theorem pzero_wf : Pf.zero.wf := ⟨fun h hh => (by cases hh), zero_wf⟩
def pOk (l : List UInt8) : Prop := (rdQ l).2 = true ∧ (rdQ l).1.chk = 0 ∧ (rdQ l).1.text = l
instance (l : List UInt8) : Decidable (pOk l) := inferInstanceAs (Decidable (_ ∧ _))
end Go.Proofs.Ythphhnkoilcofaa
/- The digest at the top of a way: node.Up, and the document's. -/
namespace Go.Proofs.Ythphhnkoilcofaa
open Go Go.RowKit
/-- One step up. -/
def stepH (key : List UInt8) (d : Nat) (x h : List UInt8) : List UInt8 := if bitN key d then innerH x h else innerH h x
/-- From the sides from the depth d on. -/
def upL (key : List UInt8) : Nat → List (List UInt8) → List UInt8 → List UInt8
  | _, [], h => h
  | d, x :: r, h => stepH key d x (upL key (d + 1) r h)
theorem stepH_len (key : List UInt8) (d : Nat) (x h : List UInt8) : (stepH key d x h).length = 32 := by unfold stepH; split <;> exact innerH_len _ _
theorem upL_len (key : List UInt8) (h : List UInt8) (hh : h.length = 32) : ∀ d s, (upL key d s h).length = 32
  | _, [] => hh
  | _, _ :: _ => stepH_len _ _ _ _
theorem upL_drop (key : List UInt8) (s : List (List UInt8)) (h : List UInt8) (k : Nat) (hk : k < s.length) : upL key k (s.drop k) h = stepH key k (s.getD k []) (upL key (k + 1) (s.drop (k + 1)) h) := by
  rw [List.drop_eq_getElem_cons hk, List.getElem_eq_getD []]; rfl
def topH (key : List UInt8) (p : Pf) : List UInt8 := upL key 0 p.s (sum p.e.text)
theorem topH_len (key : List UInt8) (p : Pf) : (topH key p).length = 32 := upL_len _ _ (sum_length _) _ _
theorem chk_all {p : Pf} (h : p.chk = 0) : p.s.length ≤ 256 ∧ p.e.ok ∧ p.e.k ≠ 2 := by
  unfold Pf.chk at h
  split at h
  · cases h
  · split at h
    · rename_i h1 h2; exact ⟨by omega, h2⟩
    · cases h
set_option maxRecDepth 20000 in
set_option maxHeartbeats 1000000 in
theorem up_v (key : List UInt8) (hk32 : key.length = 32) (p : Pf) (hw : p.wf) (h : p.chk = 0) : VC Try.prog 15 [.ba key, p.av] [] (.tup [.ba (topH key p), errv 0]) := by
  obtain ⟨hle, hok, hk2⟩ := chk_all h
  obtain ⟨s, n⟩ := p
  dsimp only at hle hok hk2
  have hs := hw.s
  have hsl := bas_len s
  have hdg := digest_ok n hw.e hok
  obtain ⟨h1, h2, h3, h4⟩ := id hw.e
  dsimp only at h1 h2 h3 h4 hs
  have hz2 := z32_len
  have hd2 : decide ((n.k.toNat : Int) = 2) = false := decide_eq_false fun e => hk2 (UInt8.toNat_inj.1 (by simp; omega))
  unfold topH
  obtain ⟨h0, hh0⟩ : ∃ h0, h0 = sum n.text := ⟨_, rfl⟩
  have h0l : h0.length = 32 := by rw [hh0]; exact sum_length _
  rw [← hh0] at hdg
  dsimp only
  rw [← hh0]
  clear hh0 hok hk2 h hw
  refine mE Try.func15 ?_; intro N w0 a w hN hR H
  simp only [Pf.av, Nd.av] at H hdg
  have hX := @hsl
  refine mW ?_; clear H; intro a w H
  refine mC H (fun hb => ?_) (fun hb => ?_)
  · exfalso; rw [decide_eq_true_eq] at hb; omega
  · refine mW ?_; clear H; intro a w H
    refine mCall [] [] (hdg) H ?_; clear H; intro a w H; try refine wpList_nil ?_
    refine mW ?_; clear H; intro a w H
    refine mC H (fun hb => ?_) (fun hb => ?_)
    · exfalso; simp only [hd2] at hb; simp at hb
    · clear hb
      refine mW ?_; clear H; intro a w H
      refine v_loop (fun k : Nat => ⟨[(8, none, .v (.int .i64 ((k : Int) - 1))), (6, none, .ptr 3 []), (5, none, .v (.int .i64 0)), (4, none, .ptr 2 []), (3, none, .ptr 1 []), (2, none, .ptr 0 [])],
        [(.ba 32, .ba key), (ti41.ty, .st [.sl (.ba 32) (bas s) none, .st [.v (B8 n.k), .ba n.key, .ba n.v, .ba n.l, .ba n.r]]), (.ba 32, .ba z32), (.ba 32, .ba (upL key k (s.drop k) h0))], [], []⟩)
        (fun k => k ≤ s.length) (fun k => k) s.length (Nat.le_refl _) (H.to 4 0 ⟨Nat.le_trans hN (by decide), hR⟩ ⟨rfl, rfl, rfl, rfl, rfl, rfl, trivial⟩ (by rw [List.drop_length]; rfl) rfl rfl rfl rfl) ?_
      clear H
      intro k a w hk H
      have hul := upL_len key h0 h0l k (s.drop k)
      refine mW ?_; clear H; intro a w H
      refine mC H (fun hb => ?_) (fun hb => ?_)
      · obtain ⟨j, rfl⟩ : ∃ j, k = j + 1 := ⟨k - 1, by rw [decide_eq_true_eq] at hb; omega⟩
        clear hb
        have hj : j < s.length := hk
        have e1 : (((j + 1 : Nat) : Int) - 1) = (j : Int) := by omega
        rw [e1] at H
        have hbit := bit_v key hk32 (j : Int)
        have hj256 : j < 256 := by omega
        have hpb : decide (pbit key (j : Int) = 0) = !bitN key j := by
          rw [pbit, if_pos (by omega), Int.toNat_natCast]; cases bitN key j <;> rfl
        have hup := upL_drop key s h0 j hj
        have hg := bas_get s j hj
        rw [List.getElem_eq_getD []] at hg
        have hx : (s.getD j []).length = 32 := by rw [← List.getElem_eq_getD (h := hj) []]; exact hs _ (List.getElem_mem _)
        generalize s.getD j [] = x at *
        generalize upL key (j + 1) (s.drop (j + 1)) h0 = u at *
        have hin1 := inner_v u x hul hx
        have hin2 := inner_v x u hx hul
        have hil1 := innerH_len u x
        have hil2 := innerH_len x u
        refine mW ?_; clear H; intro a w H
        refine mCall [] [] (hbit) H ?_; clear H; intro a w H; try refine wpList_nil ?_
        refine mW ?_; clear H; intro a w H
        simp only [hpb] at H
        refine mC H (fun hb => ?_) (fun hb => ?_)
        · have hbf : bitN key j = false := by cases h : bitN key j; rfl; rw [h] at hb; simp at hb
          have hst : stepH key j x u = innerH u x := by unfold stepH; rw [hbf]; rfl
          rw [hst] at hup
          clear hb
          refine mW ?_; clear H; intro a w H
          clear hX; have hX := And.intro @hsl (@hg)
          have hY := And.intro @hsl (@hx)
          refine mS ?_; refine mD 0 [6, 7] [] H ?_; clear H; intro gS H
          refine mTN 3 hN H ?_; clear H; intro a w H; simp only [List.drop_succ_cons, List.drop_zero, List.drop_nil]
          refine mTN 2 hN H ?_; clear H; intro a w H; simp only [List.drop_succ_cons, List.drop_zero, List.drop_nil]
          refine mTN 1 hN H ?_; clear H; intro a w H; simp only [List.drop_succ_cons, List.drop_zero, List.drop_nil]
          refine mCallT [] [] (hin1) H ?_; clear H; intro a w H
          refine mT ?_; clear H; intro a w H
          refine v_drawNil H ?_; clear H; intro H
          clear hX; have hX := @hsl
          clear hY
          refine mW ?_; clear H; intro a w H
          exact ⟨j, by omega, by omega, H.to 4 0 ⟨Nat.le_trans hN (by decide), hR⟩ ⟨rfl, rfl, rfl, rfl, rfl, rfl, trivial⟩ (by dsimp only; rw [hup]; rfl) rfl rfl rfl rfl⟩
        · have hbt : bitN key j = true := by cases h : bitN key j; (rw [h] at hb; simp at hb); rfl
          have hst : stepH key j x u = innerH x u := by unfold stepH; rw [hbt]; rfl
          rw [hst] at hup
          clear hb
          refine mW ?_; clear H; intro a w H
          clear hX; have hX := And.intro @hsl (@hg)
          have hY := And.intro @hsl (@hx)
          refine mS ?_; refine mD 0 [6, 7] [] H ?_; clear H; intro gS H
          refine mTN 2 hN H ?_; clear H; intro a w H; simp only [List.drop_succ_cons, List.drop_zero, List.drop_nil]
          refine mTN 2 hN H ?_; clear H; intro a w H; simp only [List.drop_succ_cons, List.drop_zero, List.drop_nil]
          refine mTN 2 hN H ?_; clear H; intro a w H; simp only [List.drop_succ_cons, List.drop_zero, List.drop_nil]
          refine mCallT [] [] (hin2) H ?_; clear H; intro a w H
          refine mT ?_; clear H; intro a w H
          refine v_drawNil H ?_; clear H; intro H
          clear hX; have hX := @hsl
          clear hY
          refine mW ?_; clear H; intro a w H
          exact ⟨j, by omega, by omega, H.to 4 0 ⟨Nat.le_trans hN (by decide), hR⟩ ⟨rfl, rfl, rfl, rfl, rfl, rfl, trivial⟩ (by dsimp only; rw [hup]; rfl) rfl rfl rfl rfl⟩
      · have hge : k = 0 := by rw [decide_eq_false_iff_not] at hb; omega
        subst hge
        rw [List.drop_zero] at H hul
        refine mW ?_; clear H; intro a w H
        refine wp_ret ?_; exact mEnd [] [] [.cell 4 27, .tmp 5] [_, _] hN hR H
set_option maxRecDepth 20000 in
set_option maxHeartbeats 1000000 in
theorem upR_v (key : List UInt8) (hk32 : key.length = 32) (p : Pf) (hw : p.wf) (h : p.chk = 0) : VC Try.prog 62 [.ba key, p.av] [] (.tup [.ba (topH key p), errv 0]) := by
  obtain ⟨hle, hok, hk2⟩ := chk_all h
  obtain ⟨s, n⟩ := p
  dsimp only at hle hok hk2
  have hs := hw.s
  have hsl := bas_len s
  have hdg := digestR_ok n hw.e hok
  have hck := checkR_v n hw.e
  rw [if_pos hok] at hck
  obtain ⟨h1, h2, h3, h4⟩ := id hw.e
  dsimp only at h1 h2 h3 h4 hs
  have hz2 := z32_len
  have hd2 : decide ((n.k.toNat : Int) = 2) = false := decide_eq_false fun e => hk2 (UInt8.toNat_inj.1 (by simp; omega))
  unfold topH
  obtain ⟨h0, hh0⟩ : ∃ h0, h0 = sum n.text := ⟨_, rfl⟩
  have h0l : h0.length = 32 := by rw [hh0]; exact sum_length _
  rw [← hh0] at hdg
  dsimp only
  rw [← hh0]
  clear hh0 hok hk2 h hw
  refine mE Try.func62 ?_; intro N w0 a w hN hR H
  simp only [Pf.av, Nd.av] at H hdg hck
  have hX := @hsl
  refine mW ?_; clear H; intro a w H
  refine mC H (fun hb => ?_) (fun hb => ?_)
  · exfalso; rw [decide_eq_true_eq] at hb; omega
  · refine mW ?_; clear H; intro a w H
    refine mCall [] [] (hck) H ?_; clear H; intro a w H; try refine wpList_nil ?_
    refine mW ?_; clear H; intro a w H
    refine mC H (fun hb => ?_) (fun hb => ?_)
    · exfalso; simp only [hd2] at hb; simp at hb
    · clear hb
      refine mW ?_; clear H; intro a w H
      refine mCall [] [] (hdg) H ?_; clear H; intro a w H; try refine wpList_nil ?_
      refine mW ?_; clear H; intro a w H
      refine v_loop (fun k : Nat => ⟨[(8, none, .v (.int .i64 ((k : Int) - 1))), (6, none, .ptr 3 []), (5, none, .v (.int .i64 0)), (4, none, .ptr 2 []), (3, none, .ptr 1 []), (2, none, .ptr 0 [])],
        [(.ba 32, .ba key), (ti41.ty, .st [.sl (.ba 32) (bas s) none, .st [.v (B8 n.k), .ba n.key, .ba n.v, .ba n.l, .ba n.r]]), (.ba 32, .ba z32), (.ba 32, .ba (upL key k (s.drop k) h0))], [], []⟩)
        (fun k => k ≤ s.length) (fun k => k) s.length (Nat.le_refl _) (H.to 4 0 ⟨Nat.le_trans hN (by decide), hR⟩ ⟨rfl, rfl, rfl, rfl, rfl, rfl, trivial⟩ (by rw [List.drop_length]; rfl) rfl rfl rfl rfl) ?_
      clear H
      intro k a w hk H
      have hul := upL_len key h0 h0l k (s.drop k)
      refine mW ?_; clear H; intro a w H
      refine mC H (fun hb => ?_) (fun hb => ?_)
      · obtain ⟨j, rfl⟩ : ∃ j, k = j + 1 := ⟨k - 1, by rw [decide_eq_true_eq] at hb; omega⟩
        clear hb
        have hj : j < s.length := hk
        have e1 : (((j + 1 : Nat) : Int) - 1) = (j : Int) := by omega
        rw [e1] at H
        have hbit := bitR_v key hk32 (j : Int)
        have hj256 : j < 256 := by omega
        have hpb : decide (pbit key (j : Int) = 0) = !bitN key j := by
          rw [pbit, if_pos (by omega), Int.toNat_natCast]; cases bitN key j <;> rfl
        have hup := upL_drop key s h0 j hj
        have hg := bas_get s j hj
        rw [List.getElem_eq_getD []] at hg
        have hx : (s.getD j []).length = 32 := by rw [← List.getElem_eq_getD (h := hj) []]; exact hs _ (List.getElem_mem _)
        generalize s.getD j [] = x at *
        generalize upL key (j + 1) (s.drop (j + 1)) h0 = u at *
        have hin1 := innerHR_v u x hul hx
        have hin2 := innerHR_v x u hx hul
        have hil1 := innerH_len u x
        have hil2 := innerH_len x u
        refine mW ?_; clear H; intro a w H
        refine mCall [] [] (hbit) H ?_; clear H; intro a w H; try refine wpList_nil ?_
        refine mW ?_; clear H; intro a w H
        simp only [hpb] at H
        refine mC H (fun hb => ?_) (fun hb => ?_)
        · have hbf : bitN key j = false := by cases h : bitN key j; rfl; rw [h] at hb; simp at hb
          have hst : stepH key j x u = innerH u x := by unfold stepH; rw [hbf]; rfl
          rw [hst] at hup
          clear hb
          refine mW ?_; clear H; intro a w H
          clear hX; have hX := And.intro @hsl (@hg)
          have hY := And.intro @hsl (@hx)
          refine mS ?_; refine mD 0 [6, 7] [] H ?_; clear H; intro gS H
          refine mTN 3 hN H ?_; clear H; intro a w H; simp only [List.drop_succ_cons, List.drop_zero, List.drop_nil]
          refine mTN 2 hN H ?_; clear H; intro a w H; simp only [List.drop_succ_cons, List.drop_zero, List.drop_nil]
          refine mTN 1 hN H ?_; clear H; intro a w H; simp only [List.drop_succ_cons, List.drop_zero, List.drop_nil]
          refine mCallT [] [] (hin1) H ?_; clear H; intro a w H
          refine mT ?_; clear H; intro a w H
          refine v_drawNil H ?_; clear H; intro H
          clear hX; have hX := @hsl
          clear hY
          refine mW ?_; clear H; intro a w H
          exact ⟨j, by omega, by omega, H.to 4 0 ⟨Nat.le_trans hN (by decide), hR⟩ ⟨rfl, rfl, rfl, rfl, rfl, rfl, trivial⟩ (by dsimp only; rw [hup]; rfl) rfl rfl rfl rfl⟩
        · have hbt : bitN key j = true := by cases h : bitN key j; (rw [h] at hb; simp at hb); rfl
          have hst : stepH key j x u = innerH x u := by unfold stepH; rw [hbt]; rfl
          rw [hst] at hup
          clear hb
          refine mW ?_; clear H; intro a w H
          clear hX; have hX := And.intro @hsl (@hg)
          have hY := And.intro @hsl (@hx)
          refine mS ?_; refine mD 0 [6, 7] [] H ?_; clear H; intro gS H
          refine mTN 2 hN H ?_; clear H; intro a w H; simp only [List.drop_succ_cons, List.drop_zero, List.drop_nil]
          refine mTN 2 hN H ?_; clear H; intro a w H; simp only [List.drop_succ_cons, List.drop_zero, List.drop_nil]
          refine mTN 2 hN H ?_; clear H; intro a w H; simp only [List.drop_succ_cons, List.drop_zero, List.drop_nil]
          refine mCallT [] [] (hin2) H ?_; clear H; intro a w H
          refine mT ?_; clear H; intro a w H
          refine v_drawNil H ?_; clear H; intro H
          clear hX; have hX := @hsl
          clear hY
          refine mW ?_; clear H; intro a w H
          exact ⟨j, by omega, by omega, H.to 4 0 ⟨Nat.le_trans hN (by decide), hR⟩ ⟨rfl, rfl, rfl, rfl, rfl, rfl, trivial⟩ (by dsimp only; rw [hup]; rfl) rfl rfl rfl rfl⟩
      · have hge : k = 0 := by rw [decide_eq_false_iff_not] at hb; omega
        subst hge
        rw [List.drop_zero] at H hul
        refine mW ?_; clear H; intro a w H
        refine wp_ret ?_; exact mEnd [] [] [.cell 4 27, .tmp 5] [_, _] hN hR H
end Go.Proofs.Ythphhnkoilcofaa
/- Proofs as bytes: the document's. -/
namespace Go.Proofs.Ythphhnkoilcofaa
open Go Go.RowKit
end Go.Proofs.Ythphhnkoilcofaa
/- A region at a function's end in which the named results are loaded and stored again: nothing changes. -/
namespace Go.Proofs.Ythphhnkoilcofaa
open Go Go.RowKit
section
variable {P : Program} {τ : Tab} {w0 w : World} {N : Gh} {st : St} {nt : Nat} {a : Act}
end
end Go.Proofs.Ythphhnkoilcofaa
/- What bytes say to whoever knows the root: verify, and the document's. -/
namespace Go.Proofs.Ythphhnkoilcofaa
open Go Go.RowKit
def valH (v : List UInt8) : List UInt8 := sum (3 :: v)
theorem valH_len (v : List UInt8) : (valH v).length = 32 := sum_length _
theorem value_v (v : List UInt8) (hv : v.length ≤ 34359730000) : VC Try.prog 23 [.bs v none] [] (.ba (valH v)) := by
  have h := of_v 3 [v] (by simp; omega) (by simp)
  have e : [v].flatten = v := by simp
  rw [e] at h
  have hsl := sum_length (3 :: v)
  unfold valH
  refine mE Try.func23 ?_; intro N w0 a w hN hR H
  refine mW ?_; clear H; intro a w H
  refine mCall [] [] (h) H ?_; clear H; intro a w H; try refine wpList_nil ?_
  refine mW ?_; clear H; intro a w H
  refine wp_ret ?_; exact mEnd [] [] [.cell 2 27] [_] hN hR H
theorem valueR_v (v : List UInt8) (hv : v.length ≤ 34359730000) : VC Try.prog 105 [.bs v none] [] (.ba (valH v)) := by
  have h := ofHR_v 3 [v] (by simp; omega) (by simp)
  have e : [v].flatten = v := by simp
  rw [e] at h
  have hsl := sum_length (3 :: v)
  unfold valH
  refine mE Try.func105 ?_; intro N w0 a w hN hR H
  refine mW ?_; clear H; intro a w H
  refine mCall [] [] (h) H ?_; clear H; intro a w H; try refine wpList_nil ?_
  refine mW ?_; clear H; intro a w H
  refine wp_ret ?_; exact mEnd [] [] [.cell 2 26] [_] hN hR H
end Go.Proofs.Ythphhnkoilcofaa
/- The root of entries that rise: node.parted, node.root. -/
namespace Go.Proofs.Ythphhnkoilcofaa
open Go Go.RowKit
def dgs (l : List Pr) : List En := l.map fun p => (p.1, valH p.2)
def V0 (l : List Pr) : Prop := ∀ x ∈ l, x.2.length ≤ 34359730000
theorem dgs_len (l : List Pr) : (dgs l).length = l.length := by simp [dgs]
theorem dgs_keys (l : List Pr) : (dgs l).map Prod.fst = keysP l := by simp [dgs, keysP]
theorem dgs_take (l : List Pr) (n : Nat) : (dgs l).take n = dgs (l.take n) := by simp [dgs, List.map_take]
theorem dgs_drop (l : List Pr) (n : Nat) : (dgs l).drop n = dgs (l.drop n) := by simp [dgs, List.map_drop]
theorem prs_take (l : List Pr) (n : Nat) : (l.map prA).take n = (l.take n).map prA := by simp [List.map_take]
theorem prs_drop (l : List Pr) (n : Nat) : (l.map prA).drop n = (l.drop n).map prA := by simp [List.map_drop]
set_option maxRecDepth 20000 in
theorem npart_v (l : List Pr) (hw : K32 l) (d : Nat) (hd : d < 256) (hl : l.length ≤ 34359730000) : VC Try.prog 102 [.sl prT (l.map prA) none, .v (.int .i64 (d : Int))] [] (.v (.int .i64 (partN d (dgs l) : Int))) := by
  have hxl : (l.map prA).length = l.length := List.length_map ..
  have hkl : (keysP l).length = l.length := by simp [keysP]
  rw [← partN_K, dgs_keys]
  refine mE Try.func102 ?_; intro N w0 a w hN hR H
  have hX := @hxl
  refine mW ?_; clear H; intro a w H
  refine v_loop (fun k : Nat => ⟨[(5, none, .v (.int .i64 (k : Int))), (4, none, .v (.int .i64 0)), (0, none, .sl prT (l.map prA) none), (1, none, .v (.int .i64 (d : Int)))], [], [], []⟩) (fun k => k ≤ l.length ∧ ∀ j (h : j < (keysP l).length), j < k → bitN (keysP l)[j] d = false) (fun k => l.length - k) 0 ⟨Nat.zero_le _, fun j h hj => by omega⟩ (H.to 0 0 ⟨hN, hR⟩ ⟨rfl, rfl, rfl, rfl, trivial⟩ rfl rfl rfl rfl rfl) ?_
  clear H
  rintro k a w ⟨hk, hall⟩ H
  by_cases hlt : k < l.length
  · have g1 := prA_get l k hlt
    have l1 := hw _ (List.getElem_mem hlt)
    have hb1 := bit_v l[k].1 l1 (d : Int)
    have hkk : (keysP l)[k]'(by omega) = l[k].1 := by simp [keysP]
    generalize l[k] = p at *
    obtain ⟨kb, vb⟩ := p
    dsimp only at g1 l1 hb1 hkk
    refine mS ?_
    clear hX; have hX := And.intro @hxl (@g1)
    have hY := @l1
    (try refine wp_region_lit ?_); refine mN 8 hN H ?_; clear H; intro a w H
    refine mW ?_; clear H; intro a w H
    refine mCallG [] [] (hb1) H ?_; clear H; intro a w H; try refine wpList_nil ?_
    refine mW ?_; clear H; intro a w H
    simp only [pbit_zero _ _ hd] at H
    refine mC H (fun hb => ?_) (fun hb => ?_)
    · have hbf : bitN kb d = false := by
        cases h : bitN kb d
        · rfl
        · rw [h] at hb; simp at hb
      refine mW ?_; clear H; intro a w H
      exact ⟨k + 1, ⟨hlt, fun j h hj => by
        by_cases h1 : j < k
        · exact hall j h h1
        · obtain rfl : j = k := by omega
          rw [hkk]; exact hbf⟩, by omega, H.to 0 0 ⟨hN, hR⟩ ⟨rfl, rfl, rfl, rfl, trivial⟩ rfl rfl rfl rfl rfl⟩
    · have hbt : bitN kb d = true := by
        cases h : bitN kb d
        · rw [h] at hb; simp [hlt] at hb
        · rfl
      have e := partK_of d (keysP l) k (by omega) hall fun _ => by rw [hkk]; exact hbt
      rw [e]
      refine mW ?_; clear H; intro a w H
      refine wp_ret ?_; exact mEnd [] [] [.tmp 4] [_] hN hR H
  · have hge : k = l.length := by omega
    subst hge
    have e := partK_of d (keysP l) l.length (by omega) hall fun h => absurd h (by omega)
    rw [e]
    refine mS ?_
    (try refine wp_region_lit ?_); refine mN 5 hN H ?_; clear H; intro a w H
    have hdd : (decide ((l.length : Int) < (l.length : Int))) = false := by simp
    simp only [hdd] at H
    refine mSk (.v (.bool false)) H ?_; clear H; intro a w H
    refine mSk (.v (.bool false)) H ?_; clear H; intro a w H
    refine mSk (.v (.bool false)) H ?_; clear H; intro a w H
    refine mSk (.v (.bool false)) H ?_; clear H; intro a w H
    refine mSk (.v (.bool false)) H ?_; clear H; intro a w H
    refine mSk (.v (.bool false)) H ?_; clear H; intro a w H
    refine mSk (.v (.bool false)) H ?_; clear H; intro a w H
    refine mSk (.v (.bool false)) H ?_; clear H; intro a w H
    refine mW ?_; clear H; intro a w H
    refine mC H (fun hb => ?_) (fun hb => ?_)
    · simp at hb
    · refine mW ?_; clear H; intro a w H
      refine wp_ret ?_; exact mEnd [] [] [.tmp 4] [_] hN hR H
set_option maxRecDepth 20000 in
theorem nroot_small (f d : Nat) (l : List Pr) (hs : l.length < 2) (hw : K32 l) (hv : V0 l) : VC Try.prog 90 [.sl prT (l.map prA) none, .v (.int .i64 (d : Int))] [] (.ba (rootA f d (dgs l))) := by
  rw [rootA_small f d _ (by rw [dgs_len]; exact hs)]
  match l, hs with
  | [], _ =>
    have hsl := sum_length [0]
    refine mE Try.func90 ?_; intro N w0 a w hN hR H
    simp only [List.map_nil] at H
    refine mW ?_; clear H; intro a w H
    refine mC H (fun hb => ?_) (fun hb => ?_)
    · refine mW ?_; clear H; intro a w H
      refine mCall [] [] (empty_v) H ?_; clear H; intro a w H; try refine wpList_nil ?_
      refine mW ?_; clear H; intro a w H
      refine wp_ret ?_; exact mEnd [] [] [.cell 4 27] [_] hN hR H
    · simp at hb
  | [x], _ =>
    have h1 := hw x List.mem_cons_self
    have h2 := value_v x.2 (hv x List.mem_cons_self)
    have h3 := valH_len x.2
    have hlf := leaf_v x.1 (valH x.2) h1 h3
    have hsl := leafH_len x.1 (valH x.2)
    obtain ⟨kb, vb⟩ := x
    dsimp only at h1 h2 h3 hlf hsl
    refine mE Try.func90 ?_; intro N w0 a w hN hR H
    simp only [List.map_cons, List.map_nil, prA] at H
    refine mW ?_; clear H; intro a w H
    refine mC H (fun hb => ?_) (fun hb => ?_)
    · simp at hb
    · refine mW ?_; clear H; intro a w H
      refine mC H (fun hb => ?_) (fun hb => ?_)
      · refine mW ?_; clear H; intro a w H
        refine mS ?_; refine mD 0 [8, 9, 10] [0, 1, 2, 3] H ?_; clear H; intro gS H; refine mT ?_; clear H; intro a w H
        refine mCallT [] [] (h2) H ?_; clear H; intro a w H
        refine mT ?_; clear H; intro a w H
        refine mCallT [] [] (hlf) H ?_; clear H; intro a w H
        refine mT ?_; clear H; intro a w H
        refine v_drawNil H ?_; clear H; intro H
        refine wp_ret ?_; exact mEnd [] [] [.cell 4 27] [_] hN hR H
      · simp at hb
theorem V0.take {l : List Pr} (h : V0 l) (n : Nat) : V0 (l.take n) := fun x hx => h x (List.mem_of_mem_take hx)
theorem V0.drop {l : List Pr} (h : V0 l) (n : Nat) : V0 (l.drop n) := fun x hx => h x (List.mem_of_mem_drop hx)
theorem K32.take {l : List Pr} (h : K32 l) (n : Nat) : K32 (l.take n) := fun x hx => h x (List.mem_of_mem_take hx)
theorem K32.drop {l : List Pr} (h : K32 l) (n : Nat) : K32 (l.drop n) := fun x hx => h x (List.mem_of_mem_drop hx)
set_option maxRecDepth 20000 in
theorem nroot_v : ∀ (f d : Nat) (l : List Pr), f + d = 256 → Rise d (dgs l) → K32 l → V0 l → l.length ≤ 34359730000 →
    VC Try.prog 90 [.sl prT (l.map prA) none, .v (.int .i64 (d : Int))] [] (.ba (rootA f d (dgs l))) := by
  intro f
  induction f with
  | zero =>
    intro d l hd hr hw hv hl
    exact nroot_small 0 d l (by have := hr.sep.deep (by omega); rwa [dgs_len] at this) hw hv
  | succ f ih =>
    intro d l hd hr hw hv hl
    by_cases hs : l.length < 2
    · exact nroot_small _ d l hs hw hv
    · rw [rootA, if_neg (by rw [dgs_len]; exact hs)]
      have hxl : (l.map prA).length = l.length := List.length_map ..
      obtain ⟨e1, e2⟩ := hr.part (by omega)
      have hn := partN_le d (dgs l)
      rw [dgs_len] at hn
      have hp := npart_v l hw d (by omega) hl
      have s1 := hr.side false
      have s2 := hr.side true
      rw [e1, dgs_take] at s1
      rw [e2, dgs_drop] at s2
      rw [e1, e2, dgs_take, dgs_drop]
      have c1 := ih (d + 1) (l.take (partN d (dgs l))) (by omega) s1 (hw.take _) (hv.take _) (by rw [List.length_take]; omega)
      have c2 := ih (d + 1) (l.drop (partN d (dgs l))) (by omega) s2 (hw.drop _) (hv.drop _) (by rw [List.length_drop]; omega)
      have r1 := rootA_len f (d + 1) (dgs (l.take (partN d (dgs l))))
      have r2 := rootA_len f (d + 1) (dgs (l.drop (partN d (dgs l))))
      generalize rootA f (d + 1) (dgs (l.take (partN d (dgs l)))) = a1 at *
      generalize rootA f (d + 1) (dgs (l.drop (partN d (dgs l)))) = a2 at *
      generalize partN d (dgs l) = n at *
      have hin := inner_v a1 a2 r1 r2
      have hsl := innerH_len a1 a2
      clear ih e1 e2 s1 s2
      refine mE Try.func90 ?_; intro N w0 a w hN hR H
      have hX := @hxl
      refine mW ?_; clear H; intro a w H
      refine mC H (fun hb => ?_) (fun hb => ?_)
      · exfalso; rw [decide_eq_true_eq] at hb; omega
      · refine mW ?_; clear H; intro a w H
        refine mC H (fun hb => ?_) (fun hb => ?_)
        · exfalso; rw [decide_eq_true_eq] at hb; omega
        · refine mW ?_; clear H; intro a w H
          refine mCall [] [] (hp) H ?_; clear H; intro a w H; try refine wpList_nil ?_
          refine mW ?_; clear H; intro a w H
          clear hX; have hX := And.intro @hxl (And.intro @prs_take (@prs_drop))
          refine mS ?_; refine mD 0 [5, 11, 12, 13] [6, 7, 8, 9, 10] H ?_; clear H; intro gS H; refine mT ?_; clear H; intro a w H
          refine mCallT [] [] (c1) H ?_; clear H; intro a w H
          refine mT ?_; clear H; intro a w H
          refine mCallT [] [] (c2) H ?_; clear H; intro a w H
          refine mT ?_; clear H; intro a w H
          refine mCallT [] [] (hin) H ?_; clear H; intro a w H
          refine mT ?_; clear H; intro a w H
          refine v_drawNil H ?_; clear H; intro H
          clear hX
          refine wp_ret ?_; exact mEnd [] [] [.cell 4 27] [_] hN hR H
end Go.Proofs.Ythphhnkoilcofaa
/- node.RootAt, node.Root: any entries. -/
namespace Go.Proofs.Ythphhnkoilcofaa
open Go Go.RowKit
def endsP (l : List Pr) : Nat := com (l.getD 0 ([], [])).1 (l.getD (l.length - 1) ([], [])).1
theorem ends_rise {d : Nat} (l : List Pr) (hk : K32 l) (hr : Ris l) (hd : d ≤ 256) (h : l.length < 2 ∨ d ≤ endsP l) : Rise d (dgs l) := by
  unfold Rise dgs
  rw [List.pairwise_map]
  rw [List.pairwise_iff_getElem]
  intro i j hi hj hij
  have hlt := List.pairwise_iff_getElem.1 hr i j hi hj hij
  refine ⟨?_, hlt⟩
  rcases h with h | h
  · omega
  · have h0 : l.getD 0 ([], []) = l[0]'(by omega) := by simp [List.getD_eq_getElem?_getD, show 0 < l.length by omega]
    have h1 : l.getD (l.length - 1) ([], []) = l[l.length - 1]'(by omega) := by simp [List.getD_eq_getElem?_getD, show l.length - 1 < l.length by omega]
    unfold endsP at h
    rw [h0, h1] at h
    have ha := (com_ge hd).1 h
    have le : ∀ (a b : Nat) (ha : a < l.length) (hb : b < l.length), a ≤ b → l[a].1 = l[b].1 ∨ ltB l[a].1 l[b].1 := fun a b ha hb hab => by
      by_cases e : a = b
      · subst e; exact .inl rfl
      · exact .inr (List.pairwise_iff_getElem.1 hr a b ha hb (by omega))
    have mid : ∀ p q r : List UInt8, (p = q ∨ ltB p q) → (q = r ∨ ltB q r) → agree d p r → agree d p q := fun p q r h1 h2 ha => by
      rcases h1 with rfl | ⟨c, hc, g1, g2, g3⟩
      · exact agree_refl _ _
      · rcases h2 with rfl | ⟨e, he, k1, k2, k3⟩
        · exact ha
        · intro t ht
          by_cases htc : t < c
          · exact g1 t htc
          · exfalso
            rcases Nat.lt_trichotomy c e with hl | rfl | hg
            · have := ha c (by omega); rw [g2, ← k1 c hl, g3] at this; cases this
            · rw [g3] at k2; cases k2
            · have := ha e (by omega); rw [k3, g1 e hg, k2] at this; cases this
    have a1 := mid _ _ _ (le 0 i (by omega) hi (Nat.zero_le _)) (le i (l.length - 1) hi (by omega) (by omega)) ha
    have a2 := mid _ _ _ (le 0 j (by omega) hj (Nat.zero_le _)) (le j (l.length - 1) hj (by omega) (by omega)) ha
    exact a1.symm.trans a2
theorem chkP_vals : ∀ (ks : List (List UInt8)) (l : List Pr), chkP ks l = 0 → ∀ x ∈ l, x.2.length ≤ 1024
  | _, [], _, x, hx => by cases hx
  | ks, p :: l, h, x, hx => by
    unfold chkP at h
    split at h
    · cases h
    · split at h
      · cases h
      · rcases List.mem_cons.1 hx with rfl | hx
        · omega
        · exact chkP_vals _ l h x hx
theorem errP_ok {l : List Pr} (h : errP l = 0) : l.length ≤ 4096 ∧ Dis l ∧ ∀ x ∈ l, x.2.length ≤ 1024 := by
  unfold errP at h
  split at h
  · cases h
  · exact ⟨by omega, (chkP_dis _ _ h).1, chkP_vals _ _ h⟩
end Go.Proofs.Ythphhnkoilcofaa
/- Rows of slices turned round in place; regions in every order of their loud operations. -/
namespace Go.Proofs.Ythphhnkoilcofaa
open Go Go.RowKit
abbrev OneV := { v : Value // v.oneCell' = true }
instance : Inhabited OneV := ⟨⟨.bool false, rfl⟩⟩
end Go.Proofs.Ythphhnkoilcofaa
namespace Go.Proofs.Ythphhnkoilcofaa
open Go Go.RowKit
/-- Values that lean on no cell but bytes. -/
def leafA : AV → Bool
  | .v _ => true
  | .ba _ => true
  | .bs _ none => true
  | .bc _ _ none => true
  | .ptr _ _ => true
  | .pti _ _ _ => true
  | .win _ _ _ _ => true
  | .vw _ _ _ => true
  | .pv _ _ _ _ => true
  | .mr _ => true
  | .ref (.ba _) (.ba _) => true
  | .any => true
  | _ => false
def plainA : Nat → AV → Bool
  | d + 1, .st fs => fs.all (plainA d)
  | d + 1, .tup fs => fs.all (plainA d)
  | _, a => leafA a
theorem RC.plain {g g2 : Gh} (hro : ∀ b o c, g.ro b o = some (B8 c) → g2.ro b o = some (B8 c)) (hbx : g2.bx = g.bx) : ∀ {d : Nat} {T : Ty} {a : AV} {cs : List Value}, RC g T a cs → plainA d a = true → RC g2 T a cs := by
  intro d
  have leaf : ∀ {T : Ty} {a : AV} {cs : List Value}, RC g T a cs → leafA a = true → RC g2 T a cs := by
    intro T a cs h hp
    cases h with
    | v h => exact .v h
    | ba h => exact .ba h
    | nl => simp [leafA] at hp
    | cn h hs => simp [leafA] at hp
    | bs hc hm hr ht =>
      rename_i l tok A c
      cases tok with
      | some j => simp [leafA] at hp
      | none =>
        refine .bs hc hm ?_ fun i hi => by cases hi
        rcases hr with h | ⟨b, o, hA, hj⟩
        · exact .inl h
        · exact .inr ⟨b, o, hA, fun j hj' => hro _ _ _ (hj j hj')⟩
    | sl hc hm F hr hv ht => simp [leafA] at hp
    | ptr h ho => exact .ptr (by rw [hbx]; exact h) ho
    | pti h ho hk => exact .pti (by rw [hbx]; exact h) ho hk
    | win h ho hn hc hm hA => exact .win (by rw [hbx]; exact h) ho hn hc hm hA
    | vw h hT hg hn hm hx => exact .vw (by rw [hbx]; exact h) hT hg hn hm hx
    | pv h hT hg ho hx => exact .pv (by rw [hbx]; exact h) hT hg ho hx
    | mr h hT => exact .mr (by rw [hbx]; exact h) hT
    | slc hn hm F hr hv => simp [leafA] at hp
    | vwc h hk => simp [leafA] at hp
    | bc hn hm hr ht =>
      rename_i l n tok A
      cases tok with
      | some j => simp [leafA] at hp
      | none =>
        refine .bc hn hm ?_ fun i hi => by cases hi
        rcases hr with h | ⟨b, o, hA, hj⟩
        · exact .inl h
        · exact .inr ⟨b, o, hA, fun j hj' => hro _ _ _ (hj j hj')⟩
    | ref cs h hr =>
      cases h with
      | ba h =>
        rename_i n l
        refine .ref (l.map B8) (.ba h) fun j u hu => ?_
        have := hr j u hu
        simp only [List.getElem?_map, Option.map_eq_some_iff] at hu
        obtain ⟨c, _, rfl⟩ := hu
        exact hro _ _ _ this
      | _ => simp [leafA] at hp
  induction d with
  | zero => exact fun {T a cs} h hp => leaf h (by cases a <;> exact hp)
  | succ d ih =>
    intro T a cs h hp
    have key : ∀ {T : Ty} {cs : List Value} {fs : List AV}, RC g T (.st fs) cs → fs.all (plainA d) = true → RC g2 T (.st fs) cs := by
      intro T
      induction T with
      | cn T Ts _ ihs =>
        intro cs fs h hp
        cases h with
        | cn h hs =>
          simp only [List.all_cons, Bool.and_eq_true] at hp
          exact .cn (ih h hp.1) (ihs hs hp.2)
      | nl => intro cs fs h hp; cases h; exact .nl
      | _ => intro cs fs h hp; cases h
    cases a with
    | st fs => exact key h hp
    | tup fs => cases h
    | _ =>
      exact leaf h hp
theorem BC.plain {g g2 : Gh} (hro : ∀ b o c, g.ro b o = some (B8 c) → g2.ro b o = some (B8 c)) (hbx : g2.bx = g.bx) {d : Nat} {T : Ty} {a : AV} {x : Bx} (h : BC g T a x) (hp : plainA d a = true) : BC g2 T a x := by
  obtain ⟨h1, h2, h3⟩ := h.rc_of (fun _ _ e => by subst e; cases d <;> simp [plainA, leafA] at hp) (fun _ _ e => by subst e; cases d <;> simp [plainA, leafA] at hp) (fun _ _ e => by subst e; cases d <;> simp [plainA, leafA] at hp)
  exact .pl (h3.plain hro hbx hp) h1 h2
theorem RV.plain {g g2 : Gh} (hro : ∀ b o c, g.ro b o = some (B8 c) → g2.ro b o = some (B8 c)) (hbx : g2.bx = g.bx) {d : Nat} {a : AV} {u : Value} (h : RV g a u) (hp : plainA (d + 1) a = true) : RV g2 a u := by
  have one : ∀ {d : Nat} {a : AV} {u : Value}, RV1 g a u → plainA d a = true → RV1 g2 a u := fun {d a u} h hp => by
    rcases h with ⟨T, cs, h1, h2, h3⟩ | h
    · exact .inl ⟨T, cs, h1, h2.plain hro hbx hp, h3⟩
    · exact .inr (h.plain hro hbx hp)
  cases a with
  | any => trivial
  | tup az =>
    obtain ⟨vs, h1, h2, h3⟩ := h
    exact ⟨vs, h1, h2, fun i a u ha hu => one (h3 i a u ha hu) (List.all_eq_true.1 hp a (List.mem_of_getElem? ha))⟩
  | _ => exact (one (show RV1 g _ u from h) hp).rv
end Go.Proofs.Ythphhnkoilcofaa
namespace Go.Proofs.Ythphhnkoilcofaa
open Go
section
variable {P : Program} {ops : Array Oper} {Q : Exit → Act → World → Prop} {S : World → Prop} {L A : List Nat}
/-- Where an operation stands in an order of one's own. -/
def rk (ord : List Nat) (i : Nat) : Nat := ord.idxOf i
def chkO (ops : Array Oper) (ord : List Nat) : Bool :=
  ord.length == ops.size && ord.all (fun i => decide (i < ops.size)) && (List.range ops.size).all (fun i => ord.contains i) && (List.range ord.length).all (fun p => match ord[p]? with | some x => rk ord x == p | none => false) &&
    (List.range ops.size).all fun j => (match ops[j]? with | some o => o.after.all fun e => !Region.binds .any e || decide (rk ord e.on < rk ord j) | none => true)
structure OrdOk (ops : Array Oper) (ord : List Nat) : Prop where
  len : ord.length = ops.size
  lt : ∀ i ∈ ord, i < ops.size
  mem : ∀ i, i < ops.size → i ∈ ord
  pos : ∀ p (h : p < ord.length), rk ord ord[p] = p
  edge : ∀ j o, ops[j]? = some o → ∀ e ∈ o.after, Region.binds .any e = true → rk ord e.on < rk ord j
theorem chkO_ok {ops : Array Oper} {ord : List Nat} (h : chkO ops ord = true) : OrdOk ops ord := by
  simp only [chkO, Bool.and_eq_true, beq_iff_eq, List.all_eq_true, decide_eq_true_eq, List.mem_range, List.contains_eq_mem] at h
  obtain ⟨⟨⟨⟨h1, h2⟩, h3⟩, h4⟩, h5⟩ := h
  refine ⟨h1, h2, h3, fun p hp => ?_, fun j o hj e he hb => ?_⟩
  · have := h4 p hp; rw [List.getElem?_eq_getElem hp] at this; simpa using this
  · have := h5 j (Array.getElem?_eq_some_iff.1 hj).1
    rw [hj] at this
    have := (Array.all_eq_true_iff_forall_mem.1 this) e he
    simpa [hb] using this
theorem OrdOk.inj {ops : Array Oper} {ord : List Nat} (h : OrdOk ops ord) {i j : Nat} (hi : i < ops.size) (hj : j < ops.size) (e : rk ord i = rk ord j) : i = j := by
  have h1 := List.getElem_idxOf (List.idxOf_lt_length_of_mem (h.mem i hi))
  have h2 := List.getElem_idxOf (List.idxOf_lt_length_of_mem (h.mem j hj))
  unfold rk at e
  rw [← h1, ← h2]
  simp only [e]
def chkZ (ops : Array Oper) (pre : Array Nat) (ord L A : List Nat) : Bool :=
  (List.range ops.size).all fun j => (List.range ops.size).all fun i => !decide (rk ord i < rk ord j) || ((pre.getD j 0).testBit i || (!(L.contains i && L.contains j) && (!L.contains j || A.contains i) && (!L.contains i || A.contains j)) ||
    (L.contains i && L.contains j && (match ops[j]? with | some o => o.after.all fun e => !Region.binds .any e || (decide (rk ord e.on < rk ord i) || L.contains e.on) | none => true)))
/-- Two that wait for nothing: they change places, or both are loud and the later one waits for nothing but what stands ahead of the other. -/
theorem pair_Z {pre : Array Nat} {ord : List Nat} (hf : Fine ops pre [] []) (hz : chkZ ops pre ord L A = true) {listed : Array Bool} (hd : Down ops listed) {i j : Nat} (hi : i ∈ Region.ready .any ops listed) (hj : j ∈ Region.ready .any ops listed) (hij : rk ord i < rk ord j) :
    ∃ oi oj, ops[i]? = some oi ∧ ops[j]? = some oj ∧ oi.apart ops oj = true ∧ oj.apart ops oi = true ∧
      ((¬ (L.contains i = true ∧ L.contains j = true) ∧ (L.contains j = true → A.contains i = true) ∧ (L.contains i = true → A.contains j = true)) ∨
       (L.contains i = true ∧ L.contains j = true ∧ ∀ e ∈ oj.after, Region.binds .any e = true → rk ord e.on < rk ord i ∨ L.contains e.on = true)) := by
  obtain ⟨oi, oj, hoi, hoj, g1, g2, _⟩ := pair_of_ready hf hd hi hj (by rintro rfl; omega)
  refine ⟨oi, oj, hoi, hoj, g1, g2, ?_⟩
  have unl : ∀ k, listed.getD k true = false → listed.getD k false = true → False := by
    intro k h1 h2
    rcases Nat.lt_or_ge k listed.size with h' | h'
    · simp [h'] at h1 h2; rw [h1] at h2; cases h2
    · simp [Array.getElem?_eq_none h'] at h1
  obtain ⟨hiu, _⟩ := mem_ready.1 hi
  obtain ⟨_, oj', hoj', hallj⟩ := mem_ready.1 hj
  rw [hoj] at hoj'; injection hoj' with hoj'; subst hoj'
  have nij : (pre.getD j 0).testBit i = false := by
    cases ht : (pre.getD j 0).testBit i
    · rfl
    · exact (unl i hiu (pre_listed hf hd j oj hoj hallj i ht)).elim
  simp only [chkZ, List.all_eq_true, List.mem_range] at hz
  have h1 := hz j (Array.getElem?_eq_some_iff.1 hoj).1 i (Array.getElem?_eq_some_iff.1 hoi).1
  rw [nij, hoj, decide_eq_true hij] at h1
  simp only [Bool.not_true, Bool.false_or, Bool.or_eq_true, Bool.and_eq_true] at h1
  rcases h1 with ⟨⟨g1, g2⟩, g3⟩ | ⟨⟨g1, g2⟩, g3⟩
  · refine .inl ⟨fun ⟨x, y⟩ => ?_, fun x => ?_, fun x => ?_⟩
    · rw [x, y] at g1; cases g1
    · rw [x] at g2; simpa using g2
    · rw [x] at g3; simpa using g3
  · refine .inr ⟨g1, g2, fun e he hb => ?_⟩
    have := (Array.all_eq_true_iff_forall_mem.1 g3) e he
    simpa [hb] using this
theorem tOp_all {ι : Type} {p : ι → Prop} {j : Nat} {oj : Oper} {a : Act} {w : World} {K : ι → Act → World → Prop} (hi : ops[j]? = some oj) (hL : ¬ L.contains j = true) (hA : A.contains j = true) (hS : S w) (m0 : ι) (h0 : p m0) (h : ∀ m, p m → tOp P ops S L A j (K m) a w) :
    tOp P ops S L A j (fun a w => ∀ m, p m → K m a w) a w := by
  have h1 := h m0 h0
  unfold tOp at h1 ⊢
  simp only [hi] at h1 ⊢
  by_cases hw : Region.wanted oj (yielded ops a.tmps) = true
  · rw [if_pos hw, if_neg hL] at h1 ⊢
    obtain ⟨v, e1, e2, _⟩ := h1
    refine ⟨v, e1, e2, fun m hm => ?_⟩
    have h2 := h m hm
    unfold tOp at h2
    simp only [hi] at h2
    rw [if_pos hw, if_neg hL] at h2
    obtain ⟨u, f1, f2, f3⟩ := h2
    have := Vr.uniq (e2 hA w hS) (f2 hA w hS)
    subst this
    exact f3
  · rw [if_neg hw] at h1 ⊢
    intro m hm
    have h2 := h m hm
    unfold tOp at h2
    simp only [hi] at h2
    rw [if_neg hw] at h2
    exact h2
/-- A quiet operation at the head: it may come up now. -/
theorem ready_lt {listed : Array Bool} {i : Nat} (h : i ∈ Region.ready .any ops listed) : i < ops.size := by
  obtain ⟨_, o, h, _⟩ := mem_ready.1 h; exact (Array.getElem?_eq_some_iff.1 h).1
theorem tAny_quiet {pre : Array Nat} {ord : List Nat} (ho : OrdOk ops ord) (hf : Fine ops pre [] []) (hz : chkZ ops pre ord L A = true) {i : Nat} (hL : ¬ L.contains i = true) : ∀ (fuel : Nat) (listed : Array Bool) (a : Act) (w : World), Down ops listed → i ∈ Region.ready .any ops listed → S w →
    tOp P ops S L A i (tAny P ops Q S L A fuel (listed.setIfInBounds i true)) a w → tAny P ops Q S L A (fuel + 1) listed a w := by
  intro fuel
  induction fuel with
  | zero =>
    intro listed a w hd hr hS H
    refine ⟨fun h => (by rw [h] at hr; cases hr), fun j hj => ?_⟩
    by_cases hji : j = i
    · subst hji; exact H
    · have := ready_mono hj hji
      obtain ⟨a', w', h⟩ := tOp_some H
      rw [h.1] at this
      cases this
  | succ fuel ih =>
    intro listed a w hd hr hS H
    refine ⟨fun h => (by rw [h] at hr; cases hr), fun j hj => ?_⟩
    by_cases hji : j = i
    · subst hji; exact H
    · have hp : ∃ oi oj, ops[i]? = some oi ∧ ops[j]? = some oj ∧ oi.apart ops oj = true ∧ oj.apart ops oi = true ∧ ¬ (L.contains i = true ∧ L.contains j = true) ∧ (L.contains j = true → A.contains i = true) ∧ (L.contains i = true → A.contains j = true) := by
        rcases Nat.lt_or_gt_of_ne (fun e => hji (ho.inj (ready_lt hj) (ready_lt hr) e)) with h | h
        · obtain ⟨oj, oi, hoj, hoi, g1, g2, g3⟩ := pair_Z hf hz hd hj hr h
          rcases g3 with ⟨k1, k2, k3⟩ | ⟨_, k, _⟩
          · exact ⟨oi, oj, hoi, hoj, g2, g1, fun ⟨x, y⟩ => k1 ⟨y, x⟩, k3, k2⟩
          · exact absurd k hL
        · obtain ⟨oi, oj, hoi, hoj, g1, g2, g3⟩ := pair_Z hf hz hd hr hj h
          rcases g3 with ⟨k1, k2, k3⟩ | ⟨k, _⟩
          · exact ⟨oi, oj, hoi, hoj, g1, g2, k1, k2, k3⟩
          · exact absurd k hL
      obtain ⟨oi, oj, hoi, hoj, g1, g2, g3, g4, g5⟩ := hp
      have H2 : tOp P ops S L A i (tOp P ops S L A j (tAny P ops Q S L A fuel ((listed.setIfInBounds i true).setIfInBounds j true))) a w :=
        tOp_mono hS (fun a w _ h => h.2 j (ready_mono hj hji)) H
      have H3 := tOp_swap hoi hoj g1 g2 (fun cs b => hf.sel i oi cs b hoi) (fun cs b => hf.sel j oj cs b hoj) g3 g4 g5 hS H2
      refine tOp_mono hS (fun a' w' _ h => ?_) H3
      refine ih (listed.setIfInBounds j true) a' w' (down_set hd hj) (ready_mono hr (Ne.symm hji)) h.1 ?_
      rw [Array.setIfInBounds_comm _ _ hji]
      exact h.2
/-- A loud operation at the head: whichever loud one comes up first. -/
theorem tAny_loud {pre : Array Nat} {ord : List Nat} (ho : OrdOk ops ord) (hf : Fine ops pre [] []) (hz : chkZ ops pre ord L A = true) {i : Nat} (hL : L.contains i = true) : ∀ (fuel : Nat) (listed : Array Bool) (a : Act) (w : World), Down ops listed → (∀ j, j < ops.size → rk ord j < rk ord i → listed.getD j false = true) → i ∈ Region.ready .any ops listed → S w →
    (∀ m, (m ∈ Region.ready .any ops listed ∧ L.contains m = true) → tOp P ops S L A m (tAny P ops Q S L A fuel (listed.setIfInBounds m true)) a w) → tAny P ops Q S L A (fuel + 1) listed a w := by
  intro fuel
  induction fuel with
  | zero =>
    intro listed a w hd hlow hr hS H
    refine ⟨fun h => (by rw [h] at hr; cases hr), fun j hj => ?_⟩
    by_cases hji : j = i
    · subst hji; exact H j ⟨hj, hL⟩
    · have := ready_mono hj hji
      obtain ⟨a', w', h⟩ := tOp_some (H i ⟨hr, hL⟩)
      rw [h.1] at this
      cases this
  | succ fuel ih =>
    intro listed a w hd hlow hr hS H
    refine ⟨fun h => (by rw [h] at hr; cases hr), fun j hj => ?_⟩
    by_cases hLj : L.contains j = true
    · exact H j ⟨hj, hLj⟩
    · have hall : ∀ m, (m ∈ Region.ready .any ops listed ∧ L.contains m = true) → ∃ om oj, ops[m]? = some om ∧ ops[j]? = some oj ∧ om.apart ops oj = true ∧ oj.apart ops om = true ∧ A.contains j = true := fun m hm => by
        have hmj : m ≠ j := fun e => hLj (e ▸ hm.2)
        rcases Nat.lt_or_gt_of_ne (fun e => hmj (ho.inj (ready_lt hm.1) (ready_lt hj) e)) with h | h
        · obtain ⟨om, oj, k1, k2, k3, k4, k5⟩ := pair_Z hf hz hd hm.1 hj h
          rcases k5 with ⟨_, _, k7⟩ | ⟨_, k, _⟩
          · exact ⟨om, oj, k1, k2, k3, k4, k7 hm.2⟩
          · exact absurd k hLj
        · obtain ⟨oj, om, k1, k2, k3, k4, k5⟩ := pair_Z hf hz hd hj hm.1 h
          rcases k5 with ⟨_, k6, _⟩ | ⟨k, _⟩
          · exact ⟨om, oj, k2, k1, k4, k3, k6 hm.2⟩
          · exact absurd k hLj
      obtain ⟨_, oj, _, hoj, _, _, hAj⟩ := hall i ⟨hr, hL⟩
      have B : ∀ m, (m ∈ Region.ready .any ops listed ∧ L.contains m = true) → tOp P ops S L A j (fun a w => S w ∧ tOp P ops S L A m (tAny P ops Q S L A fuel ((listed.setIfInBounds m true).setIfInBounds j true)) a w) a w := fun m hm => by
        have hmj : j ≠ m := fun e => hLj (e ▸ hm.2)
        obtain ⟨om, oj', hom, hoj', g1, g2, _⟩ := hall m hm
        rw [hoj] at hoj'; injection hoj' with hoj'; subst hoj'
        have H2 : tOp P ops S L A m (tOp P ops S L A j (tAny P ops Q S L A fuel ((listed.setIfInBounds m true).setIfInBounds j true))) a w :=
          tOp_mono hS (fun a w _ h => h.2 j (ready_mono hj hmj)) (H m hm)
        exact tOp_swap hom hoj g1 g2 (fun cs b => hf.sel m om cs b hom) (fun cs b => hf.sel j oj cs b hoj) (fun ⟨_, y⟩ => hLj y) (fun y => absurd y hLj) (fun _ => hAj) hS H2
      refine tOp_mono hS (fun a' w' hS' h => ?_) (tOp_all hoj hLj hAj hS i ⟨hr, hL⟩ B)
      have hji : j ≠ i := fun e => hLj (e ▸ hL)
      refine ih (listed.setIfInBounds j true) a' w' (down_set hd hj) (fun k hks hk => by
        by_cases e : j = k
        · subst e; exact getD_set_true (hlow _ hks hk)
        · rw [getD_set_ne false e]; exact hlow k hks hk) (ready_mono hr (Ne.symm hji)) hS' fun m hm => ?_
      have hmj : j ≠ m := fun e => hLj (e ▸ hm.2)
      have hmr : m ∈ Region.ready .any ops listed := by
        by_cases hmi : m = i
        · subst hmi; exact hr
        · have hd' := down_set hd hj
          have hri := ready_mono hr (Ne.symm hji)
          rcases Nat.lt_or_gt_of_ne (fun e => hmi (ho.inj (ready_lt hm.1) (ready_lt hr) e)) with h | h
          · exfalso
            refine unlisted hm.1 ?_
            rw [getD_set_ne false hmj]
            exact hlow m (ready_lt hm.1) h
          · obtain ⟨_, om, _, hom, _, _, k5⟩ := pair_Z hf hz hd' hri hm.1 h
            rcases k5 with ⟨k, _⟩ | ⟨_, _, k⟩
            · exact absurd ⟨hL, hm.2⟩ k
            · obtain ⟨q1, om', q2, _⟩ := mem_ready.1 hm.1
              rw [hom] at q2; injection q2 with q2; subst q2
              rw [getD_set_ne true hmj] at q1
              obtain ⟨_, om', q3, q4⟩ := mem_ready.1 hm.1
              rw [hom] at q3; injection q3 with q3; subst q3
              refine mem_ready.2 ⟨q1, om, hom, fun e he hb => ?_⟩
              rcases k e he hb with k | k
              · exact hlow _ (Nat.lt_trans (hf.edge m _ hom e he hb) (ready_lt hm.1)) k
              · have q5 := q4 e he hb
                have hne : j ≠ e.on := fun hh => hLj (hh ▸ k)
                rwa [getD_set_ne _ hne] at q5
      rw [Array.setIfInBounds_comm _ _ hmj]
      exact (h m ⟨hmr, hm.2⟩).2
/-- Which loud operations may come up ahead of i: (i, m) in U; but not as long as one is open that m waits for: (m + 1000, j) in U. -/
def altZ (U : List (Nat × Nat)) (i : Nat) (rest : List Nat) : List Nat := rest.filter fun m => U.contains (i, m) && rest.all fun j => !U.contains (m + 1000, j)
/-- The walk in every order of the loud operations; U: those pairs that wait for nothing. -/
def wpZ (P : Program) (ops : Array Oper) (Q : Exit → Act → World → Prop) (S : World → Prop) (L A : List Nat) (U : List (Nat × Nat)) : Nat → List Nat → Act → World → Prop
  | 0, _, a, w => Q .normal a w
  | _ + 1, [], a, w => Q .normal a w
  | n + 1, i :: rest, a, w => if L.contains i then ∀ m ∈ i :: altZ U i rest, tOp P ops S L A m (wpZ P ops Q S L A U n ((i :: rest).erase m)) a w
      else tOp P ops S L A i (wpZ P ops Q S L A U n rest) a w
def chkU (ops : Array Oper) (pre : Array Nat) (ord L : List Nat) (U : List (Nat × Nat)) : Bool :=
  ((List.range ops.size).all fun j => (List.range ops.size).all fun i => !decide (rk ord i < rk ord j) || (pre.getD j 0).testBit i || !(L.contains i && L.contains j) || U.contains (i, j)) && U.all fun p => decide (p.1 < 1000) || (pre.getD (p.1 - 1000) 0).testBit p.2
theorem wpZ_any {pre : Array Nat} {ord : List Nat} {U : List (Nat × Nat)} (ho : OrdOk ops ord) (hf : Fine ops pre [] []) (hz : chkZ ops pre ord L A = true) (hu : chkU ops pre ord L U = true) : ∀ (n : Nat) (pend : List Nat) (listed : Array Bool) (a : Act) (w : World), pend.length = n → pend.Pairwise (rk ord · < rk ord ·) → (∀ m ∈ pend, m < ops.size) → listed.size = ops.size →
    (∀ i, i < ops.size → ∀ d, listed.getD i d = !pend.contains i) → Down ops listed → S w → wpZ P ops Q S L A U n pend a w → tAny P ops Q S L A n listed a w := by
  intro n
  induction n with
  | zero =>
    intro pend listed a w hl hp hb hsz hli hd hS h
    obtain rfl : pend = [] := List.length_eq_zero_iff.1 hl
    exact tAny_nil (fun i hi d => by rw [hli i hi d]; rfl) h
  | succ n ih =>
    intro pend listed a w hl hp hb hsz hli hd hS h
    match pend, hl with
    | i :: rest, hl =>
      have hl' : rest.length = n := by simpa using hl
      obtain ⟨hp1, hp2⟩ := List.pairwise_cons.1 hp
      have hilt := hb i List.mem_cons_self
      have hlow : ∀ j, j < ops.size → rk ord j < rk ord i → listed.getD j false = true := fun j hjs hj => by
        rw [hli j hjs false]
        simp only [Bool.not_eq_true', List.contains_eq_mem, decide_eq_false_iff_not, List.mem_cons, not_or]
        exact ⟨by rintro rfl; omega, fun e => by have := hp1 j e; omega⟩
      have hri : i ∈ Region.ready .any ops listed := by
        refine mem_ready.2 ⟨by rw [hli i hilt true]; simp, _, Array.getElem?_eq_getElem hilt, fun e he hb => hlow _ (Nat.lt_trans (hf.edge i _ (Array.getElem?_eq_getElem hilt) e he hb) hilt) (ho.edge i _ (Array.getElem?_eq_getElem hilt) e he hb)⟩
      have next : ∀ m, m ∈ Region.ready .any ops listed → m ∈ i :: rest → ∀ a w, S w → wpZ P ops Q S L A U n ((i :: rest).erase m) a w → tAny P ops Q S L A n (listed.setIfInBounds m true) a w := fun m hmr hm a w hS h => by
        refine ih _ _ a w (by rw [List.length_erase_of_mem hm, hl]; rfl) (hp.sublist List.erase_sublist) (fun x hx => hb x (List.mem_of_mem_erase hx)) (by simpa using hsz) (fun x hx d => ?_) (down_set hd hmr) hS h
        have hnd : (i :: rest).Nodup := hp.imp (fun {a b} h => by rintro rfl; omega)
        by_cases e : m = x
        · subst e
          have h1 : (listed.setIfInBounds m true).getD m d = true := by simp [hsz, hx]
          rw [h1]
          simp [List.contains_eq_mem, hnd.mem_erase_iff]
        · rw [getD_set_ne d e, hli x hx d]
          congr 1
          simp only [List.contains_eq_mem, hnd.mem_erase_iff]
          have : x ≠ m := fun h => e h.symm
          simp [this]
      unfold wpZ at h
      by_cases hL : L.contains i = true
      · rw [if_pos hL] at h
        refine tAny_loud ho hf hz hL n listed a w hd hlow hri hS fun m hm => ?_
        have hmp : m ∈ i :: rest := by
          obtain ⟨q1, om, q2, _⟩ := mem_ready.1 hm.1
          have := hli m (Array.getElem?_eq_some_iff.1 q2).1 true
          rw [q1] at this
          have hc : (i :: rest).contains m = true := by
            cases hq : (i :: rest).contains m
            · rw [hq] at this; cases this
            · rfl
          simpa [List.contains_eq_mem] using hc
        have hmc : m ∈ i :: altZ U i rest := by
          rcases List.mem_cons.1 hmp with rfl | hmr
          · exact List.mem_cons_self
          · refine List.mem_cons_of_mem _ (List.mem_filter.2 ⟨hmr, ?_⟩)
            have him := hp1 m hmr
            simp only [chkU, Bool.and_eq_true, List.all_eq_true, List.mem_range] at hu
            obtain ⟨hu, hu2⟩ := hu
            have h1 := hu m (hb m hmp) i hilt
            have h2 : (rest.all fun j => !U.contains (m + 1000, j)) = true := by
              refine List.all_eq_true.2 fun j hj => ?_
              cases hc : U.contains (m + 1000, j) with
              | false => rfl
              | true =>
                have h3 := hu2 (m + 1000, j) (by simpa [List.contains_eq_mem] using hc)
                have h4 : ¬ (m + 1000 < 1000) := by omega
                simp only [h4, decide_false, Bool.false_or, Nat.add_sub_cancel] at h3
                obtain ⟨_, om, hom, hall⟩ := mem_ready.1 hm.1
                have h5 := pre_listed hf hd m om hom hall j h3
                have hjb := hb j (List.mem_cons_of_mem _ hj)
                rw [hli j hjb false] at h5
                simp [List.contains_eq_mem, hj] at h5
            rw [decide_eq_true him] at h1
            obtain ⟨_, om, hom, hall⟩ := mem_ready.1 hm.1
            have hn : (pre.getD m 0).testBit i = false := by
              cases ht : (pre.getD m 0).testBit i
              · rfl
              · exact absurd (pre_listed hf hd m om hom hall i ht) (unlisted hri)
            rw [hn, hL, hm.2] at h1
            have h6 : U.contains (i, m) = true := by simpa using h1
            rw [h6, h2]; rfl
        exact tOp_mono hS (fun a' w' hS' hh => next m hm.1 hmp a' w' hS' hh) (h m hmc)
      · rw [if_neg hL] at h
        refine tAny_quiet ho hf hz hL n listed a w hd hri hS ?_
        refine tOp_mono hS (fun a' w' hS' hh => next i hri List.mem_cons_self a' w' hS' ?_) h
        rw [List.erase_cons_head]
        exact hh
theorem wp_region_Z {id : Nat} {a : Act} {w : World} {l : List Oper} (ord L A : List Nat) (U : List (Nat × Nat)) (S : World → Prop) (hm : P.follows .mixedOrders = true) (hc : chk l.toArray (Region.before l.toArray) [] [] = true) (hoc : chkO l.toArray ord = true) (hz : chkZ l.toArray (Region.before l.toArray) ord L A = true) (hu : chkU l.toArray (Region.before l.toArray) ord L U = true)
    (hS : S w.drew) (h : wpZ P l.toArray Q S L A U l.length ord a w.drew) : (Code.region id l.toArray true).wp P Q a w := by
  refine wp_region_any hm (wpAny_of_tAny (L := L) (A := A) (S := S) _ _ _ _ ?_)
  have hsz : l.toArray.size = l.length := by simp
  have ho := chkO_ok hoc
  have hol : ord.length = l.length := ho.len.trans hsz
  have := wpZ_any (P := P) (Q := Q) (S := S) ho (fine_of_chk hc) hz hu l.length ord (Array.replicate l.toArray.size false) a w.drew hol (List.pairwise_iff_getElem.2 fun i j hi hj hij => by rw [ho.pos i hi, ho.pos j hj]; exact hij) ho.lt (by simp)
    (fun i hi d => by
      have hm := ho.mem i hi
      simp only [Array.getD_eq_getD_getElem?, Array.getElem?_replicate, if_pos hi, List.contains_eq_mem]
      simp [hm])
    (fun j o hj hl => by
      have hjl := (Array.getElem?_eq_some_iff.1 hj).1
      simp only [Array.getD_eq_getD_getElem?, Array.getElem?_replicate, if_pos hjl] at hl
      simp at hl) hS h
  rw [hsz]
  exact this
/-- The next operations, in their order. -/
theorem wpZ_seg {U : List (Nat × Nat)} : ∀ (seg : List Oper) (i n : Nat) (rest : List Nat) (a : Act) (w : World), (∀ j, j < seg.length → L.contains (i + j) = false) → (∀ j, j < seg.length → ops[i + j]? = seg[j]?) → wpT P ops (fun _ a w => wpZ P ops Q S L A U n rest a w) S L A seg i a w →
    wpZ P ops Q S L A U (seg.length + n) (List.range' i seg.length ++ rest) a w
  | [], i, n, rest, a, w, _, _, h => by simpa [wpT] using h
  | o :: seg, i, n, rest, a, w, hL, ho, h => by
    have h0 := hL 0 (by simp)
    have o0 := ho 0 (by simp)
    rw [Nat.add_zero] at h0 o0
    have o0 : ops[i]? = some o := by simpa using o0
    rw [List.length_cons, show seg.length + 1 + n = (seg.length + n) + 1 by omega, List.range'_succ, List.cons_append]
    unfold wpZ
    rw [if_neg (by rw [h0]; exact Bool.false_ne_true)]
    have ih := fun a w hh => wpZ_seg (U := U) seg (i + 1) n rest a w (fun j hj => by have := hL (j + 1) (by simp; omega); rwa [show i + 1 + j = i + (j + 1) by omega]) (fun j hj => by have := ho (j + 1) (by simp; omega); rw [show i + 1 + j = i + (j + 1) by omega, this]; simp) hh
    unfold tOp
    simp only [o0]
    unfold wpT at h
    by_cases hw : Region.wanted o (yielded ops a.tmps) = true
    · rw [if_pos hw, if_neg (by rw [h0]; exact Bool.false_ne_true)] at h ⊢
      obtain ⟨v, e1, e2, e3⟩ := h
      exact ⟨v, e1, e2, ih _ _ e3⟩
    · rw [if_neg hw] at h ⊢
      exact ih _ _ h
theorem wpZ_run {U : List (Nat × Nat)} (k : Nat) {i n n' : Nat} {pend pend' : List Nat} {seg : List Oper} {a : Act} {w : World} (hp : pend = List.range' i k ++ pend') (hn : n = k + n') (hs : (ops.toList.drop i).take k = seg) (hk : seg.length = k) (hL : (List.range' i k).all (fun j => !L.contains j) = true)
    (h : wpT P ops (fun _ a w => wpZ P ops Q S L A U n' pend' a w) S L A seg i a w) : wpZ P ops Q S L A U n pend a w := by
  subst hp hn
  have := wpZ_seg (U := U) seg i n' pend' a w (fun j hj => by
    have := List.all_eq_true.1 hL (i + j) (List.mem_range'_1.2 ⟨by omega, by omega⟩)
    simpa using this) (fun j hj => by
    rw [← hs, List.getElem?_take, if_pos (by omega), List.getElem?_drop, Array.getElem?_toList]) h
  rw [hk] at this
  exact this
theorem wpZ_loud {U : List (Nat × Nat)} {i n : Nat} {rest : List Nat} {a : Act} {w : World} (hL : L.contains i = true) (h : ∀ m ∈ i :: altZ U i rest, tOp P ops S L A m (wpZ P ops Q S L A U n ((i :: rest).erase m)) a w) : wpZ P ops Q S L A U (n + 1) (i :: rest) a w := by
  unfold wpZ; rw [if_pos hL]; exact h
theorem wpZ_pick {U : List (Nat × Nat)} {m n : Nat} {pend pend' : List Nat} {o : Oper} {a : Act} {w : World} (he : pend.erase m = pend') (ho : (ops.toList.drop m).head? = some o) (h : wpT P ops (fun _ a w => wpZ P ops Q S L A U n pend' a w) S L A [o] m a w) : tOp P ops S L A m (wpZ P ops Q S L A U n (pend.erase m)) a w := by
  have ho : ops[m]? = some o := by rw [List.head?_drop, Array.getElem?_toList] at ho; exact ho
  rw [he]; unfold tOp; simp only [ho]; exact h
theorem all1 {p : Nat → Prop} {x : Nat} (h : p x) : ∀ m ∈ [x], p m := fun m hm => by simp at hm; subst hm; exact h
theorem wpZ_nil {U : List (Nat × Nat)} {p : List Nat} {a : Act} {w : World} (h : Q .normal a w) : wpZ P ops Q S L A U 0 p a w := h
theorem wpZ_two {U : List (Nat × Nat)} {i n : Nat} {rest cs : List Nat} {a : Act} {w : World} (hL : L.contains i = true) (hc : altZ U i rest = cs) (h : ∀ m ∈ i :: cs, tOp P ops S L A m (wpZ P ops Q S L A U n ((i :: rest).erase m)) a w) : wpZ P ops Q S L A U (n + 1) (i :: rest) a w := by
  subst hc; exact wpZ_loud hL h
theorem all2 {p : Nat → Prop} {x y : Nat} (h : p x ∧ p y) : ∀ m ∈ [x, y], p m := fun m hm => by
  simp at hm
  rcases hm with rfl | rfl
  · exact h.1
  · exact h.2
end
section
variable {P : Program} {w0 w : World} {N : Gh} {st : St} {nt : Nat} {a : Act}
/-- A region that draws its order, in every order of its loud operations. -/
theorem v_drawZ {id : Nat} {Q : Exit → Act → World → Prop} {l : List Oper} (nb : Nat) (ord L A : List Nat) (U : List (Nat × Nat)) (hm : P.follows .mixedOrders = true) (hchk : chk l.toArray (Region.before l.toArray) [] [] = true) (hoc : chkO l.toArray ord = true) (hz : chkZ l.toArray (Region.before l.toArray) ord L A = true) (hu : chkU l.toArray (Region.before l.toArray) ord L U = true) (H : Rel P w0 N nt st a w)
    (hb : (st.bx.take nb).all (fun x => low nb 0 4 x.2) = true)
    (k : ∀ gS, RelT P w0 N nt gS ⟨st.t.filter fun p => low nb 0 4 p.2.2, st.bx.take nb, st.fz, []⟩ st a w.drew → wpZ P l.toArray Q (Mem gS) L A U l.length ord a w.drew) : (Code.region id l.toArray true).wp P Q a w := by
  obtain ⟨g, HI, hF⟩ := H
  have HI' := HI.drew
  have hc := HI'.loose.cut (nr := 0) (Nat.zero_le _) (Nat.zero_le _) hb
  have hgb : ∀ (i : Nat) x, (g.cut nb 0).bx[i]? = some x → g.bx[i]? = some x := fun i x hx => by
    have : (g.bx.take nb)[i]? = some x := hx
    rw [List.getElem?_take] at this
    split at this
    · exact this
    · cases this
  have hle : (g.cut nb 0).le g := ⟨fun _ _ _ h => h, fun i x hx => ⟨x, hgb i x hx, x.same⟩, fun i r hr => by simp [Gh.cut] at hr⟩
  have hbs : Bs (g.cut nb 0) g := fun i x hx => ⟨x, hgb i x hx, rfl, rfl, rfl, rfl, rfl⟩
  have HT : RelT P w0 N nt (g.cut nb 0) ⟨st.t.filter fun p => low nb 0 4 p.2.2, st.bx.take nb, st.fz, []⟩ st a w.drew :=
    ⟨hc.mem, by simp [Gh.cut], ⟨hF.sz, hF.df, fun p hp hg => by
      simp only [List.mem_filter] at hp
      exact (hF.t p hp.1 hg).low_ (d := 3) hp.2, fun p hp hg => hF.u p (List.mem_filter.1 hp).1 hg⟩, hc.br, g, HI', hF, hle, hbs⟩
  exact wp_region_Z ord L A U (Mem (g.cut nb 0)) hm hchk hoc hz hu HT.mem (k _ HT)
end
end Go.Proofs.Ythphhnkoilcofaa
