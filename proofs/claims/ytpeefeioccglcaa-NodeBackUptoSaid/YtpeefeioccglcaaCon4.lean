/- Calls under a guard. -/
import Derived.Test.YtpeefeioccglcaaDraw
set_option linter.unusedSimpArgs false
set_option linter.unusedVariables false
namespace Go.Proofs.Ytpeefeioccglcaa
open Go Go.RowKit
/-- What a known state is made plain by. -/

theorem pk : type_of% (And.intro @eq_self.{1} <| And.intro @Bool.not_true <| And.intro @Bool.not_false <| And.intro @cond_true.{1} <| And.intro @cond_false.{1} <| And.intro @List.cons_append.{0} <| And.intro @List.nil_append.{0} <| And.intro @List.append_nil.{0} <| And.intro @List.length_cons.{0} <| And.intro @List.length_nil.{0} <| And.intro @List.length_append.{0} <| And.intro @Nat.zero_add <| And.intro @Nat.add_zero <| And.intro @List.set_cons_zero.{0} <| And.intro @List.set_cons_succ.{0} <| And.intro @List.getElem?_cons_zero.{0} <| And.intro @List.getElem?_cons_succ.{0} <| And.intro @or_self <| And.intro @or_false <| And.intro @false_or <| And.intro @decide_true <| And.intro @decide_false <| And.intro @List.map_cons.{0, 0} <| And.intro @List.map_nil.{0, 0} <| And.intro @Int.toNat_natCast <| And.intro @Option.some.injEq.{0} <| And.intro @List.filter_cons.{0} <| And.intro @List.filter_nil.{0} <| And.intro @List.contains_cons.{0} <| And.intro @List.contains_nil.{0} <| And.intro @Bool.or_self <| And.intro @Bool.or_false <| And.intro @Bool.false_or <| And.intro @Bool.or_true <| And.intro @Bool.true_or <| And.intro @Bool.false_eq_true <| And.intro @List.take_succ_cons.{0} <| And.intro @List.take_zero.{0} <| And.intro @List.take_nil.{0} <| And.intro @rep1 <| And.intro @rep2 <| And.intro @rep3 <| And.intro @rep4 <| And.intro @rep5 <| And.intro @UInt8.ofNat_toNat <| And.intro @wrapu8 <| And.intro @wrapu16 <| And.intro @wrapu32 <| And.intro @wrapu64 <| And.intro @Nat.min_def <| And.intro @sub_refl <| And.intro @List.getD_nil.{0} <| And.intro @List.getD_cons_zero.{0} <| And.intro @List.getD_cons_succ.{0} <| And.intro @List.drop_succ_cons.{0} <| And.intro @List.drop_nil.{0} <| And.intro @Option.bind_some.{0, 0} <| And.intro @Option.bind_none.{0, 0} <| And.intro @Option.getD_some.{0} <| And.intro @Nat.sub_zero <| And.intro @Nat.sub_self <| And.intro @Nat.add_sub_cancel_left <| And.intro @Bool.and_self <| And.intro @Bool.and_true <| And.intro @Bool.true_and <| And.intro @List.all_cons.{0} <| And.intro @List.all_nil.{0} <| And.intro @Option.map_some.{0, 0} <| And.intro @Option.map_none.{0, 0} <| And.intro @Int.toNat_zero <| And.intro @List.drop_zero.{0} <| And.intro @List.take_length.{0} <| And.intro @and_self <| And.intro @and_true <| And.intro @true_and <| @implies_true.{0}) :=
  And.intro @eq_self.{1} <| And.intro @Bool.not_true <| And.intro @Bool.not_false <| And.intro @cond_true.{1} <| And.intro @cond_false.{1} <| And.intro @List.cons_append.{0} <| And.intro @List.nil_append.{0} <| And.intro @List.append_nil.{0} <| And.intro @List.length_cons.{0} <| And.intro @List.length_nil.{0} <| And.intro @List.length_append.{0} <| And.intro @Nat.zero_add <| And.intro @Nat.add_zero <| And.intro @List.set_cons_zero.{0} <| And.intro @List.set_cons_succ.{0} <| And.intro @List.getElem?_cons_zero.{0} <| And.intro @List.getElem?_cons_succ.{0} <| And.intro @or_self <| And.intro @or_false <| And.intro @false_or <| And.intro @decide_true <| And.intro @decide_false <| And.intro @List.map_cons.{0, 0} <| And.intro @List.map_nil.{0, 0} <| And.intro @Int.toNat_natCast <| And.intro @Option.some.injEq.{0} <| And.intro @List.filter_cons.{0} <| And.intro @List.filter_nil.{0} <| And.intro @List.contains_cons.{0} <| And.intro @List.contains_nil.{0} <| And.intro @Bool.or_self <| And.intro @Bool.or_false <| And.intro @Bool.false_or <| And.intro @Bool.or_true <| And.intro @Bool.true_or <| And.intro @Bool.false_eq_true <| And.intro @List.take_succ_cons.{0} <| And.intro @List.take_zero.{0} <| And.intro @List.take_nil.{0} <| And.intro @rep1 <| And.intro @rep2 <| And.intro @rep3 <| And.intro @rep4 <| And.intro @rep5 <| And.intro @UInt8.ofNat_toNat <| And.intro @wrapu8 <| And.intro @wrapu16 <| And.intro @wrapu32 <| And.intro @wrapu64 <| And.intro @Nat.min_def <| And.intro @sub_refl <| And.intro @List.getD_nil.{0} <| And.intro @List.getD_cons_zero.{0} <| And.intro @List.getD_cons_succ.{0} <| And.intro @List.drop_succ_cons.{0} <| And.intro @List.drop_nil.{0} <| And.intro @Option.bind_some.{0, 0} <| And.intro @Option.bind_none.{0, 0} <| And.intro @Option.getD_some.{0} <| And.intro @Nat.sub_zero <| And.intro @Nat.sub_self <| And.intro @Nat.add_sub_cancel_left <| And.intro @Bool.and_self <| And.intro @Bool.and_true <| And.intro @Bool.true_and <| And.intro @List.all_cons.{0} <| And.intro @List.all_nil.{0} <| And.intro @Option.map_some.{0, 0} <| And.intro @Option.map_none.{0, 0} <| And.intro @Int.toNat_zero <| And.intro @List.drop_zero.{0} <| And.intro @List.take_length.{0} <| And.intro @and_self <| And.intro @and_true <| And.intro @true_and <| @implies_true.{0}
theorem cd {c : Prop} (h : c := by ((repeat' (apply And.intro)) <;> first | exact True.intro | assumption | omega | (intro hg; simp at hg; omega) | (intro hg; simp at hg; (repeat' (apply And.intro)) <;> first | omega | (simp; omega)) | (simp; done) | (simp; omega) | (simp [ilo, ihi, IntKind.bits]; omega) | (simp [fit, AV.put]; done) | (simp [fit, AV.put]; omega))) : c := h
section
variable {P : Program} {τ : Tab} {w0 w : World} {N : Gh} {g gS : Gh} {st st' sq sq' : St} {nt : Nat} {a : Act}
def cargsG (st : St) (c : Gd) (js ks : List Nat) (xs : List Operand) : List AV := xs.map fun x => ren (idx? js) (idx? ks) 4 (st.ev c x)
theorem cargs_okG {c : Gd} (hg : gholds a c) (HI : Inv P w0 N g st.bx st.fz st.rw w) (hF : FR g nt st a) {js ks : List Nat} (hj : ∀ j ∈ js, j < st.bx.length) (hk : ∀ k ∈ ks, k < st.rw.length) {xs : List Operand} {args : List AV} (hx : xs.all (fun x => argOk js (st.ev c x)) = true) (ha : allP (sub 4) (cargsG st c js ks xs) args) :
    args.length = xs.length ∧ ∀ (i : Nat) x v, args[i]? = some x → (xs.map a.eval)[i]? = some v → RV (g.pick js ks) x v := by
  obtain ⟨h1, h2⟩ := allP_get ha
  refine ⟨by rw [← h1]; simp [cargsG], fun i x v hi hv => ?_⟩
  obtain ⟨y, hy, hs⟩ := h2 i x hi
  unfold cargsG at hy
  rw [List.getElem?_map] at hy hv
  obtain ⟨o, ho, rfl⟩ := Option.map_eq_some_iff.1 hy
  rw [ho] at hv
  simp only [Option.map_some, Option.some.injEq] at hv
  subst hv
  have hc := List.all_eq_true.1 hx o (List.mem_of_getElem? ho)
  simp only [argOk, Bool.and_eq_true, Bool.not_eq_true'] at hc
  have hr := ev_sound hF hg o
  have hlr : g.rw.length = st.rw.length := by rw [← HI.wr, List.length_map]
  have hp := hr.pick_ (js := js) (ks := ks) (d := 3) (fun j hm => by rw [HI.br.len]; exact hj j hm) (fun k hm => by rw [hlr]; exact hk k hm) hc.1.1
  have ht : ∀ az, st.ev c o ≠ .tup az := fun az e => by rw [e] at hc; simp at hc
  exact ((hp.rv1 (ren_any hc.1.2) (ren_tup ht)).sub_ hs).rv
/-- A call under a guard that leaves boxes and rows as they are. -/
theorem v_callG {ops : Array Oper} {Q : Exit → Act → World → Prop} {rest : List Oper} {o : Oper} {f : FuncId} {xs : List Operand} {ats : Array TypeId} {bxc bx' : List (Ty × AV)} {fzc fz' : List Nat} {rwc rw' : List (TypeId × Nat)} {args : List AV} {res : AV} {c : Gd} (js ks : List Nat)
    (hc : VX P f bxc fzc rwc args bx' fz' rw' res) (H : Rel P w0 N nt st a w)
    (hgd : gdOf ops o = some c) (ho : o.op = .call ⟨.value (.func f), xs.toArray, ats⟩) (hchk : (okSel js st.bx.length && okSel ks st.rw.length && usesB js st.bx && fzOk js st.fz fzc 0 && xs.all (fun x => argOk js (st.ev c x)) && uses some 4 res && bx'.all (fun x => uses some 4 x.2) && okDst nt c o.dst) = true)
    (hb : bxs (pickB js ks st.bx) bxc) (hr : ks.filterMap (st.rw[·]?) = rwc) (ha : allP (sub 4) (cargsG st c js ks xs) args)
    (hmb : mergeL st.bx js (renB js ks st.bx.length st.rw.length bx') = st.bx) (hmf : fz'.map (nth js st.bx.length) = []) (hmr : mergeL st.rw ks rw' = st.rw)
    (k : ∀ a w, Rel P w0 N nt (st.put o.dst c (ren (fun k => some (nth js st.bx.length k)) (fun k => some (nth ks st.rw.length k)) 4 res)) a w → wpList P ops Q rest a w) : wpList P ops Q (o :: rest) a w := by
  obtain ⟨hfok, hcall⟩ := hc
  obtain ⟨g, HI, hF⟩ := H
  simp only [Bool.and_eq_true] at hchk
  obtain ⟨⟨⟨⟨⟨⟨⟨c1, c2⟩, c3⟩, c4⟩, c5⟩, c6⟩, c7⟩, c8⟩ := hchk
  obtain ⟨hj, nj⟩ := okSel_ok c1
  obtain ⟨hk, nk⟩ := okSel_ok c2
  refine wpList_step fun K hK => ?_
  by_cases hw : Region.wanted o (yielded ops a.tmps) = true
  · rw [if_pos hw]
    obtain ⟨h1, h2⟩ := cargs_okG ((gdOf_wanted hgd).1 hw) HI hF hj hk c5 ha
    unfold Oper.wp
    rw [run_callF hfok xs ats ho w, Oper.upon_enter]
    have HP : Inv P w (g.pick js ks) (g.pick js ks) bxc fzc rwc w := HI.pick js ks hj hk nj nk (usesB_ok c3) hb (fun i j hi hm => by simpa using fzOk_ok c4 i j hi hm) hr
      ⟨Kept.refl _ _, fun i x hx => .inr ⟨x, hx, rfl⟩, fun i r k hr hrk => .inr ⟨r, hr, hrk⟩, fun _ _ _ _ => rfl, Gh.le.refl _⟩
    refine (hcall w (g.pick js ks) (xs.map a.eval) HP (by simp [h1]) h2).mono fun e w' hp => ?_
    obtain ⟨g1, v, rfl, HI1, hv⟩ := hp
    obtain ⟨k1, k2, k3, k4⟩ := HI.call HI1 hj hk nj nk (fun x hx => List.all_eq_true.1 c7 x hx)
    have hv' := hv.ren_ (g1 := g1) (g2 := ⟨g1.ro, mergeL g.bx js g1.bx, mergeL g.rw ks g1.rw⟩) (fb := fun k => some (nth js st.bx.length k)) (fr := fun k => some (nth ks st.rw.length k)) (d := 3) rfl (fun i j x hij hx => by injection hij with hij; subst hij; exact k3 i x hx) (fun i j x hij hx => by injection hij with hij; subst hij; exact k4 i x hx) (uses_some c6)
    rw [hmb, hmf, hmr, List.append_nil] at k2
    refine hK _ _ (k _ _ ⟨_, ?_, (hF.mono k1).put c8 (fun _ => hv') rfl⟩)
    cases o.dst <;> exact k2
  · rw [if_neg hw]
    refine hK _ _ (k _ _ ⟨g, ?_, hF.put c8 (fun hg => absurd ((gdOf_wanted hgd).2 hg) hw) rfl⟩)
    cases o.dst <;> exact HI
/-- The same where the order is drawn. -/
theorem v_callTG {ops : Array Oper} {Q : Exit → Act → World → Prop} {L A : List Nat} {k : Nat} {rest : List Oper} {o : Oper} {f : FuncId} {xs : List Operand} {ats : Array TypeId} {bxc bx' : List (Ty × AV)} {fzc fz' : List Nat} {rwc rw' : List (TypeId × Nat)} {args : List AV} {res : AV} {c : Gd} (js ks : List Nat)
    (hc : VX P f bxc fzc rwc args bx' fz' rw' res) (H : RelT P w0 N nt gS sq st a w) (hL : L.contains k = true) (hjs : js.all (fun j => decide (sq.bx.length ≤ j)) = true)
    (hgd : gdOf ops o = some c) (ho : o.op = .call ⟨.value (.func f), xs.toArray, ats⟩) (hchk : (okSel js st.bx.length && okSel ks st.rw.length && usesB js st.bx && fzOk js st.fz fzc 0 && xs.all (fun x => argOk js (st.ev c x)) && uses some 4 res && bx'.all (fun x => uses some 4 x.2) && okDst nt c o.dst) = true)
    (hb : bxs (pickB js ks st.bx) bxc) (hr : ks.filterMap (st.rw[·]?) = rwc) (ha : allP (sub 4) (cargsG st c js ks xs) args)
    (hmb : mergeL st.bx js (renB js ks st.bx.length st.rw.length bx') = st.bx) (hmf : fz'.map (nth js st.bx.length) = []) (hmr : mergeL st.rw ks rw' = st.rw)
    (kk : ∀ a w, RelT P w0 N nt gS (sq.lose o.dst) (st.put o.dst c (ren (fun k => some (nth js st.bx.length k)) (fun k => some (nth ks st.rw.length k)) 4 res)) a w → wpT P ops Q (Mem gS) L A rest (k + 1) a w) : wpT P ops Q (Mem gS) L A (o :: rest) k a w := by
  obtain ⟨hfok, hcall⟩ := hc
  obtain ⟨hM, hrw, hFq, hBq, g, HI, hF, hle, hbs⟩ := H
  simp only [Bool.and_eq_true] at hchk
  obtain ⟨⟨⟨⟨⟨⟨⟨c1, c2⟩, c3⟩, c4⟩, c5⟩, c6⟩, c7⟩, c8⟩ := hchk
  obtain ⟨hj, nj⟩ := okSel_ok c1
  obtain ⟨hk, nk⟩ := okSel_ok c2
  unfold wpT
  by_cases hw : Region.wanted o (yielded ops a.tmps) = true
  · rw [if_pos hw, if_pos hL]
    obtain ⟨h1, h2⟩ := cargs_okG ((gdOf_wanted hgd).1 hw) HI hF hj hk c5 ha
    unfold Oper.wp
    rw [run_callF hfok xs ats ho w, Oper.upon_enter]
    have HP : Inv P w (g.pick js ks) (g.pick js ks) bxc fzc rwc w := HI.pick js ks hj hk nj nk (usesB_ok c3) hb (fun i j hi hm => by simpa using fzOk_ok c4 i j hi hm) hr
      ⟨Kept.refl _ _, fun i x hx => .inr ⟨x, hx, rfl⟩, fun i r k hr hrk => .inr ⟨r, hr, hrk⟩, fun _ _ _ _ => rfl, Gh.le.refl _⟩
    refine (hcall w (g.pick js ks) (xs.map a.eval) HP (by simp [h1]) h2).mono fun e w' hp => ?_
    obtain ⟨g1, v, rfl, HI1, hv⟩ := hp
    obtain ⟨k1, k2, k3, k4⟩ := HI.call HI1 hj hk nj nk (fun x hx => List.all_eq_true.1 c7 x hx)
    have hv' := hv.ren_ (g1 := g1) (g2 := ⟨g1.ro, mergeL g.bx js g1.bx, mergeL g.rw ks g1.rw⟩) (fb := fun k => some (nth js st.bx.length k)) (fr := fun k => some (nth ks st.rw.length k)) (d := 3) rfl (fun i j x hij hx => by injection hij with hij; subst hij; exact k3 i x hx) (fun i j x hij hx => by injection hij with hij; subst hij; exact k4 i x hx) (uses_some c6)
    have hbs' : Bs gS ⟨g1.ro, mergeL g.bx js g1.bx, mergeL g.rw ks g1.rw⟩ := fun i x hx => by
      obtain ⟨y, h3, h4⟩ := hbs i x hx
      refine ⟨y, merge_old (fun hm => ?_) h3, h4⟩
      have h5 := List.all_eq_true.1 hjs i hm
      simp only [decide_eq_true_eq] at h5
      have h6 := (List.getElem?_eq_some_iff.1 hx).1
      rw [hBq.len] at h6; omega
    rw [hmb, hmf, hmr, List.append_nil] at k2
    have hM' := MemS (st := st) hM hrw k2 (hle.trans k1) hbs'
    refine ⟨hM', kk _ _ ⟨hM', hrw, hFq.lose v, by rw [lose_bx]; exact hBq, _, ?_, (hF.mono k1).put c8 (fun _ => hv') rfl, hle.trans k1, hbs'⟩⟩
    rw [(put_bx _ _ _ _).1, (put_bx _ _ _ _).2.1, (put_bx _ _ _ _).2.2]
    exact k2
  · rw [if_neg hw]
    exact kk _ _ ⟨hM, hrw, hFq.lose undef, by rw [lose_bx]; exact hBq, g, by rw [(put_bx _ _ _ _).1, (put_bx _ _ _ _).2.1, (put_bx _ _ _ _).2.2]; exact HI, hF.put c8 (fun hg => absurd ((gdOf_wanted hgd).2 hg) hw) rfl, hle, hbs⟩
end
end Go.Proofs.Ytpeefeioccglcaa
