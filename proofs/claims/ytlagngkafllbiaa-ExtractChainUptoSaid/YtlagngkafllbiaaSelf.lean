/- A region at a function's end in which the named results are loaded and stored again: nothing changes. -/
import Derived.Test.YtlagngkafllbiaaA5
set_option linter.unusedSimpArgs false
set_option linter.unusedVariables false
namespace Go.Proofs.Ytlagngkafllbiaa
open Go Go.RowKit
theorem setRow_id {w : World} {g : Nat} {t : TypeId} {cs : Array Value} (h : Blk w g t cs) : w.setRow g cs = w := by
  have e : (w.setRow g cs).heap = w.heap := by
    apply Array.ext_getElem?
    intro k
    by_cases hk : k = g
    · subst hk; rw [setRow_heap w k cs cs t (0, 0) h]; exact h.symm
    · exact setRow_other w g k cs hk
  cases w
  simp only [World.setRow] at e ⊢
  rw [e]
section
variable {P : Program} {τ : Tab} {w0 w : World} {N : Gh} {st : St} {nt : Nat} {a : Act}
theorem load_box (hτ : τ.ok P) {g : Gh} {bx : List (Ty × AV)} (hB : BR g bx) {T b : Nat} {i : TI} {x : AV} (hi : Tab.get T τ = some i) (hb : bx[b]? = some (i.ty, x)) {u : Value} (hu : RV g (.ptr b []) u) :
    ∃ y : Bx, g.bx[b]? = some y ∧ u = .pointer (some ⟨y.blk, 0, none⟩) ∧ RC g i.ty x y.cells ∧ ∀ w, Mem g w → (Instr.loadAt T u).run P w = .ok (mkV i.ty y.cells) w ∧ (Instr.storeAt T u (mkV i.ty y.cells)).run P w = .ok () w := by
  have hok := Tab.get_ok hτ hi
  obtain ⟨_, y, o, T', hy, hloc, e⟩ := hu.ptr_inv.ptr_inv
  injection e with e
  simp only [Ty.loc, Option.some.injEq, Prod.mk.injEq] at hloc
  obtain ⟨rfl, rfl⟩ := hloc
  obtain ⟨y', hy', hty, hrc⟩ := hB.get hb
  rw [hy] at hy'; injection hy' with hy'; subst hy'
  refine ⟨y, hy, e, hrc, fun w hw => ?_⟩
  have hblk := hw.bx _ _ hy
  subst e
  refine ⟨?_, ?_⟩
  · simp only [Instr.loadAt, Instr.sureAddr, Sem.run_bind, Sem.run_pure, Result.andThen_ok]
    refine run_loadV hok hrc fun j u hu => ?_
    rw [hblk.cell, List.getElem?_toArray, Nat.zero_add]
    exact hu
  · have := run_stV (P := P) (v := mkV i.ty y.cells) hblk (pre := []) (mid := y.cells) (post := []) (news := y.cells) (by simp) T hok hrc.size rfl hrc.one (mkV_cells hrc) rfl
    simp only [List.nil_append, List.append_nil] at this
    rw [setRow_id hblk] at this
    simp only [Instr.storeAt, Instr.sureAddr, Sem.run_bind, Sem.run_pure, Result.andThen_ok]
    exact this
theorem wpT_val {ops : Array Oper} {Q : Exit → Act → World → Prop} {S : World → Prop} {L A : List Nat} {o : Oper} {l : List Oper} {k : Nat} {v : Value} (hg : o.guard = none) (hl : L.contains k = false) (hS : S w) (h1 : ∀ w', S w' → (execOp a.eval o).run P w' = .ok (.value v) w') (h2 : wpT P ops Q S L A l (k + 1) (a.put o.dst v) w) :
    wpT P ops Q S L A (o :: l) k a w := by
  unfold wpT
  rw [if_pos (by simp [Region.wanted, hg]), if_neg (by rw [hl]; exact Bool.false_ne_true)]
  exact ⟨v, (show Vr P o a w v from h1 w hS).qr, fun _ w' hw' => h1 w' hw', h2⟩
theorem wpT_sto {ops : Array Oper} {Q : Exit → Act → World → Prop} {S : World → Prop} {L A : List Nat} {o : Oper} {l : List Oper} {k : Nat} (hg : o.guard = none) (hd : o.dst = none) (hl : L.contains k = true) (hS : S w) (h1 : (execOp a.eval o).run P w = .ok .skip w) (h2 : wpT P ops Q S L A l (k + 1) a w) :
    wpT P ops Q S L A (o :: l) k a w := by
  unfold wpT
  rw [if_pos (by simp [Region.wanted, hg]), if_pos hl]
  unfold Oper.wp
  rw [h1, Oper.upon_skip, hd]
  exact ⟨hS, h2⟩
theorem FR.anew {g : Gh} (hF : FR g nt st a) {d : Nat} {x : AV} {v : Value} (hd : d < nt) (hv : RV g x v) : FR g nt (st.put (some d) none x) (a.put (some d) v) :=
  hF.put (by simp [okDst, hd]) (fun _ => hv) rfl (fun h => absurd trivial h)
theorem v_selfRet {id : Nat} {Q : Exit → Act → World → Prop} {o0 o1 o2 o3 o4 o5 : Oper} {T1 T2 p1 p2 e s1 s2 s3 b1 b2 : Nat} {i1 i2 : TI} {x1 x2 a3 : AV} (hτ : τ.ok P)
    (hm : P.follows .mixedOrders = true) (hchk : chk [o0, o1, o2, o3, o4, o5].toArray (Region.before [o0, o1, o2, o3, o4, o5].toArray) [3, 4] [1, 2] = true) (H : Rel P w0 N nt st a w)
    (h0 : (o0.dst, o0.op, o0.guard) = (some s1, .load T1 (.tmp p1), none)) (h1 : (o1.dst, o1.op, o1.guard) = (some s2, .load T2 (.tmp p2), none)) (h2 : (o2.dst, o2.op, o2.guard) = (some s3, .move (.tmp e), none))
    (h3 : (o3.dst, o3.op, o3.guard) = (none, .store T1 (.tmp p1) (.tmp s1), none)) (h4 : (o4.dst, o4.op, o4.guard) = (none, .store T2 (.tmp p2) (.tmp s2), none)) (h5 : (o5.dst, o5.op, o5.guard) = (some e, .assign (.tmp s3), none))
    (f1 : find p1 st.t = some (none, .ptr b1 [])) (f2 : find p2 st.t = some (none, .ptr b2 [])) (f3 : find e st.t = some (none, a3)) (k1 : Tab.get T1 τ = some i1) (k2 : Tab.get T2 τ = some i2) (g1 : st.bx[b1]? = some (i1.ty, x1)) (g2 : st.bx[b2]? = some (i2.ty, x2))
    (hn : [s1, s2, s3, p1, p2, e].Nodup) (hlt : s1 < nt ∧ s2 < nt ∧ s3 < nt ∧ e < nt)
    (kk : ∀ a w, Rel P w0 N nt ((((st.put (some s1) none x1).put (some s2) none x2).put (some s3) none a3).put (some e) none a3) a w → Q .normal a w) : (Code.region id [o0, o1, o2, o3, o4, o5].toArray true).wp P Q a w := by
  simp only [Prod.mk.injEq] at h0 h1 h2 h3 h4 h5
  obtain ⟨d0, q0, u0⟩ := h0; obtain ⟨d1, q1, u1⟩ := h1; obtain ⟨d2, q2, u2⟩ := h2; obtain ⟨d3, q3, u3⟩ := h3; obtain ⟨d4, q4, u4⟩ := h4; obtain ⟨d5, q5, u5⟩ := h5
  simp only [List.nodup_cons, List.mem_cons, List.not_mem_nil, or_false, not_or] at hn
  obtain ⟨⟨n12, n13, n1p, n1q, n1e⟩, ⟨n23, n2p, n2q, n2e⟩, ⟨n3p, n3q, n3e⟩, ⟨npq, npe⟩, nqe, _⟩ := hn
  obtain ⟨g, HI, hF⟩ := H
  have HI' := HI.drew
  obtain ⟨y1, _, e1, r1, hb1⟩ := load_box hτ HI.br k1 g1 (hF.t _ (find_mem f1) trivial)
  obtain ⟨y2, _, e2, r2, hb2⟩ := load_box hτ HI.br k2 g2 (hF.t _ (find_mem f2) trivial)
  have hv3 : RV g a3 (a.tmps.getD e undef) := hF.t _ (find_mem f3) trivial
  have hM := HI'.mem
  obtain ⟨l1, s1'⟩ := hb1 _ hM
  obtain ⟨l2, s2'⟩ := hb2 _ hM
  have gp : ∀ (a : Act) (d : Nat) (v : Value) (c : Nat), c ≠ d → (a.put (some d) v).tmps.getD c undef = a.tmps.getD c undef := fun a d v c h => getD_put h
  have gs : ∀ (a : Act) (d : Nat) (v : Value), d < a.tmps.size → (a.put (some d) v).tmps.getD d undef = v := fun a d v h => by simp [Act.put, h]
  have hsz := hF.sz
  have sz1 : ∀ (a : Act) (d : Nat) (v : Value), (a.put (some d) v).tmps.size = a.tmps.size := fun a d v => by simp [Act.put]
  have F1 := hF.anew (d := s1) hlt.1 r1.rv.rv'
  have F2 := F1.anew (d := s2) hlt.2.1 r2.rv.rv'
  have F3 := F2.anew (d := s3) hlt.2.2.1 hv3
  have F4 := F3.anew (d := e) hlt.2.2.2 hv3
  refine wp_region_T [3, 4] [1, 2] (fun w' => w' = w.drew) hm hchk rfl ?_
  refine wpT_val (v := mkV i1.ty y1.cells) u0 rfl rfl (fun w' hw' => ?_) ?_
  · subst hw'; unfold execOp; rw [q0]; simp only [show a.eval (.tmp p1) = a.tmps.getD p1 undef from rfl, Sem.run_bind, l1, Result.andThen_ok, Sem.run_pure]
  rw [d0]
  refine wpT_val (v := mkV i2.ty y2.cells) u1 rfl rfl (fun w' hw' => ?_) ?_
  · subst hw'; unfold execOp; rw [q1]; simp only [show ∀ a : Act, a.eval (.tmp p2) = a.tmps.getD p2 undef from fun _ => rfl, gp _ _ _ _ (Ne.symm n1q), Sem.run_bind, l2, Result.andThen_ok, Sem.run_pure]
  rw [d1]
  refine wpT_val (v := a.tmps.getD e undef) u2 rfl rfl (fun w' hw' => ?_) ?_
  · subst hw'; unfold execOp; rw [q2]; simp only [show ∀ a : Act, a.eval (.tmp e) = a.tmps.getD e undef from fun _ => rfl, gp _ _ _ _ (Ne.symm n1e), gp _ _ _ _ (Ne.symm n2e), Sem.run_pure]
  rw [d2]
  refine wpT_sto u3 d3 rfl rfl ?_ ?_
  · unfold execOp; rw [q3]; simp only [show ∀ (a : Act) (c : Nat), a.eval (.tmp c) = a.tmps.getD c undef from fun _ _ => rfl, gp _ _ _ _ n13, gp _ _ _ _ n12, gp _ _ _ _ (Ne.symm n3p), gp _ _ _ _ (Ne.symm n2p), gp _ _ _ _ (Ne.symm n1p), gs a s1 _ (by rw [hsz]; exact hlt.1), Sem.run_bind, s1', Result.andThen_ok, Sem.run_pure]
  refine wpT_sto u4 d4 rfl rfl ?_ ?_
  · unfold execOp; rw [q4]; simp only [show ∀ (a : Act) (c : Nat), a.eval (.tmp c) = a.tmps.getD c undef from fun _ _ => rfl, gp _ _ _ _ n23, gp _ _ _ _ (Ne.symm n3q), gp _ _ _ _ (Ne.symm n2q), gp _ _ _ _ (Ne.symm n1q), gs (a.put (some s1) (mkV i1.ty y1.cells)) s2 _ (by rw [sz1, hsz]; exact hlt.2.1), Sem.run_bind, s2', Result.andThen_ok, Sem.run_pure]
  refine wpT_val (v := a.tmps.getD e undef) u5 rfl rfl (fun w' hw' => ?_) ?_
  · subst hw'; unfold execOp; rw [q5]; simp only [show ∀ (a : Act) (c : Nat), a.eval (.tmp c) = a.tmps.getD c undef from fun _ _ => rfl, gs ((a.put (some s1) (mkV i1.ty y1.cells)).put (some s2) (mkV i2.ty y2.cells)) s3 _ (by rw [sz1, sz1, hsz]; exact hlt.2.2.1), Sem.run_pure]
  rw [d5]
  exact kk _ _ ⟨g, HI', F4⟩
end
end Go.Proofs.Ytlagngkafllbiaa
