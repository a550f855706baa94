/- Slices on their own that may be written: lent to a frame as a box that grows, and given back. -/
import Derived.Test.YtigmpdhnhkdeiaaXsT
import Derived.Test.YtigmpdhnhkdeiaaReadS
import Derived.Test.YtigmpdhnhkdeiaaSk
set_option linter.unusedSimpArgs false
set_option linter.unusedVariables false
namespace Go.Proofs.Ytigmpdhnhkdeiaa
open Go Go.RowKit
/-- As Fr, but for blocks of which L holds. -/
structure FrZ (L : Nat → Prop) (w0 : World) (N g : Gh) (w : World) : Prop where
  os : w.os = w0.os
  tape : w.tape = w0.tape
  output : w.output = w0.output
  size : w0.heap.size ≤ w.heap.size
  block : ∀ k, k < w0.heap.size → ¬ L k → ¬ N.has k → w.heap[k]? = w0.heap[k]?
  bx : ∀ (i : Nat) (x : Bx), g.bx[i]? = some x → x.off = false → w0.heap.size ≤ x.blk ∨ ∃ y, N.bx[i]? = some y ∧ y.off = false ∧ y.blk = x.blk
  rw : ∀ (i : Nat) (r : Rw) (k : Nat), g.rw[i]? = some r → r.v.ownBlock = some k → w0.heap.size ≤ k ∨ ∃ s, N.rw[i]? = some s ∧ s.v.ownBlock = some k
  ro : ∀ b, b < w0.heap.size → ¬ L b → ¬ N.has b → ∀ o, g.ro b o = N.ro b o
  le : N.le g
theorem FrZ.of {w0 w : World} {N g : Gh} (h : Fr w0 N g w) (L : Nat → Prop) : FrZ L w0 N g w := ⟨h.kept.os, h.kept.tape, h.kept.output, h.kept.size, fun k hk _ hn => h.kept.block k hk hn, h.bx, h.rw, fun b hb _ hn => h.ro b hb hn, h.le⟩
theorem FrZ.fr {w0 w : World} {N g : Gh} {L : Nat → Prop} (h : FrZ L w0 N g w) (hL : ∀ b, L b → w0.heap.size ≤ b) : Fr w0 N g w := ⟨⟨h.os, h.tape, h.output, h.size, fun k hk hn => h.block k hk (fun e => by have := hL k e; omega) hn⟩, h.bx, h.rw, fun b hb hn => h.ro b hb (fun e => by have := hL b e; omega) hn, h.le⟩
theorem FrZ.back {w0 w : World} {N g : Gh} {L : Nat → Prop} (h : FrZ L w0 N g w) {b : Nat} (hb : b < w0.heap.size) (hh : g.has b) : N.has b := by
  rcases hh with ⟨y, hy, hyo, he⟩ | ⟨s, hr, he⟩
  · obtain ⟨i, hi⟩ := List.getElem?_of_mem hy
    rcases h.bx i y hi hyo with h3 | ⟨z, h3, h4, h5⟩
    · omega
    · exact .inl ⟨z, List.mem_of_getElem? h3, h4, h5.trans he⟩
  · obtain ⟨i, hi⟩ := List.getElem?_of_mem hr
    rcases h.rw i s b hi he with h3 | ⟨z, h3, h4⟩
    · omega
    · exact .inr ⟨z, List.mem_of_getElem? h3, h4⟩
theorem FrZ.trans {w0 w1 w : World} {N N1 g : Gh} {L : Nat → Prop} (h : FrZ L w0 N N1 w1) (k : FrZ L w1 N1 g w) : FrZ L w0 N g w := by
  have hs := h.size
  refine ⟨k.os.trans h.os, k.tape.trans h.tape, k.output.trans h.output, Nat.le_trans h.size k.size, fun b hb hl hn => (k.block b (by omega) hl (fun hh => hn (h.back hb hh))).trans (h.block b hb hl hn), fun i x hx hxo => ?_, fun i r b hr hrb => ?_, fun b hb hl hn o => (k.ro b (by omega) hl (fun hh => hn (h.back hb hh)) o).trans (h.ro b hb hl hn o), h.le.trans k.le⟩
  · rcases k.bx i x hx hxo with h1 | ⟨y, h1, h2, h3⟩
    · exact .inl (by omega)
    · rw [← h3]; exact h.bx i y h1 h2
  · rcases k.rw i r b hr hrb with h1 | ⟨s, h1, h2⟩
    · exact .inl (by omega)
    · exact h.rw i s b h1 h2
/-- A slice on its own of which nothing is read-only. -/
structure XOkF (L : Nat → Prop) (g : Gh) (w : World) (x : XR) : Prop where
  le : x.n ≤ x.c ∧ x.c ≤ maxLen
  nil : x.A = none → x.c = 0
  own : ∀ b, x.A = some b → ¬ g.has b ∧ L b ∧ Blk w b x.tid x.cells.toArray ∧ ∀ o, g.ro b o = none
structure XsF (L : Nat → Prop) (g : Gh) (w : World) (X : List XR) : Prop where
  ok : ∀ x ∈ X, XOkF L g w x
  un : XApart X
/-- A slice on its own holds elements. -/
structure XH (x : XR) (e : TypeId) (T : Ty) (es : List AV) : Prop where
  n : x.n = es.length
  tid : x.tid = e
  k : x.k = 0
  pos : 0 < T.size
  cells : ∃ F sp, x.cells = (List.range es.length).flatMap F ++ sp ∧ x.cells.length = x.c * T.size ∧ (∀ u ∈ sp, u.oneCell' = true) ∧ ∀ (g : Gh) k (h : k < es.length), RC g T es[k] (F k)
section
variable {P : Program} {τ : Tab} {w0 w w1 w2 : World} {N N1 N2 : Gh} {g g1 gS : Gh} {st st' sq sq' : St} {nt : Nat} {a : Act} {L : Nat → Prop} {X Y X1 X2 : List XR}
theorem XOkF.step {x : XR} (h : XOkF L N1 w1 x) {bx : List (Ty × AV)} {fz : List Nat} {rw : List (TypeId × Nat)} (HI : Inv P w1 N1 g bx fz rw w) : XOkF L g w x := by
  have hB := FrZ.of HI.fr L
  refine ⟨h.le, h.nil, fun b hb => ?_⟩
  obtain ⟨h1, h2, h3, h4⟩ := h.own b hb
  exact ⟨fun hh => h1 (hB.back h3.lt hh), h2, h3.kept HI.fr.kept h1, fun o => by rw [HI.fr.ro b h3.lt h1 o]; exact h4 o⟩
theorem XsF.step (h : XsF L N1 w1 X) {bx : List (Ty × AV)} {fz : List Nat} {rw : List (TypeId × Nat)} (HI : Inv P w1 N1 g bx fz rw w) : XsF L g w X := ⟨fun x hx => (h.ok x hx).step HI, h.un⟩
/-- A frame, and slices on their own that may be written. -/
def RelY (L : Nat → Prop) (P : Program) (w0 : World) (N : Gh) (nt : Nat) (st : St) (X : List XR) (a : Act) (w : World) : Prop :=
  ∃ g, Inv P w g g st.bx st.fz st.rw w ∧ FrZ L w0 N g w ∧ FR g nt st a ∧ XsF L g w X
theorem RelY.open_ (H : RelY L P w0 N nt st X a w) : ∃ N1, FrZ L w0 N N1 w ∧ XsF L N1 w X ∧ Rel P w N1 nt st a w ∧ N1.bx.length = st.bx.length ∧ N1.rw.length = st.rw.length := by
  obtain ⟨g, HI, hB, hF, hX⟩ := H
  exact ⟨g, hB, hX, ⟨g, HI, hF⟩, HI.br.len, by rw [← HI.wr, List.length_map]⟩
theorem RelY.close (hB : FrZ L w0 N N1 w1) (hX : XsF L N1 w1 X) (H : Rel P w1 N1 nt st a w) : RelY L P w0 N nt st X a w := by
  obtain ⟨g, HI, hF⟩ := H
  exact ⟨g, HI.self, hB.trans (.of HI.fr L), hF, hX.step HI⟩
def RelYT (L : Nat → Prop) (P : Program) (w0 : World) (N : Gh) (nt : Nat) (gS : Gh) (sq st : St) (X : List XR) (a : Act) (w : World) : Prop :=
  Mem gS w ∧ gS.rw = [] ∧ FR gS nt sq a ∧ BR gS sq.bx ∧ ∃ g, Inv P w g g st.bx st.fz st.rw w ∧ FrZ L w0 N g w ∧ FR g nt st a ∧ gS.le g ∧ Bs gS g ∧ XsF L g w X
theorem RelYT.open_ (H : RelYT L P w0 N nt gS sq st X a w) : ∃ N1, FrZ L w0 N N1 w ∧ XsF L N1 w X ∧ RelT P w N1 nt gS sq st a w ∧ N1.bx.length = st.bx.length ∧ N1.rw.length = st.rw.length := by
  obtain ⟨hM, hrw, hFq, hBq, g, HI, hB, hF, hle, hbs, hX⟩ := H
  exact ⟨g, hB, hX, ⟨hM, hrw, hFq, hBq, g, HI, hF, hle, hbs⟩, HI.br.len, by rw [← HI.wr, List.length_map]⟩
theorem RelYT.close (hB : FrZ L w0 N N1 w1) (hX : XsF L N1 w1 X) (H : RelT P w1 N1 nt gS sq st a w) : RelYT L P w0 N nt gS sq st X a w := by
  obtain ⟨hM, hrw, hFq, hBq, g, HI, hF, hle, hbs⟩ := H
  exact ⟨hM, hrw, hFq, hBq, g, HI.self, hB.trans (.of HI.fr L), hF, hle, hbs, hX.step HI⟩
theorem nfY {s2 : St} (H : RelY L P w0 N nt st X a w) (h : st = s2 := by exact nfs) : RelY L P w0 N nt s2 X a w := h ▸ H
/-- The box that a slice on its own is. -/
def XR.box (x : XR) (e : TypeId) (T : Ty) : Bx := ⟨x.A.getD 0, e, .vc e T, x.cells, false, 0, x.c, x.A.isNone, none⟩
/-- One slice is lent: what is known while it is. -/
structure Lent1 (L : Nat → Prop) (w0 : World) (N g1 : Gh) (w1 : World) (X1 X2 : List XR) (y : Bx) : Prop where
  fr : FrZ L w0 N g1 w1
  xs : XsF L g1 w1 (X1 ++ X2)
  own : y.off = false → L y.blk ∧ ¬ g1.has y.blk ∧ (∀ x ∈ X1 ++ X2, x.A ≠ some y.blk) ∧ y.blk < w1.heap.size
def Gh.push (g : Gh) (y : Bx) : Gh := ⟨g.ro, g.bx ++ [y], g.rw⟩
theorem Gh.le_push (g : Gh) (y : Bx) : g.le (g.push y) := ⟨fun _ _ _ h => h, fun i z hz => ⟨z, by show (g.bx ++ [y])[i]? = some z; rw [List.getElem?_append_left (List.getElem?_eq_some_iff.1 hz).1]; exact hz, z.same⟩, fun _ r h => ⟨r, h, rfl, rfl, rfl, Nat.le_refl _, fun _ => rfl⟩⟩
theorem Gh.bs_push (g : Gh) (y : Bx) : Bs g (g.push y) := fun i z hz => ⟨z, by show (g.bx ++ [y])[i]? = some z; rw [List.getElem?_append_left (List.getElem?_eq_some_iff.1 hz).1]; exact hz, rfl, rfl, rfl, rfl, rfl⟩
theorem push_has {g : Gh} {y : Bx} {b : Nat} (h : (g.push y).has b) : g.has b ∨ (y.off = false ∧ y.blk = b) := by
  rcases h with ⟨z, hz, h1, h2⟩ | ⟨s, hs, h⟩
  · rcases List.mem_append.1 hz with hz | hz
    · exact .inl (.inl ⟨z, hz, h1, h2⟩)
    · obtain rfl := List.mem_singleton.1 hz; exact .inr ⟨h1, h2⟩
  · exact .inl (.inr ⟨s, hs, h⟩)
theorem lend_inv {x : XR} {e : TypeId} {T : Ty} {es : List AV} (HI : Inv P w g g st.bx st.fz st.rw w) (hB : FrZ L w0 N g w) (hX : XsF L g w (X1 ++ x :: X2)) (hx : XH x e T es) :
    Lent1 L w0 N g w X1 X2 (x.box e T) ∧ Inv P w (g.push (x.box e T)) (g.push (x.box e T)) (st.bx ++ [(.vc e T, .vc 0 es)]) st.fz st.rw w ∧ RV (g.push (x.box e T)) (.vw st.bx.length 0 es.length) x.v := by
  obtain ⟨F, sp, c1, c2, c3, c4⟩ := hx.cells
  have hxm : x ∈ X1 ++ x :: X2 := List.mem_append_right _ List.mem_cons_self
  have hok := hX.ok x hxm
  have hnil : x.A = none → x.cells = [] := fun h => by
    have := hok.nil h
    apply List.length_eq_zero_iff.1
    rw [c2, this, Nat.zero_mul]
  have hsub : ∀ z ∈ X1 ++ X2, z ∈ X1 ++ x :: X2 := fun z hz => by
    rcases List.mem_append.1 hz with h | h
    · exact List.mem_append_left _ h
    · exact List.mem_append_right _ (List.mem_cons_of_mem _ h)
  have hun := hX.un
  unfold XApart at hun
  rw [List.pairwise_append] at hun
  obtain ⟨u1, u2, u3⟩ := hun
  rw [List.pairwise_cons] at u2
  have hap : ∀ z ∈ X1 ++ X2, x.A = none ∨ z.A ≠ x.A := fun z hz => by
    rcases List.mem_append.1 hz with h | h
    · rcases u3 z h x List.mem_cons_self with h1 | h1
      · cases hA : x.A with
        | none => exact .inl rfl
        | some b => exact .inr (by rw [h1]; rintro ⟨⟩)
      · exact .inr h1
    · rcases u2.1 z h with h1 | h1
      · exact .inl h1
      · exact .inr fun e2 => h1 e2.symm
  have hown : (x.box e T).off = false → ∃ b, x.A = some b ∧ (x.box e T).blk = b := fun h => by
    have h' : x.A.isNone = false := h
    cases hA : x.A with
    | none => rw [hA] at h'; cases h'
    | some b => exact ⟨b, rfl, by show x.A.getD 0 = b; rw [hA]; rfl⟩
  have hfree : (x.box e T).off = false → ¬ g.has (x.box e T).blk := fun h => by
    obtain ⟨b, h1, h2⟩ := hown h
    rw [h2]; exact (hok.own b h1).1
  have hL : Lent1 L w0 N g w X1 X2 (x.box e T) := by
    refine ⟨hB, ⟨fun z hz => hX.ok z (hsub z hz), ?_⟩, fun h => ?_⟩
    · unfold XApart
      rw [List.pairwise_append]
      exact ⟨u1, u2.2, fun z hz y hy => u3 z hz y (List.mem_cons_of_mem _ hy)⟩
    · obtain ⟨b, h1, h2⟩ := hown h
      rw [h2]
      obtain ⟨o1, o2, o3, _⟩ := hok.own b h1
      refine ⟨o2, o1, fun z hz => ?_, o3.lt⟩
      rcases hap z hz with h3 | h3
      · rw [h1] at h3; cases h3
      · rw [← h1]; exact h3
  have hnew : (g.push (x.box e T)).bx[st.bx.length]? = some (x.box e T) := by
    show (g.bx ++ [x.box e T])[st.bx.length]? = _
    rw [← HI.br.len]; simp
  have old : ∀ i y, (g.push (x.box e T)).bx[i]? = some y → g.bx[i]? = some y ∨ (i = g.bx.length ∧ y = x.box e T) := fun i y hy => getElem?_snoc hy
  have hle := g.le_push (x.box e T)
  have hty : (x.box e T).ty = .vc e T := rfl
  refine ⟨hL, ⟨⟨HI.mem.ro, fun i y hy hyo => ?_, fun i y hy hyo => ?_, fun i y hy hyo => ?_, HI.mem.rw, fun i y hy hf => ?_, fun i y hy hyo hf => ?_, fun i j y z hy hz hyo hzo he => ?_, HI.mem.rro, HI.mem.rwo, fun i j y r hy hr hyo => ?_, HI.mem.rr⟩,
    ⟨Kept.refl _ _, fun i y hy hyo => .inr ⟨y, hy, hyo, rfl⟩, fun i r k hr hrk => .inr ⟨r, hr, hrk⟩, fun _ _ _ _ => rfl, Gh.le.refl _⟩, ⟨?_, fun i T' a' hi => ?_⟩, fun i y hy hf => ?_, HI.wr, HI.wz⟩, ?_⟩
  · rcases old i y hy with h1 | ⟨_, rfl⟩
    · exact HI.mem.bx i y h1 hyo
    · obtain ⟨b, h1, h2⟩ := hown hyo
      obtain ⟨_, _, o3, _⟩ := hok.own b h1
      refine .of rfl ?_
      rw [h2, ← hx.tid]; exact o3
  · rcases old i y hy with h1 | ⟨_, rfl⟩
    · exact HI.mem.offc i y h1 hyo
    · refine hnil ?_
      have : x.A.isNone = true := hyo
      cases hA : x.A with
      | none => rfl
      | some b => rw [hA] at this; cases this
  · rcases old i y hy with h1 | ⟨_, rfl⟩
    · exact HI.mem.mpc i y h1 hyo
    · cases hyo
  · rcases old i y hy with h1 | ⟨_, rfl⟩
    · exact HI.mem.fro i y h1 hf
    · cases hf
  · rcases old i y hy with h1 | ⟨_, rfl⟩
    · exact HI.mem.bro i y h1 hyo hf
    · obtain ⟨b, h1, h2⟩ := hown hyo
      rw [h2]; exact (hok.own b h1).2.2.2
  · rcases old i y hy with h1 | ⟨e1, rfl⟩
    · rcases old j z hz with h2 | ⟨e2, rfl⟩
      · exact HI.mem.bb i j y z h1 h2 hyo hzo he
      · exact absurd (.inl ⟨y, List.mem_of_getElem? h1, hyo, he⟩) (hfree hzo)
    · rcases old j z hz with h2 | ⟨e2, rfl⟩
      · exact absurd (.inl ⟨z, List.mem_of_getElem? h2, hzo, he.symm⟩) (hfree hyo)
      · rw [e1, e2]
  · rcases old i y hy with h1 | ⟨_, rfl⟩
    · exact HI.mem.rb i j y r h1 hr hyo
    · intro h; exact hfree hyo (.inr ⟨r, List.mem_of_getElem? hr, h⟩)
  · show (g.bx ++ [_]).length = _; rw [List.length_append, List.length_append, HI.br.len]; rfl
  · rcases getElem?_snoc hi with h1 | ⟨e1, h1⟩
    · obtain ⟨y, q1, q2, q3⟩ := HI.br.at_ i T' a' h1
      exact ⟨y, by show (g.bx ++ [_])[i]? = _; rw [List.getElem?_append_left (List.getElem?_eq_some_iff.1 q1).1]; exact q1, q2, q3.mono hle⟩
    · injection h1 with h1 h2
      subst h1 h2 e1
      refine ⟨_, hnew, rfl, .inr (.inl ⟨T, 0, es, F, sp, ⟨e, rfl, rfl⟩, rfl, rfl, rfl, hx.pos, ⟨hok.le.2, fun h => ?_⟩, c1, c2, c3, fun k hk => c4 _ k hk⟩)⟩
      have : x.A.isNone = true := h
      refine hok.nil ?_
      cases hA : x.A with
      | none => rfl
      | some b => rw [hA] at this; cases this
  · rcases old i y hy with h1 | ⟨_, rfl⟩
    · exact HI.fz i y h1 hf
    · cases hf
  · have hvw := RC.vw (g := g.push (x.box e T)) (i := st.bx.length) (γ := 0) (n := es.length) (c := x.c) (e := e) (x := x.box e T) (T := T) (A := x.A.map fun b => ⟨b, 0, none⟩) hnew rfl (Nat.le_refl _) (by rw [← hx.n]; exact hok.le.1) hok.le.2 fun _ => ⟨rfl, by
      cases hA : x.A with
      | none => exact .inl ⟨by show x.A.isNone = true; rw [hA]; rfl, rfl⟩
      | some b => exact .inr ⟨by show x.A.isNone = false; rw [hA]; rfl, by show some (⟨b, 0, none⟩ : Addr) = some ⟨x.A.getD 0, 0, none⟩; rw [hA]; rfl⟩⟩
    have := hvw.rv1
    rw [← hx.n] at this ⊢
    exact this.rv
theorem v_lend {x : XR} {e : TypeId} {T : Ty} {es : List AV} (H : RelY L P w0 N nt st (X1 ++ x :: X2) a w) (hx : XH x e T es) (d : Nat) (hd : find d st.t = some (none, .v x.v)) :
    ∃ g1, Lent1 L w0 N g1 w X1 X2 (x.box e T) ∧ g1.bx.length = st.bx.length ∧ g1.rw.length = st.rw.length ∧ Rel P w (g1.push (x.box e T)) nt ⟨nilT d (.vw st.bx.length 0 es.length) st.t, st.bx ++ [(.vc e T, .vc 0 es)], st.fz, st.rw⟩ a w := by
  obtain ⟨g, HI, hB, hF, hX⟩ := H
  obtain ⟨h1, h2, h3⟩ := lend_inv HI hB hX hx
  have h9 := hF.mono (g.le_push (x.box e T))
  refine ⟨g, h1, HI.br.len, by rw [← HI.wr, List.length_map], _, h2, h9.sz, h9.df, fun p hp hg => ?_, fun p hp hg => by rcases nilT_mem hp with h | h; (subst h; exact absurd trivial hg); exact h9.u p h hg⟩
  rcases nilT_mem hp with h | h
  · subst h
    have := hF.t _ (find_mem hd) trivial
    have e1 : a.tmps.getD d undef = x.v := this.v_inv
    show RV _ _ (a.tmps.getD d undef)
    rw [e1]; exact h3
  · exact h9.t p h hg
theorem v_lendT {x : XR} {e : TypeId} {T : Ty} {es : List AV} (H : RelYT L P w0 N nt gS sq st (X1 ++ x :: X2) a w) (hx : XH x e T es) (d : Nat) (hd : find d st.t = some (none, .v x.v)) :
    ∃ g1, Lent1 L w0 N g1 w X1 X2 (x.box e T) ∧ g1.bx.length = st.bx.length ∧ g1.rw.length = st.rw.length ∧ RelT P w (g1.push (x.box e T)) nt gS sq ⟨nilT d (.vw st.bx.length 0 es.length) st.t, st.bx ++ [(.vc e T, .vc 0 es)], st.fz, st.rw⟩ a w := by
  obtain ⟨hM, hrw, hFq, hBq, g, HI, hB, hF, hle, hbs, hX⟩ := H
  obtain ⟨h1, h2, h3⟩ := lend_inv HI hB hX hx
  have h9 := hF.mono (g.le_push (x.box e T))
  refine ⟨g, h1, HI.br.len, by rw [← HI.wr, List.length_map], hM, hrw, hFq, hBq, _, h2, ⟨h9.sz, h9.df, fun p hp hg => ?_, fun p hp hg => by rcases nilT_mem hp with h | h; (subst h; exact absurd trivial hg); exact h9.u p h hg⟩, hle.trans (g.le_push _), hbs.trans (g.bs_push _)⟩
  rcases nilT_mem hp with h | h
  · subst h
    have := hF.t _ (find_mem hd) trivial
    have e1 : a.tmps.getD d undef = x.v := this.v_inv
    show RV _ _ (a.tmps.getD d undef)
    rw [e1]; exact h3
  · exact h9.t p h hg
theorem give_inv {y : Bx} {e : TypeId} {T : Ty} {es : List AV} {γ : Nat} {bx : List (Ty × AV)} {fz : List Nat} {rw_ : List (TypeId × Nat)} (hlo : ∀ b, w0.heap.size ≤ b → L b) (hL : Lent1 L w0 N g1 w1 X1 X2 y) (hk : g1.bx.length = bx.length)
    (HI : Inv P w1 (g1.push y) g (bx ++ [(.vc e T, .vc γ es)]) fz rw_ w) (hnf : bx.length ∉ fz) (hfl : es.all (flat 3) = true) (hlow : bx.all (fun x => low bx.length rw_.length 4 x.2) = true) :
    ∃ x : XR, XH x e T es ∧ Inv P w (g.cut bx.length rw_.length) (g.cut bx.length rw_.length) bx fz rw_ w ∧ FrZ L w0 N (g.cut bx.length rw_.length) w ∧ XsF L (g.cut bx.length rw_.length) w (X1 ++ x :: X2) ∧ ∀ n u, n = es.length → RV g (.vw bx.length γ n) u → u = x.v := by
  have hgl : g.bx.length = bx.length + 1 := by rw [HI.br.len, List.length_append]; rfl
  have hrl : g.rw.length = rw_.length := by rw [← HI.wr, List.length_map]
  obtain ⟨y', hy', hyT, hbc⟩ := HI.br.at_ bx.length _ _ (by rw [List.getElem?_append_right (Nat.le_refl _), Nat.sub_self]; rfl)
  obtain ⟨T2, F, sp, ⟨e2, he2, htid⟩, hmp, hgen, h0, hcm, hcs, hcl, hsp, hFk⟩ := hbc.vc_inv
  injection he2 with he20 he2; subst he20 he2
  have hfz : y'.fz = false := by
    cases h : y'.fz with
    | false => rfl
    | true => exact absurd (HI.fz _ _ hy' h) hnf
  have hs1 : w0.heap.size ≤ w1.heap.size := hL.fr.size
  have hs2 : w1.heap.size ≤ w.heap.size := HI.fr.kept.size
  have hBX := FrZ.of HI.fr L
  -- what was not lent stays
  have hout : ∀ b, b < w1.heap.size → ¬ g1.has b → (y.off = false → y.blk ≠ b) → ¬ (g1.push y).has b := fun b hb h1 h2 hh => by
    rcases push_has hh with h | ⟨h3, h4⟩
    · exact h1 h
    · exact h2 h3 h4
  have hpk : (g1.push y).bx[bx.length]? = some y := by show (g1.bx ++ [y])[bx.length]? = _; rw [← hk]; simp
  have hyb : y'.off = false → w1.heap.size ≤ y'.blk ∨ (y.off = false ∧ y.blk = y'.blk) := fun h => by
    rcases HI.fr.bx _ _ hy' h with h1 | ⟨z, h1, h2, h3⟩
    · exact .inl h1
    · rw [hpk] at h1; injection h1 with h1; subst h1; exact .inr ⟨h2, h3⟩
  have hylo : y'.off = false → L y'.blk := fun h => by
    rcases hyb h with h1 | ⟨h1, h2⟩
    · exact hlo _ (by omega)
    · rw [← h2]; exact (hL.own h1).1
  have hcbx : ∀ {i : Nat} {x : Bx}, (g.cut bx.length rw_.length).bx[i]? = some x → i < bx.length ∧ g.bx[i]? = some x := fun {i x} hx => by
    have : (g.bx.take bx.length)[i]? = some x := hx
    rw [List.getElem?_take] at this; split at this; exact ⟨by assumption, this⟩; cases this
  have hcrw : ∀ {i : Nat} {x : Rw}, (g.cut bx.length rw_.length).rw[i]? = some x → g.rw[i]? = some x := fun {i x} hx => by
    have : (g.rw.take rw_.length)[i]? = some x := hx
    rw [List.getElem?_take] at this; split at this; exact this; cases this
  have hchas : ∀ b, (g.cut bx.length rw_.length).has b → g.has b := fun b hh => by
    rcases hh with ⟨z, hz, h⟩ | ⟨s, hs, h⟩
    · exact .inl ⟨z, List.mem_of_mem_take hz, h⟩
    · exact .inr ⟨s, List.mem_of_mem_take hs, h⟩
  have hcut := (HI.loose.cut (st := ⟨[], bx ++ [(.vc e T, .vc γ es)], fz, rw_⟩) (nb := bx.length) (nr := rw_.length) (Nat.zero_le _) (Nat.zero_le _) (by rw [List.take_left']; exact hlow; rfl)).self
  have e1 : (bx ++ [((Ty.vc e T, AV.vc γ es) : Ty × AV)]).take bx.length = bx := List.take_left' rfl
  have e2 : rw_.take rw_.length = rw_ := List.take_length
  simp only [e1, e2] at hcut
  have hFl : ∀ k (h : k < es.length), (F k).length = T.size := fun k h => (hFk k h).size
  have hfm : ((List.range es.length).flatMap F).length = es.length * T.size := by
    rw [List.length_flatMap]
    have : (List.range es.length).map (fun k => (F k).length) = (List.range es.length).map (fun _ => T.size) := List.map_congr_left fun k hk => hFl k (List.mem_range.1 hk)
    rw [this, List.map_const', List.length_range, List.sum_replicate_nat]
  have hcap : es.length ≤ y'.cap := by
    have h1 := congrArg List.length hcs
    rw [List.length_append, hfm, hcl] at h1
    exact Nat.le_of_mul_le_mul_right (by omega) h0
  let A : Option Nat := if y'.off then none else some y'.blk
  have hA : ∀ b, A = some b → y'.off = false ∧ y'.blk = b := fun b hb => by
    cases ho : y'.off with
    | true => simp [A, ho] at hb
    | false => simp [A, ho] at hb; exact ⟨rfl, hb⟩
  have hAn : A = none → y'.off = true := fun h => by
    cases ho : y'.off with
    | true => rfl
    | false => simp [A, ho] at h
  have hoth : ∀ z ∈ X1 ++ X2, XOkF L (g.cut bx.length rw_.length) w z ∧ (z.A = none ∨ z.A ≠ A) := fun z hz => by
    have hok := hL.xs.ok z hz
    have key : ∀ b, z.A = some b → b < w1.heap.size ∧ ¬ (g1.push y).has b := fun b hb => by
      obtain ⟨o1, o2, o3, _⟩ := hok.own b hb
      refine ⟨o3.lt, hout b o3.lt o1 fun h1 h2 => ?_⟩
      exact (hL.own h1).2.2.1 z hz (by rw [h2]; exact hb)
    refine ⟨⟨hok.le, hok.nil, fun b hb => ?_⟩, ?_⟩
    · obtain ⟨k1, k2⟩ := key b hb
      obtain ⟨o1, o2, o3, o4⟩ := hok.own b hb
      refine ⟨fun hh => k2 (hBX.back k1 (hchas b hh)), o2, o3.kept HI.fr.kept k2, fun o => ?_⟩
      show g.ro b o = none
      rw [HI.fr.ro b k1 k2 o]; exact o4 o
    · cases hzA : z.A with
      | none => exact .inl rfl
      | some b =>
        refine .inr fun e3 => ?_
        obtain ⟨k1, k2⟩ := key b hzA
        obtain ⟨q1, q2⟩ := hA b e3.symm
        rcases hyb q1 with h | ⟨h, h'⟩
        · omega
        · exact (hL.own h).2.2.1 z hz (by rw [h', q2]; exact hzA)
  have hnew : XOkF L (g.cut bx.length rw_.length) w ⟨A, es.length, y'.cap, e, y'.cells, 0⟩ := by
    refine ⟨⟨hcap, hcm.1⟩, fun h => hcm.2 (hAn h), fun b hb => ?_⟩
    obtain ⟨q1, q2⟩ := hA b hb
    refine ⟨fun hh => ?_, by rw [← q2]; exact hylo q1, ?_, fun o => ?_⟩
    · rcases hh with ⟨z, hz, hzo, he⟩ | ⟨s, hs, he⟩
      · obtain ⟨i, hi⟩ := List.getElem?_of_mem hz
        obtain ⟨i1, i2⟩ := hcbx hi
        have := HI.mem.bb i bx.length z y' i2 hy' hzo q1 (by rw [he, q2])
        omega
      · obtain ⟨i, hi⟩ := List.getElem?_of_mem hs
        exact HI.mem.rb bx.length i y' s hy' (hcrw hi) q1 (by rw [q2]; exact he)
    · have := (HI.mem.bx _ _ hy' q1).c hmp
      rw [← q2, ← htid]; exact this
    · show g.ro b o = none
      rw [← q2]; exact HI.mem.bro _ _ hy' q1 hfz o
  refine ⟨⟨A, es.length, y'.cap, e, y'.cells, 0⟩, ⟨rfl, rfl, rfl, h0, F, sp, hcs, hcl, hsp, fun g k h => ?_⟩, hcut, ⟨?_, ?_, ?_, by omega, fun k hk0 hkl hkn => ?_, fun i x hx hxo => ?_, fun i r k hr hrk => ?_, fun b hb hbl hbn o => ?_, ?_⟩, ⟨fun z hz => ?_, ?_⟩, fun n u hn hu => ?_⟩
  · refine (hFk k h).flat_ (d := 3) ?_
    rw [List.all_eq_true] at hfl
    exact hfl _ (List.getElem_mem h)
  · exact HI.fr.kept.os.trans hL.fr.os
  · exact HI.fr.kept.tape.trans hL.fr.tape
  · exact HI.fr.kept.output.trans hL.fr.output
  · have h1 : ¬ (g1.push y).has k := hout k (by omega) (fun hh => hkn (hL.fr.back hk0 hh)) fun q1 q2 => hkl (by rw [← q2]; exact (hL.own q1).1)
    exact (HI.fr.kept.block k (by omega) h1).trans (hL.fr.block k hk0 hkl hkn)
  · obtain ⟨i1, i2⟩ := hcbx hx
    rcases HI.fr.bx i x i2 hxo with h1 | ⟨z, h1, h2, h3⟩
    · exact .inl (by omega)
    · have h4 : g1.bx[i]? = some z := by
        have : (g1.bx ++ [y])[i]? = some z := h1
        rwa [List.getElem?_append_left (by omega)] at this
      rw [← h3]; exact hL.fr.bx i z h4 h2
  · rcases HI.fr.rw i r k (hcrw hr) hrk with h1 | ⟨s, h1, h2⟩
    · exact .inl (by omega)
    · exact hL.fr.rw i s k h1 h2
  · have h1 : ¬ (g1.push y).has b := hout b (by omega) (fun hh => hbn (hL.fr.back hb hh)) fun q1 q2 => hbl (by rw [← q2]; exact (hL.own q1).1)
    exact (HI.fr.ro b (by omega) h1 o).trans (hL.fr.ro b hb hbl hbn o)
  · have hle := hL.fr.le.trans ((g1.le_push y).trans HI.fr.le)
    refine ⟨hle.ro, fun i x hx => ?_, fun i r hr => ?_⟩
    · obtain ⟨x', q1, q2⟩ := hle.bx i x hx
      obtain ⟨x2, p1, _⟩ := hL.fr.le.bx i x hx
      refine ⟨x', ?_, q2⟩
      show (g.bx.take bx.length)[i]? = _
      rw [List.getElem?_take, if_pos (by rw [← hk]; exact (List.getElem?_eq_some_iff.1 p1).1)]; exact q1
    · obtain ⟨x', q1, q2⟩ := hle.rw i r hr
      refine ⟨x', ?_, q2⟩
      show (g.rw.take rw_.length)[i]? = _
      rw [List.getElem?_take, if_pos (by rw [← hrl]; exact (List.getElem?_eq_some_iff.1 q1).1)]; exact q1
  · rcases List.mem_append.1 hz with hz | hz
    · exact (hoth z (List.mem_append_left _ hz)).1
    · rcases List.mem_cons.1 hz with rfl | hz
      · exact hnew
      · exact (hoth z (List.mem_append_right _ hz)).1
  · have hu := hL.xs.un
    unfold XApart at hu ⊢
    rw [List.pairwise_append] at hu ⊢
    obtain ⟨u1, u2, u3⟩ := hu
    refine ⟨u1, List.pairwise_cons.2 ⟨fun z hz => ?_, u2⟩, fun z hz q hq => ?_⟩
    · have := (hoth z (List.mem_append_right _ hz)).2
      show A = none ∨ A ≠ z.A
      rcases this with h | h
      · cases hA2 : A with
        | none => exact .inl rfl
        | some b => exact .inr (by rw [h]; rintro ⟨⟩)
      · exact .inr fun e3 => h e3.symm
    · rcases List.mem_cons.1 hq with rfl | hq
      · exact (hoth z (List.mem_append_left _ hz)).2
      · exact u3 z hz q hq
  · subst hn
    obtain ⟨_, y2, e3, T3, A2, c, hval, hy2, hty2, hle2, hnc, hm2, hxx⟩ := hu.vw_inv.vw_inv
    rw [hy'] at hy2; injection hy2 with hy2; subst hy2
    injection hval with hval
    obtain ⟨hcc, hAA⟩ := hxx hgen
    rw [hval, hcc]
    show _ = Value.slice (A.map fun b => ⟨b, 0, none⟩) es.length y'.cap
    rcases hAA with ⟨h1, h2⟩ | ⟨h1, h2⟩
    · rw [h2]; simp [A, h1]
    · rw [h2]; simp [A, h1]
theorem v_giveT {y : Bx} {e : TypeId} {T : Ty} {es : List AV} {γ : Nat} {bx : List (Ty × AV)} {fz : List Nat} {rw_ : List (TypeId × Nat)} {t : List (Nat × Gd × AV)} (hlo : ∀ b, w0.heap.size ≤ b → L b) (hL : Lent1 L w0 N g1 w1 X1 X2 y) (hk : g1.bx.length = bx.length)
    (H : RelT P w1 (g1.push y) nt gS sq ⟨t, bx ++ [(.vc e T, .vc γ es)], fz, rw_⟩ a w) (ks : List Nat) (d n : Nat) (hn : n = es.length) (hd : find d t = some (none, .vw bx.length γ n)) (hnf : fz.contains bx.length = false) (hfl : es.all (flat 3) = true) (hlow : bx.all (fun x => low bx.length rw_.length 4 x.2) = true) (h1 : keepT ks bx.length rw_.length t = true) (hq : sq.bx.length ≤ bx.length) :
    ∃ x : XR, XH x e T es ∧ RelYT L P w0 N nt gS sq ⟨(d, none, .v x.v) :: t.filter (fun p => ks.contains p.1), bx, fz, rw_⟩ (X1 ++ x :: X2) a w := by
  obtain ⟨hM, hrw, hFq, hBq, g, HI, hF, hle, hbs⟩ := H
  obtain ⟨x, q1, q2, q3, q4, q5⟩ := give_inv hlo hL hk HI (by intro h; rw [List.contains_iff_mem.2 h] at hnf; cases hnf) hfl hlow
  obtain ⟨c1, c2⟩ := cut_keep (i := bx.length) (k := rw_.length) hrw hle hbs (by rw [hBq.len]; exact hq)
  refine ⟨x, q1, hM, hrw, hFq, hBq, _, q2, q3, ⟨hF.sz, hF.df, fun p hp hg => ?_, fun p hp hg => ?_⟩, c1, c2, q4⟩
  · rcases List.mem_cons.1 hp with rfl | hp
    · have := q5 n _ hn (hF.t _ (find_mem hd) trivial)
      show RV _ (.v x.v) (a.tmps.getD d undef)
      rw [this]; exact RV.v_of (by unfold XR.v; rfl)
    · simp only [List.mem_filter] at hp
      simp only [keepT, List.all_eq_true, Bool.or_eq_true, Bool.not_eq_true'] at h1
      have hl : low bx.length rw_.length 4 p.2.2 = true := by
        rcases h1 p hp.1 with h | h
        · rw [h] at hp; cases hp.2
        · exact h
      exact (hF.t p hp.1 hg).low_ (d := 3) hl
  · rcases List.mem_cons.1 hp with rfl | hp
    · exact absurd trivial hg
    · simp only [List.mem_filter] at hp; exact hF.u p hp.1 hg
end
end Go.Proofs.Ytigmpdhnhkdeiaa
/- Contracts that are handed slices on their own, which may be written. -/
namespace Go.Proofs.Ytigmpdhnhkdeiaa
open Go Go.RowKit
section
variable {P : Program} {τ : Tab} {w0 w w' w1 w2 : World} {N N1 N2 : Gh} {g g1 gS : Gh} {st st' sq sq' : St} {nt : Nat} {a : Act} {L : Nat → Prop} {X Y X1 X2 : List XR}
def PostY (P : Program) (L : Nat → Prop) (w0 : World) (N : Gh) (R : List XR → List (Ty × AV) → AV → Prop) (e : Ending) (w' : World) : Prop :=
  ∃ X bx' g v res, R X bx' res ∧ e = .returned v ∧ Inv P w' g g bx' [] [] w' ∧ FrZ L w0 N g w' ∧ RV g res v ∧ XsF L g w' X
/-- A contract: boxes, arguments, slices on their own that are handed over; what comes back. -/
def VY (P : Program) (f : FuncId) (bx : List (Ty × AV)) (args : List AV) (X : List XR) (R : List XR → List (Ty × AV) → AV → Prop) : Prop :=
  Fok P f ∧ ∀ (L : Nat → Prop) (w : World) (N : Gh) (vs : List Value), (∀ b, w.heap.size ≤ b → L b) → Inv P w N N bx [] [] w → XsF L N w X → vs.length = args.length → (∀ (i : Nat) x v, args[i]? = some x → vs[i]? = some v → RV N x v) → Calls P f vs.toArray w (PostY P L w N R)
theorem FrZ.refl (L : Nat → Prop) (w : World) (N : Gh) : FrZ L w N N w := .of ⟨Kept.refl _ _, fun i x hx hxo => .inr ⟨x, hx, hxo, rfl⟩, fun i r k hr hrk => .inr ⟨r, hr, hrk⟩, fun _ _ _ _ => rfl, Gh.le.refl _⟩ L
theorem v_enterY {f : FuncId} {fn : Func} {c : Code} {bx : List (Ty × AV)} {args : List AV} {R : List XR → List (Ty × AV) → AV → Prop} (hf : P.funcs[f]? = some fn) (hb : fn.body = some c) (hnm : (fn.name == "runtime.NumGoroutine") = false) (hn : args.length ≤ fn.ntmps)
    (h : ∀ (L : Nat → Prop) (N : Gh) (w0 : World) (a : Act) (w : World), (∀ b, w0.heap.size ≤ b → L b) → N.bx.length ≤ bx.length → N.rw.length ≤ 0 → RelY L P w0 N fn.ntmps ⟨slots 0 args, bx, [], []⟩ X a w → c.wp P (bodyPost P fn (PostY P L w0 N R)) a w) : VY P f bx args X R := by
  refine ⟨⟨fn, hf, hnm, by rw [hb]; rfl⟩, ?_⟩
  intro L w N vs hL hI hX hl hv
  refine calls_of_wp hf hb (h L N w _ w hL (by rw [hI.br.len]; exact Nat.le_refl _) (by have := hI.wr; rw [List.map_eq_nil_iff] at this; rw [this]; exact Nat.le_refl _) ⟨N, hI, .refl _ _ _, ⟨?_, rfl, fun p hp _ => ?_, fun p hp hg => absurd (by obtain ⟨_, _, h2, _⟩ := slots_mem hp; rw [h2]; trivial) hg⟩, hX⟩)
  · simp only [Array.size_append, List.size_toArray, Array.size_replicate, hl]; omega
  · obtain ⟨i, h1, h2, h3⟩ := slots_mem hp
    have hi : i < vs.length := by rw [hl]; exact (List.getElem?_eq_some_iff.1 h3).1
    have := hv i p.2.2 vs[i] h3 (List.getElem?_eq_getElem hi)
    rw [h1, Nat.zero_add]
    have e : (vs.toArray ++ Array.replicate (fn.ntmps - vs.toArray.size) undef).getD i undef = vs[i] := by
      rw [Array.getD_eq_getD_getElem?, Array.getElem?_append_left (by simpa using hi)]; simp [hi]
    exact e ▸ this
theorem v_endY {fn : Func} {rs : List ResultVar} {nb nr : Nat} {R : List XR → List (Ty × AV) → AV → Prop} (js : List Nat) (hτ : τ.ok P) (hM : N.bx.length ≤ nb ∧ N.rw.length ≤ nr) (hr : fn.results = rs.toArray) (H : RelY L P w0 N nt st X a w)
    (hchk : (okSel js st.bx.length && okSel [] st.rw.length && usesB js st.bx && preOk js nb && preOk [] nr && rs.all (fun x => argOk js (resv τ st x))) = true)
    {bx' : List (Ty × AV)} {ress : List AV} {res : AV} (hf : fzOk js st.fz [] 0 = true) (hb : bxs (pickB js [] st.bx) bx')
    (he : allP (sub 4) (rs.map fun x => ren (idx? js) (idx? []) 4 (resv τ st x)) ress) (ht : tupOf ress = res) (hR : R X bx' res) :
    a.defers = [] ∧ ∃ v, (results fn a.tmps).run P w = .ok v w ∧ PostY P L w0 N R (.returned v) w := by
  obtain ⟨g, HI, hB, hF, hX⟩ := H
  have hc := hchk
  obtain ⟨h1, v, h2, h3, h4⟩ := v_endG (w0 := { w with heap := #[] }) (N := ⟨fun _ _ => none, [], []⟩) js [] hτ ⟨Nat.zero_le _, Nat.zero_le _⟩ hr HI.loose hF hchk hf hb (rw' := []) rfl he ht
  simp only [Bool.and_eq_true] at hc
  obtain ⟨⟨⟨⟨⟨c1, c2⟩, c3⟩, c4⟩, c5⟩, c6⟩ := hc
  obtain ⟨hj, nj⟩ := okSel_ok c1
  have hj' : ∀ j ∈ js, j < g.bx.length := fun j hm => by rw [HI.br.len]; exact hj j hm
  have p1 := fun j hj => preOk_ok c4 j (Nat.lt_of_lt_of_le hj hM.1)
  have p2 := fun j hj => preOk_ok c5 j (Nat.lt_of_lt_of_le hj hM.2)
  refine ⟨h1, v, h2, X, bx', _, v, res, hR, rfl, h3.self, ⟨hB.os, hB.tape, hB.output, hB.size, hB.block, fun i x hx hxo => ?_, fun i r k hr hrk => ?_, hB.ro, hB.le.ro, fun i x hx => ?_, fun i r hr => ?_⟩, h4, ⟨fun x hx => ?_, hX.un⟩⟩
  · have hx' : (js.filterMap (g.bx[·]?))[i]? = some x := hx
    rw [pick_get hj'] at hx'
    obtain ⟨j, q1, q2⟩ := Option.bind_eq_some_iff.1 hx'
    rcases hB.bx j x q2 hxo with h | ⟨y, h, h'⟩
    · exact .inl h
    · have := nodup_get nj q1 (p1 j (List.getElem?_eq_some_iff.1 h).1); subst this
      exact .inr ⟨y, h, h'⟩
  · have hx' : (([] : List Nat).filterMap (g.rw[·]?))[i]? = some r := hr
    simp at hx'
  · obtain ⟨x', q1, q2⟩ := hB.le.bx i x hx
    refine ⟨x', ?_, q2⟩
    show (js.filterMap (g.bx[·]?))[i]? = _
    rw [pick_get hj', p1 i (List.getElem?_eq_some_iff.1 hx).1]; exact q1
  · have := p2 i (List.getElem?_eq_some_iff.1 hr).1
    simp at this
  · have h := hX.ok x hx
    exact ⟨h.le, h.nil, fun b hb => ⟨fun hh => (h.own b hb).1 (pick_has hh), (h.own b hb).2⟩⟩
/-- Memory in which some blocks stand as in another one. -/
theorem star_world (w w' : World) (S : Nat → Prop) (hs : w.heap.size ≤ w'.heap.size) : ∃ ws : World, ws.heap.size = w.heap.size ∧ ws.os = w.os ∧ ws.tape = w.tape ∧ ws.output = w.output ∧ (∀ k, S k → k < w.heap.size → ws.heap[k]? = w'.heap[k]?) ∧ ∀ k, ¬ S k → ws.heap[k]? = w.heap[k]? := by
  classical
  refine ⟨{ w with heap := ((List.range w.heap.size).map fun k => if S k then w'.heap[k]?.getD default else w.heap[k]?.getD default).toArray }, by simp, rfl, rfl, rfl, fun k hk hl => ?_, fun k hk => ?_⟩
  · simp only [List.getElem?_toArray, List.getElem?_map]
    rw [List.getElem?_range hl]
    simp only [Option.map_some, if_pos hk]
    rw [Array.getElem?_eq_getElem (show k < w'.heap.size by omega)]; rfl
  · simp only [List.getElem?_toArray, List.getElem?_map]
    by_cases hl : k < w.heap.size
    · rw [List.getElem?_range hl]
      simp only [Option.map_some, if_neg hk]
      rw [Array.getElem?_eq_getElem hl]; rfl
    · rw [List.getElem?_eq_none (by simp; omega), Array.getElem?_eq_none (by omega)]; rfl
theorem setAll_mem {α : Type} : ∀ {js : List Nat} {l l' : List α} {z : α}, z ∈ setAll l js l' → z ∈ l ∨ z ∈ l'
  | [], l, l', z, h => .inl (by cases l' <;> exact h)
  | j :: js, l, [], z, h => .inl h
  | j :: js, l, x :: xs, z, h => by
    rw [setAll] at h
    rcases setAll_mem h with h | h
    · rcases List.mem_or_eq_of_mem_set h with h | h
      · exact .inl h
      · exact .inr (by rw [h]; exact List.mem_cons_self)
    · exact .inr (List.mem_cons_of_mem _ h)
theorem mergeL_mem {α : Type} {js : List Nat} {l l' : List α} {z : α} (h : z ∈ mergeL l js l') : z ∈ l ∨ z ∈ l' := by
  unfold mergeL at h
  rcases List.mem_append.1 h with h | h
  · exact setAll_mem h
  · exact .inr (List.mem_of_mem_drop h)
/-- A frame behind such a call. -/
theorem call_Y {bx bx' : List (Ty × AV)} {fz : List Nat} {rw_ : List (TypeId × Nat)} {js : List Nat} (hL : ∀ b, w0.heap.size ≤ b → L b) (HI : Inv P w g g bx fz rw_ w) (hB : FrZ L w0 N g w) (hX : XsF L g w X)
    (h' : Inv P w' g1 g1 bx' [] [] w') (hF : FrZ (fun b => w.heap.size ≤ b ∨ ∃ x ∈ X, x.A = some b) w (g.pick js []) g1 w') (hY : XsF (fun b => w.heap.size ≤ b ∨ ∃ x ∈ X, x.A = some b) g1 w' Y)
    (hj : ∀ j ∈ js, j < bx.length) (nj : js.Nodup) (hu : ∀ x ∈ bx', uses some 4 x.2 = true) :
    let gm : Gh := ⟨g1.ro, mergeL g.bx js g1.bx, mergeL g.rw [] g1.rw⟩
    g.le gm ∧ Inv P w' gm gm (mergeL bx js (renB js [] bx.length rw_.length bx')) (fz ++ ([] : List Nat).map (nth js bx.length)) (mergeL rw_ [] []) w' ∧ FrZ L w0 N gm w' ∧ XsF L gm w' Y ∧
      (∀ i x, g1.bx[i]? = some x → gm.bx[nth js bx.length i]? = some x) ∧ (∀ i x, g1.rw[i]? = some x → gm.rw[nth [] rw_.length i]? = some x) := by
  intro gm
  let S : Nat → Prop := fun b => ∃ x ∈ X, x.A = some b
  have hSg : ∀ b, S b → ¬ g.has b ∧ L b ∧ b < w.heap.size ∧ ∀ o, g.ro b o = none := fun b ⟨x, hx, hb⟩ => by
    obtain ⟨o1, o2, o3, o4⟩ := (hX.ok x hx).own b hb
    exact ⟨o1, o2, o3.lt, o4⟩
  obtain ⟨ws, s1, s2, s3, s4, s5, s6⟩ := star_world w w' S hF.size
  classical
  let gt : Gh := ⟨fun b o => if S b then g1.ro b o else g.ro b o, g.bx, g.rw⟩
  have hro : ∀ b, ¬ S b → ∀ o, gt.ro b o = g.ro b o := fun b hb o => if_neg hb
  have hroS : ∀ b, S b → ∀ o, gt.ro b o = g1.ro b o := fun b hb o => if_pos hb
  have hle : g.le gt := ⟨fun b o u hu => by
    by_cases hb : S b
    · rw [(hSg b hb).2.2.2 o] at hu; cases hu
    · rw [hro b hb o]; exact hu, fun i x hx => ⟨x, hx, x.same⟩, fun i r hr => ⟨r, hr, rfl, rfl, rfl, Nat.le_refl _, fun _ => rfl⟩⟩
  have hbxS : ∀ {i : Nat} {x : Bx}, g.bx[i]? = some x → x.off = false → ¬ S x.blk := fun {i x} hx hxo hS => (hSg _ hS).1 (.inl ⟨x, List.mem_of_getElem? hx, hxo, rfl⟩)
  have hrwS : ∀ {i : Nat} {r : Rw} {k : Nat}, g.rw[i]? = some r → r.v.ownBlock = some k → ¬ S k := fun {i r k} hr hk hS => (hSg _ hS).1 (.inr ⟨r, List.mem_of_getElem? hr, hk⟩)
  have HT : Inv P ws gt gt bx fz rw_ ws := by
    refine ⟨⟨fun b o u hu => ?_, fun i x hx ho => (HI.mem.bx i x hx ho).keep (s6 _ (hbxS hx ho)), HI.mem.offc, HI.mem.mpc, fun i r hr => (HI.mem.rw i r hr).keep fun k hk => s6 _ (hrwS hr hk), fun i x hx hf o u hu => ?_, fun i x hx ho hf o => ?_, HI.mem.bb, fun i r k hr hk o ho => ?_, fun i r k hr hk o u hu => ?_, HI.mem.rb, HI.mem.rr⟩,
      ⟨Kept.refl _ _, fun i x hx hxo => .inr ⟨x, hx, hxo, rfl⟩, fun i r k hr hrk => .inr ⟨r, hr, hrk⟩, fun _ _ _ _ => rfl, Gh.le.refl _⟩, ⟨HI.br.len, fun i T' a' hi => ?_⟩, HI.fz, HI.wr, HI.wz⟩
    · by_cases hb : S b
      · rw [hroS b hb o] at hu
        exact (World.cell?_of_block (a := ⟨b, o, none⟩) (s5 b hb (hSg b hb).2.2.1)).trans (h'.mem.ro b o u hu)
      · rw [hro b hb o] at hu
        exact (World.cell?_of_block (a := ⟨b, o, none⟩) (s6 b hb)).trans (HI.mem.ro b o u hu)
    · have h0 := HI.mem.fro i x hx hf o u hu
      exact hle.ro _ _ _ h0
    · rw [hro _ (hbxS hx ho) o]; exact HI.mem.bro i x hx ho hf o
    · rw [hro _ (hrwS hr hk) o]; exact HI.mem.rro i r k hr hk o ho
    · exact hle.ro _ _ _ (HI.mem.rwo i r k hr hk o u hu)
    · obtain ⟨x, q1, q2, q3⟩ := HI.br.at_ i T' a' hi
      exact ⟨x, q1, q2, q3.mono hle⟩
  have hpick : ∀ b, (gt.pick js []).has b → g.has b := fun b hh => by
    have : (g.pick js []).has b := hh
    exact pick_has this
  have H1 : Inv P ws (gt.pick js []) g1 bx' [] [] w' := by
    refine ⟨h'.mem, ⟨⟨?_, ?_, ?_, by rw [s1]; exact hF.size, fun k hk hn => ?_⟩, fun i x hx hxo => ?_, fun i r k hr hrk => ?_, fun b hb hn o => ?_, ⟨fun b o u hu => ?_, hF.le.bx, hF.le.rw⟩⟩, h'.br, h'.fz, h'.wr, h'.wz⟩
    · exact hF.os.trans s2.symm
    · exact hF.tape.trans s3.symm
    · exact hF.output.trans s4.symm
    · rw [s1] at hk
      by_cases hS : S k
      · exact (s5 k hS hk).symm
      · rw [s6 k hS]
        exact hF.block k hk (fun e => by rcases e with e | e; omega; exact hS e) hn
    · rw [s1]; exact hF.bx i x hx hxo
    · rw [s1]; exact hF.rw i r k hr hrk
    · rw [s1] at hb
      show g1.ro b o = gt.ro b o
      by_cases hS : S b
      · rw [hroS b hS o]
      · rw [hro b hS o]
        exact hF.ro b hb (fun e => by rcases e with e | e; omega; exact hS e) hn o
    · have hu' : gt.ro b o = some u := hu
      by_cases hS : S b
      · rw [hroS b hS o] at hu'; exact hu'
      · rw [hro b hS o] at hu'; exact hF.le.ro b o u hu'
  obtain ⟨k1, k2, k3, k4⟩ := HT.call H1 hj (fun k hk => by cases hk) nj List.nodup_nil hu
  have hrwl : g1.rw = [] := by have := h'.wr; rwa [List.map_eq_nil_iff] at this
  have hblk : ∀ b, b < w.heap.size → ¬ S b → ¬ g.has b → w'.heap[b]? = w.heap[b]? := fun b hb h1 h2 => hF.block b hb (fun e => by rcases e with e | e; omega; exact h1 e) fun hh => h2 (pick_has hh)
  have hs0 := hB.size
  refine ⟨hle.trans k1, k2.self, ⟨hF.os.trans hB.os, hF.tape.trans hB.tape, hF.output.trans hB.output, Nat.le_trans hB.size hF.size, fun k hk hl hn => ?_, fun i x hx hxo => ?_, fun i r k hr hrk => ?_, fun b hb hl hn o => ?_, hB.le.trans (hle.trans k1)⟩, ⟨fun y hy => ?_, hY.un⟩, k3, k4⟩
  · exact (hblk k (by omega) (fun hS => hl (hSg k hS).2.1) (fun hh => hn (hB.back hk hh))).trans (hB.block k hk hl hn)
  · rcases k2.fr.bx i x hx hxo with h1 | ⟨y, h1, h2, h3⟩
    · exact .inl (by rw [s1] at h1; omega)
    · rw [← h3]; exact hB.bx i y h1 h2
  · rcases k2.fr.rw i r k hr hrk with h1 | ⟨y, h1, h2⟩
    · exact .inl (by rw [s1] at h1; omega)
    · exact hB.rw i y k h1 h2
  · have hS : ¬ S b := fun hS => hl (hSg b hS).2.1
    have h1 : g1.ro b o = g.ro b o := hF.ro b (by omega) (fun e => by rcases e with e | e; omega; exact hS e) (fun hh => hn (hB.back hb (pick_has hh))) o
    exact h1.trans (hB.ro b hb hl hn o)
  · have h := hY.ok y hy
    refine ⟨h.le, h.nil, fun b hb => ?_⟩
    obtain ⟨o1, o2, o3, o4⟩ := h.own b hb
    refine ⟨fun hh => ?_, ?_, o3, o4⟩
    · have hng : ¬ g.has b := fun hh => by
        rcases o2 with o2 | o2
        · have : b < w.heap.size := by
            rcases hh with ⟨z, hz, hzo, he⟩ | ⟨s, hs, he⟩
            · obtain ⟨i, hi⟩ := List.getElem?_of_mem hz
              rw [← he]; exact (HI.mem.bx i z hi hzo).lt
            · obtain ⟨i, hi⟩ := List.getElem?_of_mem hs
              exact (HI.mem.rw i s hi).lt he
          omega
        · exact (hSg b o2).1 hh
      rcases hh with ⟨z, hz, hzo, he⟩ | ⟨s, hs, he⟩
      · obtain ⟨i, hi⟩ := List.getElem?_of_mem hz
        rcases k2.fr.bx i z hi hzo with h1 | ⟨z', h1, h2, h3⟩
        · -- a new one: one of those that came back
          by_cases hz1 : z ∈ g1.bx
          · exact o1 (.inl ⟨z, hz1, hzo, he⟩)
          · have hzg : z ∈ g.bx := (mergeL_mem hz).resolve_right hz1
            exact hng (.inl ⟨z, hzg, hzo, he⟩)
        · exact hng (.inl ⟨z', List.mem_of_getElem? h1, h2, h3.trans he⟩)
      · obtain ⟨i, hi⟩ := List.getElem?_of_mem hs
        have hsg : s ∈ g.rw := by
          rcases mergeL_mem hs with h1 | h1
          · exact h1
          · rw [hrwl] at h1; cases h1
        exact hng (.inr ⟨s, hsg, he⟩)
    · rcases o2 with o2 | o2
      · exact hL b (by omega)
      · exact (hSg b o2).2.1
/-- A call of such a contract. -/
theorem v_callY {ops : Array Oper} {Q : Exit → Act → World → Prop} {rest : List Oper} {o : Oper} {f : FuncId} {xs : List Operand} {ats : Array TypeId} {bxc : List (Ty × AV)} {args : List AV} {R : List XR → List (Ty × AV) → AV → Prop} (js : List Nat)
    (hc : VY P f bxc args X R) (hL : ∀ b, w0.heap.size ≤ b → L b) (hB : FrZ L w0 N N1 w1) (hX : XsF L N1 w1 X) (H : Rel P w1 N1 nt st a w)
    (hRu : ∀ Y bx' res, R Y bx' res → uses some 4 res = true ∧ bx'.all (fun x => uses some 4 x.2) = true)
    (k : ∀ Y bx' res a w, R Y bx' res → RelY L P w0 N nt ((⟨st.t, mergeL st.bx js (renB js [] st.bx.length st.rw.length bx'), st.fz, st.rw⟩ : St).put o.dst none (ren (fun k => some (nth js st.bx.length k)) (fun k => some (nth [] st.rw.length k)) 4 res)) Y a w → wpList P ops Q rest a w)
    (hgd : o.guard = none := by rfl) (ho : o.op = .call ⟨.value (.func f), xs.toArray, ats⟩ := by rfl) (hchk : (okSel js st.bx.length && usesB js st.bx && fzOk js st.fz [] 0 && xs.all (fun x => argOk js (st.ev none x)) && okDst nt none o.dst) = true := by rfl) (hb : bxs (pickB js [] st.bx) bxc := by exact cbX) (ha : allP (sub 4) (cargs st js [] xs) args := by exact caX) : wpList P ops Q (o :: rest) a w := by
  obtain ⟨hfok, hcall⟩ := hc
  obtain ⟨g, HI0, hF⟩ := H
  have HI := HI0.self
  have hB2 := hB.trans (FrZ.of HI0.fr L)
  have hX2 := hX.step HI0
  simp only [Bool.and_eq_true] at hchk
  obtain ⟨⟨⟨⟨c1, c3⟩, c4⟩, c5⟩, c8⟩ := hchk
  obtain ⟨hj, nj⟩ := okSel_ok c1
  have hj' : ∀ j ∈ js, j < g.bx.length := fun j hm => by rw [HI.br.len]; exact hj j hm
  obtain ⟨h1, h2⟩ := cargs_ok HI hF (js := js) (ks := []) hj (fun j hj => by cases hj) c5 ha
  refine wpList_plain hgd fun K hK => ?_
  unfold Oper.wp
  rw [run_callF hfok xs ats ho w, Oper.upon_enter]
  have HP : Inv P w (g.pick js []) (g.pick js []) bxc [] [] w := HI.pick (fz2 := []) (rw2 := []) js [] hj (fun j hj => by cases hj) nj List.nodup_nil (usesB_ok c3) hb (fun i j hi hm => by simpa using fzOk_ok c4 i j hi hm) rfl
    ⟨Kept.refl _ _, fun i x hx hxo => .inr ⟨x, hx, hxo, rfl⟩, fun i r k hr hrk => .inr ⟨r, hr, hrk⟩, fun _ _ _ _ => rfl, Gh.le.refl _⟩
  have hXc : XsF (fun b => w.heap.size ≤ b ∨ ∃ x ∈ X, x.A = some b) (g.pick js []) w X := ⟨fun x hx => by
    have h := hX2.ok x hx
    exact ⟨h.le, h.nil, fun b hb => by
      obtain ⟨o1, o2, o3, o4⟩ := h.own b hb
      exact ⟨fun hh => o1 (pick_has hh), .inr ⟨x, hx, hb⟩, o3, o4⟩⟩, hX2.un⟩
  refine (hcall _ w (g.pick js []) (xs.map a.eval) (fun b hb => .inl hb) HP hXc (by simp [h1]) h2).mono fun e w' hp => ?_
  obtain ⟨Y, bx', g1, v, res, hRR, rfl, HI1, hF1, hv, hY⟩ := hp
  obtain ⟨c6, c7⟩ := hRu _ _ _ hRR
  obtain ⟨k1, k2, k3, k4, k5, k6⟩ := call_Y hL HI hB2 hX2 HI1 hF1 hY hj nj (fun x hx => List.all_eq_true.1 c7 x hx)
  have hv' := hv.ren_ (g1 := g1) (g2 := ⟨g1.ro, mergeL g.bx js g1.bx, mergeL g.rw [] g1.rw⟩) (fb := fun k => some (nth js st.bx.length k)) (fr := fun k => some (nth [] st.rw.length k)) (d := 3) rfl (fun i j x hij hx => by injection hij with hij; subst hij; exact k5 i x hx) (fun i j x hij hx => by injection hij with hij; subst hij; exact k6 i x hx) (uses_some c6)
  refine hK _ _ (k Y bx' res _ _ hRR ⟨_, ?_, k3, (hF.mono k1).put c8 (fun _ => hv') rfl (fun h => absurd trivial h), k4⟩)
  have e : mergeL st.rw [] ([] : List (TypeId × Nat)) = st.rw := by
    unfold mergeL
    rw [show setAll st.rw [] ([] : List (TypeId × Nat)) = st.rw from rfl]; exact List.append_nil _
  rw [e] at k2
  cases o.dst <;> simpa [St.put] using k2
end
end Go.Proofs.Ytigmpdhnhkdeiaa
/- Slices on their own that were written: given back as they were handed; published in a box that grows. -/
namespace Go.Proofs.Ytigmpdhnhkdeiaa
open Go Go.RowKit
/-- The view of slices that are published. -/
inductive SeeH (X : List XR) : AV → AV → Prop
  | refl (x : AV) : SeeH X x x
  | own (x : XR) (e : TypeId) (T : Ty) (es : List AV) (h : x ∈ X) (hx : XH x e T es) : SeeH X (.v x.v) (.sl T es none)
  | st {fs fs' : List AV} (hl : fs.length = fs'.length) (h : ∀ i (h1 : i < fs.length) (h2 : i < fs'.length), SeeH X fs[i] fs'[i]) : SeeH X (.st fs) (.st fs')
section
variable {P : Program} {τ : Tab} {w0 w w' w1 w2 : World} {N N1 N2 : Gh} {g g1 gS : Gh} {st st' sq sq' : St} {nt : Nat} {a : Act} {L : Nat → Prop} {X Y X1 X2 : List XR}
structure XRo (g : Gh) (x : XR) : Prop where
  le : x.n ≤ x.c ∧ x.c ≤ maxLen
  nil : x.A = none → x.c = 0
  ro : ∀ b, x.A = some b → ∀ o u, x.cells[o]? = some u → g.ro b o = some u
theorem RC.seeH {x y : AV} (hs : SeeH X x y) : ∀ {g : Gh} {T : Ty} {cs : List Value}, (∀ x ∈ X, XRo g x) → RC g T x cs → RC g T y cs := by
  induction hs with
  | refl x => intro g T cs _ h; exact h
  | own x e T es hm hx =>
    intro g T2 cs hro h
    obtain ⟨rfl, rfl⟩ := h.v_inv
    obtain ⟨F, sp, c1, c2, c3, c4⟩ := hx.cells
    have ho := hro x hm
    have hle := ho.le
    unfold XR.v
    rw [hx.n] at hle ⊢
    refine .sl hle.1 hle.2 F ?_ (fun k hk => c4 _ k hk) fun i hi => by cases hi
    cases hA : x.A with
    | none => left; have := ho.nil hA; exact List.length_eq_zero_iff.1 (by omega)
    | some b =>
      right
      refine ⟨b, 0, rfl, fun k hk j u hu => ?_⟩
      rw [Nat.zero_add]
      refine ho.ro b hA _ _ ?_
      rw [c1]
      exact flat_at (g := g) (fun k h => c4 _ k h) hk hu
  | @st fs fs' hl hsub ih =>
    intro g T cs hro h
    induction T generalizing cs fs fs' with
    | cn T Ts _ ihs =>
      cases h with
      | cn h hs =>
        cases fs' with
        | nil => cases hl
        | cons b m =>
          refine .cn (ih 0 (by simp) (by simp) hro h) (ihs (by simpa using hl) (fun i h1 h2 => hsub (i + 1) (by simpa using h1) (by simpa using h2)) (fun i h1 h2 => ?_) hs)
          intro g T cs hro h
          exact ih (i + 1) (by simpa using h1) (by simpa using h2) hro (by simpa using h)
    | nl => cases h; cases fs' with | nil => exact .nl | cons _ _ => cases hl
    | _ => cases h
/-- All slices on their own stay as they are from here on. -/
theorem pubY_inv {bx : List (Ty × AV)} {fz : List Nat} {rw_ : List (TypeId × Nat)} (HI : Inv P w g g bx fz rw_ w) (hB : FrZ L w0 N g w) (hX : XsF L g w X) (hL : ∀ b, L b → w0.heap.size ≤ b) :
    ∃ g', g.le g' ∧ Inv P w0 N g' bx fz rw_ w ∧ ∀ x ∈ X, XRo g' x := by
  classical
  let S : Nat → Prop := fun b => ∃ x ∈ X, x.A = some b
  have hS : ∀ b, S b → ¬ g.has b ∧ L b ∧ ∀ o, g.ro b o = none := fun b ⟨x, hx, hb⟩ => by
    obtain ⟨o1, o2, o3, o4⟩ := (hX.ok x hx).own b hb
    exact ⟨o1, o2, o4⟩
  let g' : Gh := ⟨fun b o => if S b then w.cell? ⟨b, o, none⟩ else g.ro b o, g.bx, g.rw⟩
  have hro : ∀ b, ¬ S b → ∀ o, g'.ro b o = g.ro b o := fun b hb o => if_neg hb
  have hroS : ∀ b, S b → ∀ o, g'.ro b o = w.cell? ⟨b, o, none⟩ := fun b hb o => if_pos hb
  have hle : g.le g' := ⟨fun b o u hu => by
    by_cases hb : S b
    · rw [(hS b hb).2.2 o] at hu; cases hu
    · rw [hro b hb o]; exact hu, fun i x hx => ⟨x, hx, x.same⟩, fun i r hr => ⟨r, hr, rfl, rfl, rfl, Nat.le_refl _, fun _ => rfl⟩⟩
  have hbxS : ∀ {i : Nat} {x : Bx}, g.bx[i]? = some x → x.off = false → ¬ S x.blk := fun {i x} hx hxo h => (hS _ h).1 (.inl ⟨x, List.mem_of_getElem? hx, hxo, rfl⟩)
  have hrwS : ∀ {i : Nat} {r : Rw} {k : Nat}, g.rw[i]? = some r → r.v.ownBlock = some k → ¬ S k := fun {i r k} hr hk h => (hS _ h).1 (.inr ⟨r, List.mem_of_getElem? hr, hk⟩)
  have hF := hB.fr hL
  refine ⟨g', hle, ⟨⟨fun b o u hu => ?_, HI.mem.bx, HI.mem.offc, HI.mem.mpc, HI.mem.rw, fun i x hx hf o u hu => hle.ro _ _ _ (HI.mem.fro i x hx hf o u hu), fun i x hx ho hf o => ?_, HI.mem.bb, fun i r k hr hk o ho => ?_, fun i r k hr hk o u hu => hle.ro _ _ _ (HI.mem.rwo i r k hr hk o u hu), HI.mem.rb, HI.mem.rr⟩,
    ⟨hF.kept, hF.bx, hF.rw, fun b hb hn o => ?_, hF.le.trans hle⟩, ⟨HI.br.len, fun i T' a' hi => ?_⟩, HI.fz, HI.wr, HI.wz⟩, fun x hx => ⟨(hX.ok x hx).le, (hX.ok x hx).nil, fun b hb o u hu => ?_⟩⟩
  · by_cases hb : S b
    · rw [hroS b hb o] at hu; exact hu
    · rw [hro b hb o] at hu; exact HI.mem.ro b o u hu
  · rw [hro _ (hbxS hx ho) o]; exact HI.mem.bro i x hx ho hf o
  · rw [hro _ (hrwS hr hk) o]; exact HI.mem.rro i r k hr hk o ho
  · have : ¬ S b := fun h => by have := hL b (hS b h).2.1; omega
    rw [hro b this o]; exact hF.ro b hb hn o
  · obtain ⟨x, q1, q2, q3⟩ := HI.br.at_ i T' a' hi
    exact ⟨x, q1, q2, q3.mono hle⟩
  · obtain ⟨o1, o2, o3, o4⟩ := (hX.ok x hx).own b hb
    rw [hroS b ⟨x, hx, hb⟩ o]
    rw [o3.cell, List.getElem?_toArray]; exact hu
theorem v_pubY (H : RelY L P w0 N nt st X a w) (hL : ∀ b, L b → w0.heap.size ≤ b) (i : Nat) {e γ : Nat} {T : Ty} {es es' : List AV} (hb : st.bx[i]? = some (.vc e T, .vc γ es)) (hl : es.length = es'.length) (hs : ∀ k (h1 : k < es.length) (h2 : k < es'.length), SeeH X es[k] es'[k]) :
    Rel P w0 N nt ⟨st.t, st.bx.set i (.vc e T, .vc γ es'), st.fz, st.rw⟩ a w := by
  obtain ⟨g, HI, hB, hF, hX⟩ := H
  obtain ⟨g', hle, I1, hro⟩ := pubY_inv HI hB hX hL
  have F1 := hF.mono hle
  obtain ⟨y, hy, hyT, hbc⟩ := I1.br.at_ i _ _ hb
  obtain ⟨T2, F, sp, ⟨e2, he2, htid⟩, hmp, hgen, h0, hcm, hcs, hcl, hsp, hFk⟩ := hbc.vc_inv
  injection he2 with he20 he2; subst he20 he2
  have h2 : BC g' y.ty (.vc γ es') y := by
    rw [hyT]
    refine .inr (.inl ⟨T, γ, es', F, sp, ⟨e, rfl, htid⟩, rfl, hmp, hgen, h0, hcm, ?_, hcl, hsp, fun k hk => ?_⟩)
    · rw [← hl]; exact hcs
    · exact (hFk k (by omega)).seeH (hs k (by omega) hk) fun x hx => ⟨(hro x hx).le, (hro x hx).nil, (hro x hx).ro⟩
  have I2 := I1.re hy h2
  rw [hyT] at I2
  exact ⟨g', I2, F1.sz, F1.df, fun p hp hg => F1.t p hp hg, fun p hp hg => F1.u p hp hg⟩
/-- A slice that was lent and not grown is the same slice. -/
theorem give_same {x0 : XR} {e : TypeId} {T : Ty} {es : List AV} {bx : List (Ty × AV)} {fz : List Nat} {rw_ : List (TypeId × Nat)} (hk : g1.bx.length = bx.length)
    (HI : Inv P w1 (g1.push (x0.box e T)) g (bx ++ [(.vc e T, .vc 0 es)]) fz rw_ w) (hn : x0.n = es.length) (hle : x0.n ≤ x0.c ∧ x0.c ≤ maxLen) : RV g (.vw bx.length 0 es.length) x0.v := by
  obtain ⟨y', hy', hyT, hbc⟩ := HI.br.at_ bx.length _ _ (by rw [List.getElem?_append_right (Nat.le_refl _), Nat.sub_self]; rfl)
  obtain ⟨T2, F, sp, ⟨e2, he2, htid⟩, hmp, hgen, h0, hcm, hcs, hcl, hsp, hFk⟩ := hbc.vc_inv
  injection he2 with he20 he2; subst he20 he2
  have hpk : (g1.push (x0.box e T)).bx[bx.length]? = some (x0.box e T) := by show (g1.bx ++ [_])[bx.length]? = _; rw [← hk]; simp
  obtain ⟨y2, q1, q2, q3, q4⟩ := HI.fr.le.bx bx.length _ hpk
  rw [hy'] at q1; injection q1 with q1; subst q1
  obtain ⟨r1, r2, r3⟩ := q4 (.inl hgen)
  have hoff : y'.off = x0.A.isNone := by first | exact r2 | exact r2.symm
  have hblk : y'.blk = x0.A.getD 0 := by first | exact r1 | exact r1.symm
  have hcap : y'.cap = x0.c := by first | exact r3 | exact r3.symm
  have := RC.vw (g := g) (i := bx.length) (γ := 0) (n := es.length) (c := x0.c) (e := e) (x := y') (T := T) (A := x0.A.map fun b => ⟨b, 0, none⟩) hy' hyT (Nat.zero_le _) (by rw [← hn]; exact hle.1) hle.2 fun _ => ⟨hcap.symm, by
    rw [hoff, hblk]
    cases hA : x0.A with
    | none => exact .inl ⟨rfl, rfl⟩
    | some b => exact .inr ⟨rfl, rfl⟩⟩
  have := this.rv1
  rw [← hn] at this ⊢
  exact this.rv
theorem v_giveS {x0 : XR} {e : TypeId} {T : Ty} {es : List AV} {bx : List (Ty × AV)} {fz : List Nat} {rw_ : List (TypeId × Nat)} {t : List (Nat × Gd × AV)} (hlo : ∀ b, w0.heap.size ≤ b → L b) (hL : Lent1 L w0 N g1 w1 X1 X2 (x0.box e T)) (hk : g1.bx.length = bx.length)
    (H : Rel P w1 (g1.push (x0.box e T)) nt ⟨t, bx ++ [(.vc e T, .vc 0 es)], fz, rw_⟩ a w) (hx0 : x0.n = es.length) (hle : x0.n ≤ x0.c ∧ x0.c ≤ maxLen) (ks : List Nat) (hnf : fz.contains bx.length = false) (hfl : es.all (flat 3) = true) (hlow : bx.all (fun x => low bx.length rw_.length 4 x.2) = true) (h1 : keepT ks bx.length rw_.length t = true) :
    ∃ x : XR, XH x e T es ∧ x.v = x0.v ∧ RelY L P w0 N nt ⟨t.filter (fun p => ks.contains p.1), bx, fz, rw_⟩ (X1 ++ x :: X2) a w := by
  obtain ⟨g, HI, hF⟩ := H
  obtain ⟨x, q1, q2, q3, q4, q5⟩ := give_inv hlo hL hk HI (by intro h; rw [List.contains_iff_mem.2 h] at hnf; cases hnf) hfl hlow
  refine ⟨x, q1, (q5 _ _ rfl (give_same hk HI hx0 hle)).symm, _, q2, q3, ⟨hF.sz, hF.df, fun p hp hg => ?_, fun p hp hg => ?_⟩, q4⟩
  · simp only [List.mem_filter] at hp
    simp only [keepT, List.all_eq_true, Bool.or_eq_true, Bool.not_eq_true'] at h1
    have hl : low bx.length rw_.length 4 p.2.2 = true := by
      rcases h1 p hp.1 with h | h
      · rw [h] at hp; cases hp.2
      · exact h
    exact (hF.t p hp.1 hg).low_ (d := 3) hl
  · simp only [List.mem_filter] at hp; exact hF.u p hp.1 hg
/-- What is lent has its room. -/
theorem RelY.le {x : XR} (H : RelY L P w0 N nt st (X1 ++ x :: X2) a w) : x.n ≤ x.c ∧ x.c ≤ maxLen := by
  obtain ⟨g, HI, hB, hF, hX⟩ := H
  exact (hX.ok x (List.mem_append_right _ List.mem_cons_self)).le
/-- Slots, boxes and rows are forgotten. -/
theorem RelY.to (H : RelY L P w0 N nt st X a w) (nb nr : Nat) (hM : N.bx.length ≤ nb ∧ N.rw.length ≤ nr) {t2 : List (Nat × Gd × AV)} {bx2 : List (Ty × AV)} {rw2 : List (TypeId × Nat)} {fz2 : List Nat} (hs : SubT t2 st.t) (hb : st.bx.take nb = bx2) (hr : st.rw.take nr = rw2) (hf : st.fz = fz2) (h1 : t2.all (fun p => low nb nr 4 p.2.2) = true) (h2 : bx2.all (fun x => low nb nr 4 x.2) = true) :
    RelY L P w0 N nt ⟨t2, bx2, fz2, rw2⟩ X a w := by
  subst hb hr hf
  obtain ⟨g, HI, hB, hF, hX⟩ := H
  have I1 := (HI.loose.cut (st := st) (nb := nb) (nr := nr) (Nat.zero_le _) (Nat.zero_le _) h2).self
  have hcbx : ∀ {i : Nat} {x : Bx}, (g.cut nb nr).bx[i]? = some x → g.bx[i]? = some x := fun {i x} hx => by
    have : (g.bx.take nb)[i]? = some x := hx
    rw [List.getElem?_take] at this; split at this; exact this; cases this
  have hcrw : ∀ {i : Nat} {x : Rw}, (g.cut nb nr).rw[i]? = some x → g.rw[i]? = some x := fun {i x} hx => by
    have : (g.rw.take nr)[i]? = some x := hx
    rw [List.getElem?_take] at this; split at this; exact this; cases this
  have hchas : ∀ b, (g.cut nb nr).has b → g.has b := fun b hh => by
    rcases hh with ⟨z, hz, h⟩ | ⟨s, hs, h⟩
    · exact .inl ⟨z, List.mem_of_mem_take hz, h⟩
    · exact .inr ⟨s, List.mem_of_mem_take hs, h⟩
  refine ⟨g.cut nb nr, I1, ⟨hB.os, hB.tape, hB.output, hB.size, hB.block, fun i x hx hxo => hB.bx i x (hcbx hx) hxo, fun i r k hr hrk => hB.rw i r k (hcrw hr) hrk, hB.ro, ⟨hB.le.ro, fun i x hx => ?_, fun i r hr => ?_⟩⟩,
    ⟨hF.sz, hF.df, fun p hp hg => (hF.t p (hs.mem hp) hg).low_ (d := 3) (List.all_eq_true.1 h1 p hp), fun p hp hg => hF.u p (hs.mem hp) hg⟩, ⟨fun x hx => ?_, hX.un⟩⟩
  · obtain ⟨y, h3, h4⟩ := hB.le.bx i x hx
    have := (List.getElem?_eq_some_iff.1 hx).1
    exact ⟨y, by show (g.bx.take nb)[i]? = _; rw [List.getElem?_take, if_pos (by omega)]; exact h3, h4⟩
  · obtain ⟨y, h3, h4⟩ := hB.le.rw i r hr
    have := (List.getElem?_eq_some_iff.1 hr).1
    exact ⟨y, by show (g.rw.take nr)[i]? = _; rw [List.getElem?_take, if_pos (by omega)]; exact h3, h4⟩
  · have h := hX.ok x hx
    exact ⟨h.le, h.nil, fun b hb => ⟨fun hh => (h.own b hb).1 (hchas b hh), (h.own b hb).2⟩⟩
end
end Go.Proofs.Ytigmpdhnhkdeiaa
/- Ways with slices on their own (plain): their box, digests aside, ends. -/
namespace Go.Proofs.Ytigmpdhnhkdeiaa
open Go Go.RowKit
def wyE (ws : List MW) (X : List XR) : List AV := List.zipWith (fun w x => .st [.v x.v, w.en.av]) ws X
structure WyX (ws : List MW) (X : List XR) : Prop where
  len : X.length = ws.length
  at_ : ∀ k (h1 : k < ws.length) (h2 : k < X.length), XH X[k] 50 (.ba 32) (bas ws[k].sd)
theorem wyE_len {ws : List MW} {X : List XR} (h : X.length = ws.length) : (wyE ws X).length = ws.length := by
  unfold wyE; rw [List.length_zipWith, h, Nat.min_self]
theorem wyE_elem {ws : List MW} {X : List XR} (i : Nat) (h : i < (wyE ws X).length) (h1 : i < ws.length) (h2 : i < X.length) : (wyE ws X)[i] = .st [.v X[i].v, ws[i].en.av] := List.getElem_zipWith
theorem wyF_elem (n lo k : Nat) (c : Bool) (m : Nd) (vs : Nat → Value) (ns : Nat → Nd) (i : Nat) (h : i < (wyF n lo k c m vs ns).length) : (wyF n lo k c m vs ns)[i] = .st [.v (vs i), (if c = true ∧ lo ≤ i ∧ i < k then m else ns i).av] := by
  simp only [wyF, List.getElem_map, List.getElem_range]
theorem wyE_get {ws : List MW} {X : List XR} (k : Nat) (h1 : k < ws.length) (h2 : k < X.length) : (wyE ws X).getD k .any = .st [.v X[k].v, ws[k].en.av] := by
  have h : k < (List.zipWith (fun (w : MW) (x : XR) => AV.st [.v x.v, w.en.av]) ws X).length := by rw [List.length_zipWith]; omega
  unfold wyE
  rw [List.getD_eq_getElem?_getD, List.getElem?_eq_getElem h, Option.getD_some, List.getElem_zipWith]
theorem wyE_set {ws : List MW} {X : List XR} (k : Nat) (w : MW) (x : XR) : (wyE ws X).set k (.st [.v x.v, w.en.av]) = wyE (ws.set k w) (X.set k x) := by
  unfold wyE
  apply List.ext_getElem (by simp)
  intro i h1 h2
  rw [List.getElem_set, List.getElem_zipWith, List.getElem_zipWith, List.getElem_set, List.getElem_set]
  by_cases e : k = i
  · rw [if_pos e, if_pos e, if_pos e]
  · rw [if_neg e, if_neg e, if_neg e]
theorem WyX.set {ws : List MW} {X : List XR} (h : WyX ws X) (k : Nat) {w : MW} {x : XR} (hx : XH x 50 (.ba 32) (bas w.sd)) : WyX (ws.set k w) (X.set k x) := by
  refine ⟨by rw [List.length_set, List.length_set]; exact h.len, fun i h1 h2 => ?_⟩
  rw [List.length_set] at h1 h2
  rw [List.getElem_set, List.getElem_set]
  by_cases e : k = i
  · rw [if_pos e, if_pos e]; exact hx
  · rw [if_neg e, if_neg e]; exact h.at_ i h1 h2
theorem split_at {α : Type} (X : List α) (k : Nat) (h : k < X.length) : X = X.take k ++ X[k] :: X.drop (k + 1) := by
  rw [List.getElem_cons_drop h, List.take_append_drop]
theorem split_ex {α : Type} (X : List α) (k : Nat) (h : k < X.length) : ∃ X1 x X2, X = X1 ++ x :: X2 ∧ X1.length = k := ⟨X.take k, X[k], X.drop (k + 1), split_at X k h, List.length_take_of_le (by omega)⟩
theorem wyE_getS {ws : List MW} {X1 X2 : List XR} {x : XR} (h : X1.length < ws.length) : (wyE ws (X1 ++ x :: X2)).getD X1.length .any = .st [.v x.v, ws[X1.length].en.av] := by
  rw [wyE_get X1.length h (by simp)]
  simp
theorem set_mid {α : Type} (X1 X2 : List α) (x x' : α) : (X1 ++ x :: X2).set X1.length x' = X1 ++ x' :: X2 := by simp
theorem wyE_setS {ws : List MW} {X1 X2 : List XR} {x : XR} (w' : MW) (x' : XR) : (wyE ws (X1 ++ x :: X2)).set X1.length (.st [.v x'.v, w'.en.av]) = wyE (ws.set X1.length w') (X1 ++ x' :: X2) := by
  rw [wyE_set, set_mid]
theorem WyX.atS {ws : List MW} {X1 X2 : List XR} {x : XR} (h : WyX ws (X1 ++ x :: X2)) (hk : X1.length < ws.length) : XH x 50 (.ba 32) (bas ws[X1.length].sd) := by
  have := h.at_ X1.length hk (by simp)
  simpa using this
theorem WyX.setS {ws : List MW} {X1 X2 : List XR} {x x' : XR} {w' : MW} (h : WyX ws (X1 ++ x :: X2)) (hx : XH x' 50 (.ba 32) (bas w'.sd)) : WyX (ws.set X1.length w') (X1 ++ x' :: X2) := by
  have := h.set X1.length (w := w') hx
  rwa [set_mid] at this
def asd (h : List UInt8) (lo k : Nat) (ws : List MW) : List MW := ws.mapIdx fun i w => if lo ≤ i ∧ i < k then w.aside h else w
theorem asd_len (h : List UInt8) (lo k : Nat) (ws : List MW) : (asd h lo k ws).length = ws.length := by simp [asd]
theorem asd_get (h : List UInt8) (lo k : Nat) (ws : List MW) (i : Nat) (h1 : i < (asd h lo k ws).length) (h2 : i < ws.length) : (asd h lo k ws)[i] = if lo ≤ i ∧ i < k then ws[i].aside h else ws[i] := List.getElem_mapIdx
theorem asd_zero (h : List UInt8) (lo : Nat) (ws : List MW) : asd h lo lo ws = ws := by
  apply List.ext_getElem (asd_len _ _ _ _)
  intro i h1 h2
  rw [asd_get _ _ _ _ _ _ h2, if_neg (by omega)]
theorem asd_at (h : List UInt8) (lo k : Nat) (ws : List MW) (hk : k < ws.length) (hk2 : k < (asd h lo k ws).length) : (asd h lo k ws)[k] = ws[k] := by
  rw [asd_get _ _ _ _ _ _ hk, if_neg (by omega)]
theorem asd_step (h : List UInt8) (lo k : Nat) (ws : List MW) (hk : k < ws.length) (hl : lo ≤ k) : (asd h lo k ws).set k (ws[k].aside h) = asd h lo (k + 1) ws := by
  apply List.ext_getElem (by rw [List.length_set, asd_len, asd_len])
  intro i h1 h2
  have hi : i < ws.length := by rw [asd_len] at h2; exact h2
  rw [List.getElem_set, asd_get _ _ _ _ _ _ hi, asd_get _ _ _ _ _ _ hi]
  by_cases e : k = i
  · subst e; rw [if_pos rfl, if_pos ⟨hl, by omega⟩]
  · rw [if_neg e]
    by_cases hh : lo ≤ i ∧ i < k
    · rw [if_pos hh, if_pos ⟨hh.1, by omega⟩]
    · rw [if_neg hh, if_neg (fun q => hh ⟨q.1, by omega⟩)]
theorem mapIdx_mid {α : Type} (f : α → α) (A W B : List α) : (A ++ W ++ B).mapIdx (fun i w => if A.length ≤ i ∧ i < A.length + W.length then f w else w) = A ++ W.map f ++ B := by
  apply List.ext_getElem (by simp)
  intro i h1 h2
  rw [List.getElem_mapIdx]
  by_cases ha : i < A.length
  · rw [if_neg (by omega), List.getElem_append_left (by rw [List.length_append]; omega), List.getElem_append_left ha, List.getElem_append_left (by rw [List.length_append]; omega), List.getElem_append_left ha]
  by_cases hb : i < A.length + W.length
  · rw [if_pos ⟨by omega, hb⟩, List.getElem_append_left (by rw [List.length_append]; omega), List.getElem_append_right (by omega), List.getElem_append_left (by rw [List.length_append, List.length_map]; omega), List.getElem_append_right (by omega), List.getElem_map]
  · rw [if_neg (by omega), List.getElem_append_right (by rw [List.length_append]; omega), List.getElem_append_right (by rw [List.length_append, List.length_map]; omega)]
    simp only [List.length_append, List.length_map]
theorem asd_mid (h : List UInt8) (A W B : List MW) : asd h A.length (A.length + W.length) (A ++ W ++ B) = A ++ W.map (MW.aside h) ++ B := mapIdx_mid _ _ _ _
/-- The ways' box as a box of ends. -/
theorem wyE_end {A W B : List MW} {X : List XR} (b : Br) (hX : X.length = (A ++ W ++ B).length) :
    wyF (A ++ W ++ B).length A.length A.length true (Nd.one b.key b.v) (fun t => ((A ++ W ++ B).zip X).map (·.2.v) |>.getD t undef) (fun t => ((A ++ W ++ B).map (·.en)).getD t Nd.zero) = wyE (A ++ W ++ B) X ∧
    wyF (A ++ W ++ B).length A.length (A.length + W.length) true (Nd.one b.key b.v) (fun t => ((A ++ W ++ B).zip X).map (·.2.v) |>.getD t undef) (fun t => ((A ++ W ++ B).map (·.en)).getD t Nd.zero) = wyE (A ++ W.map (MW.lf b) ++ B) X := by
  have hv : ∀ i (h : i < (A ++ W ++ B).length) (h2 : i < X.length), (((A ++ W ++ B).zip X).map (·.2.v)).getD i undef = X[i].v := fun i h h2 => by
    rw [List.getD_eq_getElem?_getD, List.getElem?_map, List.getElem?_eq_getElem (by rw [List.length_zip]; omega), Option.map_some, Option.getD_some, List.getElem_zip]
  have hn : ∀ i (h : i < (A ++ W ++ B).length), ((A ++ W ++ B).map (·.en)).getD i Nd.zero = (A ++ W ++ B)[i].en := fun i h => by
    rw [List.getD_eq_getElem?_getD, List.getElem?_map, List.getElem?_eq_getElem h, Option.map_some, Option.getD_some]
  have key : ∀ i (h : i < (A ++ W ++ B).length) (h3 : i < (A ++ W.map (MW.lf b) ++ B).length), (A ++ W.map (MW.lf b) ++ B)[i] = if A.length ≤ i ∧ i < A.length + W.length then MW.lf b (A ++ W ++ B)[i] else (A ++ W ++ B)[i] := fun i h h3 => by
    have := List.getElem_of_eq (mapIdx_mid (MW.lf b) A W B).symm h3
    rw [this, List.getElem_mapIdx]
  refine ⟨List.ext_getElem (by rw [wyF_len, wyE_len hX]) fun i h1 h2 => ?_, List.ext_getElem (by rw [wyF_len, wyE_len (by simpa using hX)]; simp) fun i h1 h2 => ?_⟩
  · have h3 := h1
    rw [wyF_len] at h3
    rw [wyF_elem, wyE_elem i h2 h3 (by omega), if_neg (by omega)]
    rw [hv i h3 (by omega), hn i h3]
  · have h3 := h1
    rw [wyF_len] at h3
    have h4 : i < (A ++ W.map (MW.lf b) ++ B).length := by simpa using h3
    rw [wyF_elem, wyE_elem i h2 h4 (by omega), key i h3 h4]
    rw [hv i h3 (by omega)]
    by_cases hh : A.length ≤ i ∧ i < A.length + W.length
    · rw [if_pos ⟨rfl, hh⟩, if_pos hh]; rfl
    · rw [if_neg (fun q => hh q.2), if_neg hh, hn i h3]
theorem WyX.end_ {A W B : List MW} {X : List XR} (b : Br) (h : WyX (A ++ W ++ B) X) : WyX (A ++ W.map (MW.lf b) ++ B) X := by
  refine ⟨by have := h.len; simpa using this, fun i h1 h2 => ?_⟩
  have hl := h.len
  have q := h.at_ i (by omega) h2
  have : ((A ++ W.map (MW.lf b) ++ B)[i]).sd = ((A ++ W ++ B)[i]'(by omega)).sd := by
    have := List.getElem_of_eq (mapIdx_mid (MW.lf b) A W B).symm h1
    rw [this, List.getElem_mapIdx]
    split <;> rfl
  rw [this]; exact q
end Go.Proofs.Ytigmpdhnhkdeiaa
/- Digests put aside of ways, in a reader of a sketch for keys: multi.aside. -/
namespace Go.Proofs.Ytigmpdhnhkdeiaa
open Go Go.RowKit
abbrev mrdB (rest : List Br) (e : List UInt8) (n : Nat) (ws : List MW) (X : List XR) : List (Ty × AV) := [(mrdT, .st [.sl brT (brs rest) none, .ba e, .vw 1 0 n]), (.vc 68 pfT0, .vc 0 (wyE ws X))]
attribute [local irreducible] wpT
set_option maxRecDepth 20000 in
set_option maxHeartbeats 16000000 in
theorem maside_v (rest : List Br) (e : List UInt8) (he : e.length = 32) (h : List UInt8) (hh : h.length = 32) (ws : List MW) (hw : ∀ w ∈ ws, w.sd.length ≤ 1000) (n : Nat) (hnw : ws.length = n) (hn : n ≤ 64) (lo hi : Nat) (hlo : lo ≤ hi) (hhi : hi ≤ n) (X : List XR) (hW : WyX ws X) :
    VY Try.prog 230 (mrdB rest e n ws X) [.ptr 0 [], .ba h, .v (.int .i64 (lo : Int)), .v (.int .i64 (hi : Int))] X
      (fun X' bx' res => WyX (asd h lo hi ws) X' ∧ bx' = mrdB rest e n (asd h lo hi ws) X' ∧ res = .tup []) := by
  have hl0 : (wyE ws X).length = n := by rw [wyE_len hW.len]; exact hnw
  refine v_enterY Try.func230 rfl (by kernel_rfl) (by show 4 ≤ 33; decide) ?_
  intro L N w0 a w hL hN0 hR0 H
  have hM : N.bx.length ≤ 2 ∧ N.rw.length ≤ 0 := ⟨hN0, hR0⟩
  clear hN0 hR0
  obtain ⟨N1, hB, hZ, H, hN1, hR1⟩ := H.open_
  have hN : N1.bx.length ≤ 2 := Nat.le_of_eq hN1
  have hR : N1.rw.length ≤ 0 := Nat.le_of_eq hR1
  clear hN1 hR1
  have hX := And.intro @he (And.intro @hh (@hl0))
  refine mW ?_; clear H; intro a w H
  replace H := v_ref H 5 2 (Nat.le_trans hN (Nat.le_of_ble_eq_true rfl)) rfl rfl rfl
  simp only [nilT, strip, List.map_cons, List.map_nil, reduceIte, Nat.reduceEqDiff] at H
  refine v_loopI (fun k a w => ∃ X : List XR, WyX (asd h lo k ws) X ∧ RelY L Try.prog w0 N Try.f230.ntmps ⟨[(8, none, .v (.int .i64 ((k : Nat) : Int))), (5, none, .ref (.ba 32) (.ba h)), (3, none, .v (.int .i64 (hi : Int))), (0, none, .ptr 0 [])],
    [(mrdT, .st [.sl brT (brs rest) none, .ba e, .vw 1 0 n]), (.vc 68 pfT0, .vc 0 (wyE (asd h lo k ws) X)), (.ba 32, .ba h)], [2], []⟩ X a w) (fun k => lo ≤ k ∧ k ≤ hi) (fun k => hi - k) lo ⟨Nat.le_refl _, hlo⟩
    ⟨X, by rw [asd_zero]; exact hW, by rw [asd_zero]; exact RelY.close hB hZ (H.to 3 0 ⟨Nat.le_trans hN (Nat.le_of_ble_eq_true rfl), hR⟩ ⟨rfl, rfl, rfl, rfl, trivial⟩ rfl rfl rfl rfl rfl)⟩ ?_
  clear H hB hZ hN hR hW hl0
  rintro k a w1 hk ⟨X, hW, H⟩
  obtain ⟨hk1, hk2⟩ := hk
  obtain ⟨N1, hB, hZ, H, hN1, hR1⟩ := H.open_
  have hN : N1.bx.length ≤ 3 := Nat.le_of_eq hN1
  have hR : N1.rw.length ≤ 0 := Nat.le_of_eq hR1
  clear hN1 hR1
  have hlk : (wyE (asd h lo k ws) X).length = n := by rw [wyE_len hW.len, asd_len]; exact hnw
  clear hX; have hX := And.intro @he (And.intro @hh (@hlk))
  refine mW ?_; clear H; intro a w H
  refine mC H (fun hb => ?_) (fun hb => ?_)
  · have hlt : k < hi := by rw [decide_eq_true_eq] at hb; omega
    clear hb
    have hkw : k < ws.length := by omega
    have hXl := hW.len
    rw [asd_len] at hXl
    obtain ⟨X1, x, X2, rfl, rfl⟩ := split_ex X k (by omega)
    have hka : X1.length < (asd h lo X1.length ws).length := by rw [asd_len]; exact hkw
    have hg := wyE_getS (x := x) (X2 := X2) hka
    have hx0 := hW.atS hka
    rw [asd_at h lo X1.length ws hkw] at hg hx0
    have hst := asd_step h lo X1.length ws hkw hk1
    have hwl := hw _ (List.getElem_mem hkw)
    have hsl := bas_len ws[X1.length].sd
    generalize ws[X1.length] = v at *
    have hbe : (bas v.sd).take v.sd.length ++ [AV.ba h] = bas (v.aside h).sd := by
      rw [List.take_of_length_le (by omega)]; simp [bas, MW.aside]
    refine mS ?_
    clear hX; have hX := And.intro @he (And.intro @hh (And.intro @hlk (And.intro @hg (@hsl))))
    repeat (first | refine wp_seq ?_ | refine wp_block ?_)
    refine v_drawZ 0 [0, 1, 2, 4, 5, 6, 7, 9, 13, 8, 10, 11, 12, 3, 14, 15, 16, 17, 18] [3, 8, 12, 14, 15, 18] [0, 1, 2, 4, 5, 6, 7, 9, 10, 11, 13] [(8, 3), (12, 3), (3, 14), (3, 15), (8, 14), (12, 14), (1015, 14)] (by kernel_rfl) (by kernel_rfl) (by kernel_rfl) (by kernel_rfl) (by kernel_rfl) H (by rfl) ?_; clear H; intro gS H; try replace H := ntf H
    repeat' ((first | refine wpZ_q1 rfl rfl ?_ | refine wpZ_l1 rfl rfl rfl ?_ | refine wpZ_l2 rfl rfl rfl rfl rfl ?_ ?_ | refine wpZ_l3 rfl rfl rfl rfl rfl rfl rfl ?_ ?_ ?_ | refine wpZ_l4 rfl rfl rfl rfl rfl rfl rfl rfl rfl ?_ ?_ ?_ ?_) <;> ((first | (refine wpT_at 15 ?_; obtain ⟨g9, hL9, hb9, hr9, H⟩ := v_lendT (RelYT.close hB hZ H) hx0 27 rfl; simp only [nilT, reduceIte, Nat.reduceEqDiff] at H; replace H := ntf H; have hN9 : (g9.push (x.box 50 (.ba 32))).bx.length ≤ 4 := (by simp [Gh.push, hb9]); refine v_someT 1 tab_ok hN9 H rfl ctX ?_; clear H; intro a w H; replace H := ntf H; simp only [hbe] at H; obtain ⟨x', hx', H⟩ := v_giveT (bx := [(mrdT, _), (.vc 68 pfT0, _), (.ba 32, _)]) (e := 50) (T := .ba 32) (γ := 1) hL hL9 hb9 H [0, 3, 5, 8, 10, 11, 12, 15, 16, 17, 18, 19, 20, 21, 22, 23, 24, 25, 26, 28, 31, 32] 30 (v.sd.length + 1) (by simp [MW.aside, bas]) rfl rfl (by simp [bas, flat]) rfl rfl (Nat.zero_le _); obtain ⟨N2, hB2, hZ2, H, hN3, hR3⟩ := H.open_; replace H := ntf H; clear hN hB hZ; have hN : N2.bx.length ≤ 3 := Nat.le_of_eq hN3) | (refine v_someT 1 tab_ok hN H rfl ctX ?_; clear H; intro a w H; replace H := ntf H; simp only [List.drop_succ_cons, List.drop_zero, List.drop_nil])); refine wpT_nil ?_; try dsimp only))
    all_goals (refine wpZ_nil ?_; replace H := RelT.toRel H)
    all_goals
      have e9 : (wyE (asd h lo X1.length ws) (X1 ++ x :: X2)).set X1.length (.st [.v x'.v, v.en.av]) = wyE (asd h lo (X1.length + 1) ws) (X1 ++ x' :: X2) := (wyE_setS (v.aside h) x').trans (by rw [hst])
      have hW2 : WyX (asd h lo (X1.length + 1) ws) (X1 ++ x' :: X2) := by rw [← hst]; exact hW.setS hx'
      have hR : N2.rw.length ≤ 1 := Nat.le_of_eq hR3
      rw [e9] at H
      refine mS ?_
      clear hX; have hX := @hh
      refine mW ?_; clear H; intro a w H
      rw [show (X1.length : Int) + 1 = ((X1.length + 1 : Nat) : Int) by omega] at H
      exact ⟨X1.length + 1, ⟨by omega, hlt⟩, by omega, X1 ++ x' :: X2, hW2, (RelY.close hB2 hZ2 H).to 3 0 ⟨Nat.le_trans hM.1 (Nat.le_of_ble_eq_true rfl), hM.2⟩ ⟨rfl, rfl, rfl, rfl, trivial⟩ rfl rfl rfl rfl rfl⟩
  · have hge : k = hi := by rw [decide_eq_false_iff_not] at hb; omega
    clear hb
    subst hge
    refine mW ?_; clear H; intro a w H
    exact v_endY (rs := []) (ress := []) (nb := 2) (nr := 0) [0, 1] tab_ok hM rfl (RelY.close hB hZ H) (by rfl) rfl cbX trivial rfl ⟨hW, rfl, rfl⟩
end Go.Proofs.Ytigmpdhnhkdeiaa
/- Parts that are clean: mpack.clean, multi.clean, ref21.clean. -/
namespace Go.Proofs.Ytigmpdhnhkdeiaa
open Go Go.RowKit
set_option maxRecDepth 20000 in
theorem uclean_v (b : Br) (hw : b.wf) : VC Try.prog 226 [b.av] [] (.v (.bool b.clean)) := by
  obtain ⟨h1, h2, h3⟩ := id hw
  obtain ⟨k, key, v, g⟩ := b
  dsimp only at h1 h2 h3
  have hz2 := z32_len
  have hzl : (List.replicate 32 (0 : UInt8)).length = 32 := List.length_replicate
  have k0 : decide ((k.toNat : Int) = 0) = decide (k = 0) := kz k 0 (by decide)
  have k1 : decide ((k.toNat : Int) = 1) = decide (k = 1) := kz k 1 (by decide)
  have k2 : decide ((k.toNat : Int) = 2) = decide (k = 2) := kz k 2 (by decide)
  have k3 : decide ((k.toNat : Int) = 3) = decide (k = 3) := kz k 3 (by decide)
  refine mE Try.func226 ?_; intro N w0 a w hN hR H
  simp only [Br.av] at H
  have hX := @hzl
  have hY := And.intro @h1 (And.intro @h2 (@h3))
  refine mW ?_; clear H; intro a w H
  refine mC H (fun hb => ?_) (fun hb => ?_)
  · rw [k0, decide_eq_true_eq] at hb
    subst hb
    refine mW ?_; clear H; intro a w H
    refine mC H (fun hb => ?_) (fun hb => ?_)
    · refine mW ?_; clear H; intro a w H
      rw [clean0]
      refine wp_ret ?_; exact mEnd [] [] [.tmp 2] [_] hN hR H
    · exact absurd hb (by decide)
  · rw [k0, decide_eq_false_iff_not] at hb
    have hk0 := hb
    clear hb
    refine mW ?_; clear H; intro a w H
    refine mC H (fun hb => ?_) (fun hb => ?_)
    · rw [k2, decide_eq_true_eq] at hb
      subst hb
      refine mW ?_; clear H; intro a w H
      rw [clean2]
      refine wp_ret ?_; exact mEnd [] [] [.tmp 2] [_] hN hR H
    · rw [k2, decide_eq_false_iff_not] at hb
      have hk2 := hb
      clear hb
      refine mW ?_; clear H; intro a w H
      refine mC H (fun hb => ?_) (fun hb => ?_)
      · rw [k1, decide_eq_true_eq] at hb
        subst hb
        refine mW ?_; clear H; intro a w H
        rw [clean1]
        refine wp_ret ?_; exact mEnd [] [] [.tmp 2] [_] hN hR H
      · rw [k1, decide_eq_false_iff_not] at hb
        have hk1 := hb
        clear hb
        refine mW ?_; clear H; intro a w H
        refine mC H (fun hb => ?_) (fun hb => ?_)
        · rw [k3, decide_eq_true_eq] at hb
          subst hb
          refine mW ?_; clear H; intro a w H
          rw [clean3]
          refine wp_ret ?_; exact mEnd [] [] [.tmp 2] [_] hN hR H
        · rw [k3, decide_eq_false_iff_not] at hb
          refine mW ?_; clear H; intro a w H
          have e : Br.clean ⟨k, key, v, g⟩ = false := by
            unfold Br.clean
            rw [if_neg (by simp [hk0, hk2]), if_neg hk1, if_neg hb]
          rw [e]
          refine wp_ret ?_; exact mEnd [] [] [.tmp 2] [_] hN hR H
end Go.Proofs.Ytigmpdhnhkdeiaa
/- A reader of a sketch for keys: multi.place. -/
namespace Go.Proofs.Ytigmpdhnhkdeiaa
open Go Go.RowKit
theorem plM_nil (f : Nat) (top : List UInt8) (d : Nat) (ws : List MW) : plM (f + 1) top d ws [] = ⟨[], ws, z32, false⟩ := rfl
theorem plM_cons (f : Nat) (top : List UInt8) (d : Nat) (ws : List MW) (b : Br) (r : List Br) : plM (f + 1) top d ws (b :: r) =
    if b.clean = false then ⟨b :: r, ws, z32, false⟩
    else if b.k = 0 then ⟨r, ws, sum [0], true⟩
    else if b.k = 3 then ⟨r, ws, b.g, ws.isEmpty⟩
    else if b.k = 1 then ⟨r, ws.map (MW.lf b), leafH b.key b.v, !ws.isEmpty && und d b.key top⟩
    else if ws.isEmpty = true then ⟨r, ws, z32, false⟩
    else if 256 ≤ d then ⟨r, ws, z32, false⟩
    else if (plM f top (d + 1) (ws.take (mpartN d ws)) r).ok = false then ⟨(plM f top (d + 1) (ws.take (mpartN d ws)) r).rest, (plM f top (d + 1) (ws.take (mpartN d ws)) r).ws ++ ws.drop (mpartN d ws), z32, false⟩
      else ⟨(plM f (flipL top d) (d + 1) (ws.drop (mpartN d ws)) (plM f top (d + 1) (ws.take (mpartN d ws)) r).rest).rest,
        (plM f top (d + 1) (ws.take (mpartN d ws)) r).ws.map (MW.aside (plM f (flipL top d) (d + 1) (ws.drop (mpartN d ws)) (plM f top (d + 1) (ws.take (mpartN d ws)) r).rest).dg) ++ (plM f (flipL top d) (d + 1) (ws.drop (mpartN d ws)) (plM f top (d + 1) (ws.take (mpartN d ws)) r).rest).ws.map (MW.aside (plM f top (d + 1) (ws.take (mpartN d ws)) r).dg),
        innerH (plM f top (d + 1) (ws.take (mpartN d ws)) r).dg (plM f (flipL top d) (d + 1) (ws.drop (mpartN d ws)) (plM f top (d + 1) (ws.take (mpartN d ws)) r).rest).dg, (plM f (flipL top d) (d + 1) (ws.drop (mpartN d ws)) (plM f top (d + 1) (ws.take (mpartN d ws)) r).rest).ok⟩ := rfl
theorem mpart_le (d : Nat) (ws : List MW) : mpartN d ws ≤ ws.length := by
  unfold mpartN
  exact (List.takeWhile_sublist _).length_le
theorem len_dec (A W : List MW) : decide ((A.length : Int) < ((A.length + W.length : Nat) : Int)) = !W.isEmpty := by
  cases W with
  | nil => exact decide_eq_false (by simp)
  | cons w W => exact decide_eq_true (by simp only [List.length_cons]; omega)
attribute [local irreducible] wpT
set_option maxRecDepth 20000 in
set_option maxHeartbeats 16000000 in
theorem mplace_v (n : Nat) (hn : n ≤ 64) (ks : List (List UInt8)) (hks : ks.length = n) (hk32 : ∀ k ∈ ks, k.length = 32) : ∀ (f : Nat) (top : List UInt8) (d : Nat) (A W B : List MW) (rest : List Br) (X : List XR), f + d = 257 → d ≤ 256 → top.length = 32 → (∀ b ∈ rest, b.wf) → rest.length ≤ 100000 → (A ++ W ++ B).map (·.key) = ks → (∀ w ∈ A ++ W ++ B, w.wf) → (∀ w ∈ A ++ W ++ B, w.sd.length ≤ 1000) → (∀ w ∈ W, w.sd.length + f ≤ 600) → WyX (A ++ W ++ B) X →
    VY Try.prog 179 (mrdB rest (sum [0]) n (A ++ W ++ B) X) [.ptr 0 [], .sl (.ba 32) (bas ks) none, .v (.int .i64 (A.length : Int)), .v (.int .i64 ((A.length + W.length : Nat) : Int)), .ba top, .v (.int .i64 (d : Int))] X
      (fun X' bx' res => WyX (A ++ (plM f top d W rest).ws ++ B) X' ∧ bx' = mrdB (plM f top d W rest).rest (sum [0]) n (A ++ (plM f top d W rest).ws ++ B) X' ∧ res = .tup [.ba (plM f top d W rest).dg, .v (.bool (plM f top d W rest).ok)]) := by
  intro f
  induction f with
  | zero => intro top d A W B rest X hf hd; omega
  | succ f ih =>
    intro top d A W B rest X hf hd256 ht hrw hrl hkey hwf hfew hfw hW
    have hnl : (A ++ W ++ B).length = n := by rw [← hks, ← hkey, List.length_map]
    have hl0 : (wyE (A ++ W ++ B) X).length = n := by rw [wyE_len hW.len]; exact hnl
    have hbl := bas_len ks
    have hs0 : (sum [0]).length = 32 := sum_length _
    have eo := len_dec A W
    cases rest with
    | nil =>
      have hrb : (brs []).length = 0 := rfl
      rw [plM_nil]
      simp only [z32]
      refine v_enterY Try.func179 rfl (by kernel_rfl) (by show 6 ≤ 151; decide) ?_
      intro L N w0 a w hL hN0 hR0 H
      have hM : N.bx.length ≤ 2 ∧ N.rw.length ≤ 0 := ⟨hN0, hR0⟩
      clear hN0 hR0
      obtain ⟨N1, hB, hZ, H, hN1, hR1⟩ := H.open_
      have hN : N1.bx.length ≤ 2 := Nat.le_of_eq hN1
      have hR : N1.rw.length ≤ 0 := Nat.le_of_eq hR1
      clear hN1 hR1
      have hX := And.intro @hrb (And.intro @ht (@hl0))
      refine mW ?_; clear H; intro a w H
      refine mSk (.v (.bool true)) H ?_; clear H; intro a w H
      refine mW ?_; clear H; intro a w H
      refine mC H (fun hb => ?_) (fun hb => ?_)
      · clear hb
        refine mW ?_; clear H; intro a w H
        refine wp_ret ?_
        exact v_endY (rs := [.cell 12 50, .tmp 13]) (ress := [_, _]) (nb := 2) (nr := 0) [0, 1] tab_ok hM rfl (RelY.close hB hZ H) (by rfl) rfl cbX caX rfl ⟨hW, rfl, rfl⟩
      · exact absurd hb (by decide)
    | cons b rest =>
      have hbw := hrw b List.mem_cons_self
      have hcl := uclean_v b hbw
      have hrw2 : ∀ b ∈ rest, b.wf := fun b h => hrw b (List.mem_cons_of_mem _ h)
      rw [plM_cons]
      obtain ⟨bk, bkey, bv, bg⟩ := b
      obtain ⟨q1, q2, q3⟩ := id hbw
      dsimp only at q1 q2 q3
      simp only [List.length_cons] at hrl
      generalize hbe : brs (⟨bk, bkey, bv, bg⟩ :: rest) = B0
      have hbl0 : B0.length = (brs rest).length + 1 := by rw [← hbe]; simp [brs]
      have hb0 : B0.getD 0 .any = .st [.v (B8 bk), .ba bkey, .ba bv, .ba bg] := by rw [← hbe]; rfl
      have hbs : List.drop 1 B0 = brs rest := by rw [← hbe]; rfl
      have e0 : decide ((((brs rest).length + 1 : Nat) : Int) = 0) = false := decide_eq_false (by omega)
      have k0 : decide ((bk.toNat : Int) = 0) = decide (bk = 0) := kz bk 0 (by decide)
      have k1 : decide ((bk.toNat : Int) = 1) = decide (bk = 1) := kz bk 1 (by decide)
      have k3 : decide ((bk.toNat : Int) = 3) = decide (bk = 3) := kz bk 3 (by decide)
      dsimp only
      simp only [Br.av] at hcl
      simp only [mrdB, hbe]
      refine v_enterY Try.func179 rfl (by kernel_rfl) (by show 6 ≤ 151; decide) ?_
      intro L N w0 a w hL hN0 hR0 H
      have hM : N.bx.length ≤ 2 ∧ N.rw.length ≤ 0 := ⟨hN0, hR0⟩
      clear hN0 hR0
      obtain ⟨N1, hB, hZ, H, hN1, hR1⟩ := H.open_
      have hN : N1.bx.length ≤ 2 := Nat.le_of_eq hN1
      have hR : N1.rw.length ≤ 0 := Nat.le_of_eq hR1
      clear hN1 hR1
      have hX := And.intro @hbl0 (And.intro @hb0 (And.intro @ht (And.intro @q1 (And.intro @q2 (And.intro @q3 (And.intro @hs0 (@hl0)))))))
      refine mW ?_; clear H; intro a w H
      refine mCallG [] [] (hcl) H ?_; clear H; intro a w H; try refine wpList_nil ?_
      simp only [e0] at H
      refine mW ?_; clear H; intro a w H
      refine mC H (fun hb => ?_) (fun hb => ?_)
      · have hc : Br.clean ⟨bk, bkey, bv, bg⟩ = false := by simpa using hb
        rw [if_pos hc]
        dsimp only
        simp only [z32, hbe]
        clear hb
        refine mW ?_; clear H; intro a w H
        refine wp_ret ?_
        exact v_endY (rs := [.cell 12 50, .tmp 13]) (ress := [_, _]) (nb := 2) (nr := 0) [0, 1] tab_ok hM rfl (RelY.close hB hZ H) (by rfl) rfl cbX caX rfl ⟨hW, rfl, rfl⟩
      · have hc : Br.clean ⟨bk, bkey, bv, bg⟩ = true := by simpa using hb
        rw [if_neg (by rw [hc]; decide)]
        clear hb
        refine mW ?_; clear H; intro a w H
        simp only [hbs, eo] at H
        refine mC H (fun hb => ?_) (fun hb => ?_)
        · rw [k0, decide_eq_true_eq] at hb
          rw [if_pos hb]
          dsimp only
          clear hb
          clear hX; have hX := And.intro @ht (And.intro @q1 (And.intro @q2 (And.intro @q3 (And.intro @hs0 (@hl0)))))
          refine mW ?_; clear H; intro a w H
          refine wp_ret ?_
          exact v_endY (rs := [.cell 12 50, .tmp 13]) (ress := [_, _]) (nb := 2) (nr := 0) [0, 1] tab_ok hM rfl (RelY.close hB hZ H) (by rfl) rfl cbX caX rfl ⟨hW, rfl, rfl⟩
        · rw [k0, decide_eq_false_iff_not] at hb
          rw [if_neg hb]
          have n0 := hb
          clear hb
          clear hX; have hX := And.intro @ht (And.intro @q1 (And.intro @q2 (And.intro @q3 (And.intro @hs0 (@hl0)))))
          refine mW ?_; clear H; intro a w H
          refine mC H (fun hb => ?_) (fun hb => ?_)
          · rw [k3, decide_eq_true_eq] at hb
            rw [if_pos hb]
            dsimp only
            clear hb
            refine mW ?_; clear H; intro a w H
            simp only [Bool.not_not] at H
            refine wp_ret ?_
            exact v_endY (rs := [.cell 12 50, .tmp 13]) (ress := [_, _]) (nb := 2) (nr := 0) [0, 1] tab_ok hM rfl (RelY.close hB hZ H) (by rfl) rfl cbX caX rfl ⟨hW, rfl, rfl⟩
          · rw [k3, decide_eq_false_iff_not] at hb
            rw [if_neg hb]
            have n3 := hb
            clear hb
            refine mW ?_; clear H; intro a w H
            refine mC H (fun hb => ?_) (fun hb => ?_)
            · rw [k1, decide_eq_true_eq] at hb
              rw [if_pos hb]
              subst hb
              dsimp only
              have hll := leafH_len bkey bv
              have hlf := leaf_v bkey bv q1 q2
              have hun := under_v bkey top q1 ht (d : Int)
              have eu : decide (0 ≤ (d : Int) ∧ (d : Int) ≤ 256 ∧ (d : Int) ≤ (com bkey top : Int)) = und d bkey top := by
                unfold und; rw [decide_eq_decide]; omega
              rw [eu] at hun
              have hW2 := hW.end_ ⟨1, bkey, bv, bg⟩
              have hl2 : (wyE (A ++ W.map (MW.lf ⟨1, bkey, bv, bg⟩) ++ B) X).length = n := by rw [wyE_len hW2.len, ← hnl]; simp
              have hend := mend_v rest (sum [0]) hs0 n hn ⟨1, bkey, bv, bg⟩ hbw A.length (A.length + W.length) (by omega) (by rw [← hnl]; simp) (fun t => ((A ++ W ++ B).zip X).map (·.2.v) |>.getD t undef) (fun t => ((A ++ W ++ B).map (·.en)).getD t Nd.zero) (fun t => by
                rw [List.getD_eq_getElem?_getD, List.getElem?_map]
                cases hg : (A ++ W ++ B)[t]? with
                | none => exact zero_wf
                | some z => exact (hwf z (List.mem_of_getElem? hg)).en)
              obtain ⟨we1, we2⟩ := wyE_end (A := A) (W := W) (B := B) ⟨1, bkey, bv, bg⟩ hW.len
              rw [hnl] at we1 we2
              dsimp only at we1 we2 hend
              have ed : decide ((1 : UInt8) = 1) = true := rfl
              rw [ed, we1, we2] at hend
              simp only [Br.av] at hend
              clear we1 we2
              clear hX; have hX := And.intro @ht (And.intro @q1 (And.intro @q2 (And.intro @q3 (And.intro @hs0 (And.intro @hl0 (And.intro @hl2 (@hll)))))))
              refine mW ?_; clear H; intro a w H
              refine mCall [0, 1] [] (hend) H ?_; clear H; intro a w H; try refine wpList_nil ?_
              refine mW ?_; clear H; intro a w H
              refine mCall [] [] (hlf) H ?_; clear H; intro a w H; try refine wpList_nil ?_
              refine mW ?_; clear H; intro a w H
              refine mCallG [] [] (hun) H ?_; clear H; intro a w H; try refine wpList_nil ?_
              refine mW ?_; clear H; intro a w H
              have eb : (bif !W.isEmpty then und d bkey top else false) = (!W.isEmpty && und d bkey top) := by cases W.isEmpty <;> rfl
              rw [eb] at H
              refine wp_ret ?_
              exact v_endY (rs := [.cell 12 50, .tmp 13]) (ress := [_, _]) (nb := 2) (nr := 0) [0, 1] tab_ok hM rfl (RelY.close hB hZ H) (by rfl) rfl cbX caX rfl ⟨hW2, rfl, rfl⟩
            · rw [k1, decide_eq_false_iff_not] at hb
              rw [if_neg hb]
              have hk2 : bk = 2 := by
                rcases Br.clean_k hc with h | h | h | h
                · exact absurd h n0
                · exact absurd h hb
                · exact h
                · exact absurd h n3
              clear hb
              subst hk2
              refine mW ?_; clear H; intro a w H
              simp only [Bool.not_not] at H
              refine mC H (fun hb => ?_) (fun hb => ?_)
              · have e : ∀ {α : Type} (u w : α), (if W.isEmpty = true then u else if 256 ≤ d then u else w) = u := fun u w => by
                  cases hwe : W.isEmpty
                  · rw [if_neg (by decide)]
                    rw [hwe] at hb
                    have hb2 : decide (256 ≤ (d : Int)) = true := hb
                    rw [decide_eq_true_eq] at hb2
                    rw [if_pos (by omega)]
                  · rw [if_pos rfl]
                rw [e]
                simp only [z32]
                clear hb
                refine mW ?_; clear H; intro a w H
                refine wp_ret ?_
                exact v_endY (rs := [.cell 12 50, .tmp 13]) (ress := [_, _]) (nb := 2) (nr := 0) [0, 1] tab_ok hM rfl (RelY.close hB hZ H) (by rfl) rfl cbX caX rfl ⟨hW, rfl, rfl⟩
              · have hwe : W.isEmpty = false := by
                  cases hwe : W.isEmpty
                  · rfl
                  · rw [hwe] at hb; cases hb
                have hd : d < 256 := by
                  rw [hwe] at hb
                  have hb2 : decide (256 ≤ (d : Int)) = false := hb
                  rw [decide_eq_false_iff_not] at hb2
                  omega
                clear hb
                rw [if_neg (by rw [hwe]; decide), if_neg (by omega)]
                have hp := mpart_le d W
                have hpart := mparted_v (W.map (·.key)) (fun k hk => by obtain ⟨w, hw, rfl⟩ := List.mem_map.1 hk; exact (hwf w (by simp [hw])).key) (by rw [List.length_map]; have := congrArg List.length hkey; simp at this; omega) d hd
                rw [← mpart_eq] at hpart
                generalize mpartN d W = p at *
                have hA1 : A ++ W.take p ++ (W.drop p ++ B) = A ++ W ++ B := by rw [List.append_assoc, ← List.append_assoc (W.take p), List.take_append_drop, List.append_assoc]
                have hsl : List.drop A.length (List.take (A.length + W.length) (bas ks)) = bas (W.map (·.key)) := by
                  rw [← hkey]
                  simp only [bas, List.map_append, List.append_assoc]
                  rw [List.take_append, List.take_of_length_le (by simp), List.drop_append, List.drop_of_length_le (by simp)]
                  simp
                clear hX; have hX := And.intro @ht (And.intro @q1 (And.intro @q2 (And.intro @q3 (And.intro @hs0 (And.intro @hl0 (@hbl))))))
                refine mW ?_; clear H; intro a w H
                rw [hsl] at H
                refine mCall [] [] (hpart) H ?_; clear H; intro a w H; try refine wpList_nil ?_
                have hlp : (W.take p).length = p := List.length_take_of_le hp
                have x1 := plM_wf (f := f) (top := top) (d := d + 1) hrw2 (ws := W.take p) (fun w hw => hwf w (by have := List.mem_of_mem_take hw; simp [this]))
                have x2 := plM_len (f := f) (top := top) (d := d + 1) (ws := W.take p) (l := rest)
                have x3 := plM_keys (f := f) (top := top) (d := d + 1) (ws := W.take p) (l := rest)
                have x4 := plM_few (m := 599 - f) (f := f) (top := top) (d := d + 1) (ws := W.take p) (l := rest) (fun w hw => by have := hfw w (List.mem_of_mem_take hw); omega)
                have ih1 := ih top (d + 1) A (W.take p) (W.drop p ++ B) rest X (by omega) (by omega) ht hrw2 (by omega) (by rw [hA1]; exact hkey) (by rw [hA1]; exact hwf) (by rw [hA1]; exact hfew) (fun w hw => by have := hfw w (List.mem_of_mem_take hw); omega) (by rw [hA1]; exact hW)
                rw [hA1, hlp, show ((A.length + p : Nat) : Int) = (A.length : Int) + (p : Int) by omega, show ((d + 1 : Nat) : Int) = (d : Int) + 1 by omega] at ih1
                rw [hlp] at x2
                generalize plM f top (d + 1) (W.take p) rest = x at *
                obtain ⟨xr, xw, xh, xo⟩ := x
                obtain ⟨x5, x6, x7, x8⟩ := x1
                dsimp only at x2 x3 x4 x5 x6 x7 x8 ih1 ⊢
                clear hX; have hX := And.intro @ht (And.intro @q1 (And.intro @q2 (And.intro @q3 (And.intro @hs0 (And.intro @hl0 (@x8))))))
                refine mW ?_; clear H; intro a w H
                refine v_callY [0, 1] (ih1) hL hB hZ H (by rintro Y bx' res ⟨_, rfl, rfl⟩; exact ⟨rfl, rfl⟩) ?_
                clear H hB hZ hN hR
                rintro X1 bx' res a w ⟨hWX1, rfl, rfl⟩ H
                replace H := nfY H
                obtain ⟨N1, hB, hZ, H, hN1, hR1⟩ := H.open_
                have hN : N1.bx.length ≤ 5 := Nat.le_of_eq hN1
                have hR : N1.rw.length ≤ 0 := Nat.le_of_eq hR1
                clear hN1 hR1
                have hl1 : (wyE (A ++ xw ++ (W.drop p ++ B)) X1).length = n := by rw [wyE_len hWX1.len, ← hnl, ← hA1]; simp [x2, hp]
                clear hX; have hX := And.intro @ht (And.intro @q1 (And.intro @q2 (And.intro @q3 (And.intro @hs0 (And.intro @hl1 (@x8))))))
                refine mW ?_; clear H; intro a w H
                refine mC H (fun hb => ?_) (fun hb => ?_)
                · have hxo : xo = false := by simpa using hb
                  rw [if_pos hxo]
                  dsimp only
                  simp only [z32]
                  clear hb
                  have ea : A ++ (xw ++ W.drop p) ++ B = A ++ xw ++ (W.drop p ++ B) := by simp only [List.append_assoc]
                  rw [ea]
                  refine mW ?_; clear H; intro a w H
                  refine wp_ret ?_
                  exact v_endY (rs := [.cell 12 50, .tmp 13]) (ress := [_, _]) (nb := 2) (nr := 0) [0, 1] tab_ok hM rfl (RelY.close hB hZ H) (by rfl) rfl cbX caX rfl ⟨hWX1, rfl, rfl⟩
                · have hxo : xo = true := by simpa using hb
                  rw [if_neg (by rw [hxo]; decide)]
                  clear hb
                  replace H := mK [0, 1, 2, 3, 5, 10, 12, 16, 17, 18, 118] 6 0 hN hR H
                  have hfl := flip_v top ht d hd
                  have hfll := flipL_len top d
                  rw [ht] at hfll
                  have hmem : ∀ w ∈ A ++ xw ++ W.drop p ++ B, w.wf ∧ w.sd.length ≤ 1000 := fun w hw => by
                    simp only [List.mem_append] at hw
                    rcases hw with ((hw | hw) | hw) | hw
                    · exact ⟨hwf w (by simp [hw]), hfew w (by simp [hw])⟩
                    · exact ⟨x7 w hw, by have := x4 w hw; omega⟩
                    · have := List.mem_of_mem_drop hw; exact ⟨hwf w (by simp [this]), hfew w (by simp [this])⟩
                    · exact ⟨hwf w (by simp [hw]), hfew w (by simp [hw])⟩
                  have hx5 : ∀ b ∈ xr, b.wf := fun b hb => hrw2 b (x5 b hb)
                  have y1 := plM_wf (f := f) (top := flipL top d) (d := d + 1) (l := xr) hx5 (ws := W.drop p) (fun w hw => hwf w (by have := List.mem_of_mem_drop hw; simp [this]))
                  have y2 := plM_len (f := f) (top := flipL top d) (d := d + 1) (ws := W.drop p) (l := xr)
                  have y3 := plM_keys (f := f) (top := flipL top d) (d := d + 1) (ws := W.drop p) (l := xr)
                  have y4 := plM_few (m := 599 - f) (f := f) (top := flipL top d) (d := d + 1) (ws := W.drop p) (l := xr) (fun w hw => by have := hfw w (List.mem_of_mem_drop hw); omega)
                  have hk2 : (A ++ xw ++ W.drop p ++ B).map (·.key) = ks := by
                    rw [← hkey, ← hA1]; simp only [List.map_append, x3, List.append_assoc]
                  have ih2 := ih (flipL top d) (d + 1) (A ++ xw) (W.drop p) B xr X1 (by omega) (by omega) hfll hx5 (by omega) hk2 (fun w hw => (hmem w hw).1) (fun w hw => (hmem w hw).2) (fun w hw => by have := hfw w (List.mem_of_mem_drop hw); omega) (by rw [List.append_assoc]; exact hWX1)
                  have hdl : (W.drop p).length = W.length - p := List.length_drop
                  rw [List.length_append, x2, hdl, show A.length + p + (W.length - p) = A.length + W.length by omega, show ((A.length + p : Nat) : Int) = (A.length : Int) + (p : Int) by omega, show ((d + 1 : Nat) : Int) = (d : Int) + 1 by omega] at ih2
                  rw [hdl] at y2
                  have hAx : A ++ xw ++ (W.drop p ++ B) = A ++ xw ++ W.drop p ++ B := by simp only [List.append_assoc]
                  rw [hAx] at H hl1
                  generalize flipL top d = tf at *
                  generalize plM f tf (d + 1) (W.drop p) xr = y at *
                  obtain ⟨yr, yw, yh, yo⟩ := y
                  obtain ⟨y5, y6, y7, y8⟩ := y1
                  dsimp only at y2 y3 y4 y5 y6 y7 y8 ih2 ⊢
                  clear hX; have hX := And.intro @ht (And.intro @hs0 (And.intro @hl1 (And.intro @x8 (And.intro @hfll (@y8)))))
                  refine mW ?_; clear H; intro a w H
                  refine mCall [] [] (hfl) H ?_; clear H; intro a w H; try refine wpList_nil ?_
                  refine mW ?_; clear H; intro a w H
                  refine v_callY [0, 1] (ih2) hL hB hZ H (by rintro Y bx' res ⟨_, rfl, rfl⟩; exact ⟨rfl, rfl⟩) ?_
                  clear H hB hZ hN hR
                  rintro X2 bx' res a w ⟨hWX2, rfl, rfl⟩ H
                  replace H := nfY H
                  obtain ⟨N1, hB, hZ, H, hN1, hR1⟩ := H.open_
                  have hN : N1.bx.length ≤ 7 := Nat.le_of_eq hN1
                  have hR : N1.rw.length ≤ 0 := Nat.le_of_eq hR1
                  clear hN1 hR1
                  have hl2 : (wyE (A ++ xw ++ yw ++ B) X2).length = n := by rw [wyE_len hWX2.len, ← hnl]; simp [x2, y2]; omega
                  clear hX; have hX := And.intro @ht (And.intro @hs0 (And.intro @hl2 (And.intro @x8 (And.intro @hfll (@y8)))))
                  refine mW ?_; clear H; intro a w H
                  have hn2 : (A ++ xw ++ yw ++ B).length = n := by rw [← hnl]; simp [x2, y2]; omega
                  have hfw2 : ∀ w ∈ A ++ xw ++ yw ++ B, w.sd.length ≤ 1000 := fun w hw => by
                    simp only [List.mem_append] at hw
                    rcases hw with ((hw | hw) | hw) | hw
                    · exact hfew w (by simp [hw])
                    · have := x4 w hw; omega
                    · have := y4 w hw; omega
                    · exact hfew w (by simp [hw])
                  have a1 := maside_v yr (sum [0]) hs0 yh y8 (A ++ xw ++ yw ++ B) hfw2 n hn2 hn A.length (A.length + p) (Nat.le_add_right _ _) (by rw [← hnl]; simp; omega) X2 hWX2
                  have ea1 : asd yh A.length (A.length + p) (A ++ xw ++ yw ++ B) = A ++ xw.map (MW.aside yh) ++ yw ++ B := by
                    have := asd_mid yh A xw (yw ++ B); rw [x2] at this; simpa only [List.append_assoc] using this
                  rw [ea1, show ((A.length + p : Nat) : Int) = (A.length : Int) + (p : Int) by omega] at a1
                  refine v_callY [0, 1] (a1) hL hB hZ H (by rintro Y bx' res ⟨_, rfl, rfl⟩; exact ⟨rfl, rfl⟩) ?_
                  clear H hB hZ hN hR
                  rintro X3 bx' res a w ⟨hWX3, rfl, rfl⟩ H
                  replace H := nfY H
                  obtain ⟨N1, hB, hZ, H, hN1, hR1⟩ := H.open_
                  have hN : N1.bx.length ≤ 8 := Nat.le_of_eq hN1
                  have hR : N1.rw.length ≤ 0 := Nat.le_of_eq hR1
                  clear hN1 hR1
                  have hn3 : (A ++ xw.map (MW.aside yh) ++ yw ++ B).length = n := by rw [← hn2]; simp
                  have hl3 : (wyE (A ++ xw.map (MW.aside yh) ++ yw ++ B) X3).length = n := by rw [wyE_len hWX3.len]; exact hn3
                  have hfw3 : ∀ w ∈ A ++ xw.map (MW.aside yh) ++ yw ++ B, w.sd.length ≤ 1000 := fun w hw => by
                    simp only [List.mem_append] at hw
                    rcases hw with ((hw | hw) | hw) | hw
                    · exact hfew w (by simp [hw])
                    · obtain ⟨z, hz, rfl⟩ := List.mem_map.1 hw
                      have := x4 z hz
                      show (z.sd ++ [_]).length ≤ _
                      rw [List.length_append, List.length_singleton]; omega
                    · have := y4 w hw; omega
                    · exact hfew w (by simp [hw])
                  have a2 := maside_v yr (sum [0]) hs0 xh x8 (A ++ xw.map (MW.aside yh) ++ yw ++ B) hfw3 n hn3 hn (A.length + p) (A.length + W.length) (by omega) (by rw [← hnl]; simp) X3 hWX3
                  have ea2 : asd xh (A.length + p) (A.length + W.length) (A ++ xw.map (MW.aside yh) ++ yw ++ B) = A ++ (xw.map (MW.aside yh) ++ yw.map (MW.aside xh)) ++ B := by
                    have := asd_mid xh (A ++ xw.map (MW.aside yh)) yw B
                    rw [List.length_append, List.length_map, x2, y2, show A.length + p + (W.length - p) = A.length + W.length by omega] at this
                    rw [this]; simp only [List.append_assoc]
                  rw [ea2, show ((A.length + p : Nat) : Int) = (A.length : Int) + (p : Int) by omega] at a2
                  clear hX; have hX := And.intro @ht (And.intro @hs0 (And.intro @hl3 (And.intro @x8 (And.intro @hfll (@y8)))))
                  refine mW ?_; clear H; intro a w H
                  refine v_callY [0, 1] (a2) hL hB hZ H (by rintro Y bx' res ⟨_, rfl, rfl⟩; exact ⟨rfl, rfl⟩) ?_
                  clear H hB hZ hN hR
                  rintro X4 bx' res a w ⟨hWX4, rfl, rfl⟩ H
                  replace H := nfY H
                  obtain ⟨N1, hB, hZ, H, hN1, hR1⟩ := H.open_
                  have hN : N1.bx.length ≤ 8 := Nat.le_of_eq hN1
                  have hR : N1.rw.length ≤ 0 := Nat.le_of_eq hR1
                  clear hN1 hR1
                  have hl4 : (wyE (A ++ (xw.map (MW.aside yh) ++ yw.map (MW.aside xh)) ++ B) X4).length = n := by rw [wyE_len hWX4.len, ← hn3]; simp
                  have hin := inner_v xh yh x8 y8
                  have hinl := innerH_len xh yh
                  clear hX; have hX := And.intro @ht (And.intro @hs0 (And.intro @hl4 (And.intro @x8 (And.intro @hfll (And.intro @y8 (@hinl))))))
                  refine mW ?_; clear H; intro a w H
                  refine mCall [] [] (hin) H ?_; clear H; intro a w H; try refine wpList_nil ?_
                  refine mW ?_; clear H; intro a w H
                  refine wp_ret ?_
                  exact v_endY (rs := [.cell 12 50, .tmp 13]) (ress := [_, _]) (nb := 2) (nr := 0) [0, 1] tab_ok hM rfl (RelY.close hB hZ H) (by rfl) rfl cbX caX rfl ⟨hWX4, rfl, rfl⟩
end Go.Proofs.Ytigmpdhnhkdeiaa
/- proof.Says, proof.Holds. -/
namespace Go.Proofs.Ytigmpdhnhkdeiaa
open Go Go.RowKit
end Go.Proofs.Ytigmpdhnhkdeiaa
/- What a span says of a key (plain). -/
namespace Go.Proofs.Ytigmpdhnhkdeiaa
open Go Go.RowKit
end Go.Proofs.Ytigmpdhnhkdeiaa
/- What the document tells of a span (plain). -/
namespace Go.Proofs.Ytigmpdhnhkdeiaa
open Go Go.RowKit
theorem rd_num {op : List UInt8 → Nat → Bool} {f : Nat} {p : List UInt8} {d : Nat} {l : List Br} {t : Tr} {r : List Br} (hf : f + d = 257) (h : rdTr op f p d l = some (t, r)) : t.num ≤ l.length ∧ l.drop t.num = r := by
  obtain ⟨_, h2, h3⟩ := rdP_some hf h; exact ⟨h3, h2⟩
theorem rd_rest {op : List UInt8 → Nat → Bool} {f : Nat} {p : List UInt8} {d : Nat} {l : List Br} {t : Tr} {r : List Br} (hf : f + d = 257) (h : rdTr op f p d l = some (t, r)) : r = [] ↔ t.num = l.length := by
  obtain ⟨h1, h2⟩ := rd_num hf h
  rw [← h2, List.drop_eq_nil_iff]; omega
end Go.Proofs.Ytigmpdhnhkdeiaa
/- What has to be open for keys: ref20.Open. -/
namespace Go.Proofs.Ytigmpdhnhkdeiaa
open Go Go.RowKit
theorem und_dec (d : Nat) (hd : d ≤ 256) (k p : List UInt8) : decide (0 ≤ (d : Int) ∧ (d : Int) ≤ 256 ∧ (d : Int) ≤ (com k p : Int)) = und d k p := by
  unfold und; rw [decide_eq_decide]; omega
theorem any_drop {α : Type} (f : α → Bool) (l : List α) (k : Nat) (hk : k < l.length) : (l.drop k).any f = (f l[k] || (l.drop (k + 1)).any f) := by
  rw [List.drop_eq_getElem_cons hk, List.any_cons]
attribute [local irreducible] wpT
set_option maxRecDepth 20000 in
theorem openK_v (ks : List (List UInt8)) (hk32 : ∀ k ∈ ks, k.length = 32) (hl : ks.length ≤ 65536) (fr to p : List UInt8) (h1 : fr.length = 32) (h2 : to.length = 32) (h3 : p.length = 32) (d : Nat) (hd : d ≤ 256) :
    VC Try.prog 174 [askE ks false fr to, .ba p, .v (.int .i64 ((d : Nat) : Int))] [] (.v (.bool (ks.any fun k => und d k p))) := by
  have hbl := bas_len ks
  have h0 : (ks.drop 0).any (fun k => und d k p) = ks.any fun k => und d k p := by rw [List.drop_zero]
  generalize (ks.any fun k => und d k p) = R at *
  refine mE Try.func174 ?_; intro N w0 a w hN hR H
  have hX := And.intro @hbl (And.intro @h1 (And.intro @h2 (@h3)))
  refine mW ?_; clear H; intro a w H
  refine mC H (fun hb => ?_) (fun hb => ?_)
  · exact absurd hb (by decide)
  · clear hb
    refine mW ?_; clear H; intro a w H
    refine v_loop (fun k : Nat => ⟨[(11, none, .v (.int .i64 (k : Int))), (6, none, .v (.bool false)), (4, none, .ptr 1 []), (3, none, .ptr 0 []), (2, none, .v (.int .i64 (d : Int)))], [(ti195.ty, askE ks false fr to), (.ba 32, .ba p)], [], []⟩) (fun k => k ≤ ks.length ∧ (ks.drop k).any (fun k => und d k p) = R) (fun k => ks.length - k) 0 ⟨Nat.zero_le _, h0⟩
      (H.to 2 0 ⟨Nat.le_trans hN (Nat.le_of_ble_eq_true rfl), Nat.le_trans hR (Nat.zero_le _)⟩ ⟨rfl, rfl, rfl, rfl, rfl, trivial⟩ rfl rfl rfl rfl rfl) ?_
    clear H
    intro k a w hk H
    obtain ⟨hk1, hk2⟩ := hk
    refine mW ?_; clear H; intro a w H
    refine mC H (fun hb => ?_) (fun hb => ?_)
    · have hlt : k < ks.length := by rw [decide_eq_true_eq] at hb; omega
      clear hb
      rw [any_drop _ _ _ hlt] at hk2
      have hg := bas_get ks k hlt
      have hq := hk32 _ (List.getElem_mem hlt)
      generalize ks[k] = q at *
      have hun := underR_v q p hq h3 (d : Int)
      rw [und_dec d hd] at hun
      clear hX; have hX := And.intro @hbl (And.intro @h1 (And.intro @h2 (And.intro @h3 (And.intro @hg (@hq)))))
      refine mS ?_; refine mD 2 [7] [] H ?_; clear H; intro gS H
      refine mTN 4 hN H ?_; clear H; intro a w H; simp only [List.drop_succ_cons, List.drop_zero, List.drop_nil]
      refine mT ?_; clear H; intro a w H
      refine mCallT [] [] (hun) H ?_; clear H; intro a w H
      refine mT ?_; clear H; intro a w H
      refine v_drawNil H ?_; clear H; intro H
      refine mC H (fun hb => ?_) (fun hb => ?_)
      · rw [hb, Bool.true_or] at hk2
        subst hk2
        refine mW ?_; clear H; intro a w H
        refine wp_ret ?_; exact mEnd [] [] [.tmp 6] [_] hN hR H
      · rw [hb, Bool.false_or] at hk2
        clear hb
        refine mW ?_; clear H; intro a w H
        rw [show (k : Int) + 1 = ((k + 1 : Nat) : Int) by omega] at H
        exact ⟨k + 1, ⟨hlt, hk2⟩, by omega, H.to 2 0 ⟨Nat.le_trans hN (Nat.le_of_ble_eq_true rfl), Nat.le_trans hR (Nat.zero_le _)⟩ ⟨rfl, rfl, rfl, rfl, rfl, trivial⟩ rfl rfl rfl rfl rfl⟩
    · have hge : ks.length ≤ k := by rw [decide_eq_false_iff_not] at hb; omega
      clear hb
      rw [List.drop_eq_nil_of_le hge] at hk2
      subst hk2
      refine mW ?_; clear H; intro a w H
      refine wp_ret ?_; exact mEnd [] [] [.tmp 6] [_] hN hR H
end Go.Proofs.Ytigmpdhnhkdeiaa
/- The document's places of a sketch for keys: ref20.Places. -/
namespace Go.Proofs.Ytigmpdhnhkdeiaa
open Go Go.RowKit
def opK (ks : List (List UInt8)) (top : List UInt8) (d : Nat) : Bool := ks.any fun k => und d k top
/-- Rising keys. -/
def upK : List (List UInt8) → Bool
  | a :: b :: l => decide (Lib.compareBytes a b < 0) && upK (b :: l)
  | _ => true
theorem upK_drop (ks : List (List UInt8)) (k : Nat) (h : k + 1 < ks.length) : upK (ks.drop k) = (decide (Lib.compareBytes (ks[k]'(by omega)) ks[k + 1] < 0) && upK (ks.drop (k + 1))) := by
  rw [List.drop_eq_getElem_cons (show k < ks.length by omega), List.drop_eq_getElem_cons h]; rfl
theorem upK_end (ks : List (List UInt8)) (k : Nat) (h : ks.length ≤ k + 1) : upK (ks.drop k) = true := by
  match hq : ks.drop k with
  | [] => rfl
  | [a] => rfl
  | a :: b :: l =>
    have := congrArg List.length hq
    rw [List.length_drop] at this
    simp only [List.length_cons] at this
    omega
def muR (ks : List (List UInt8)) (p : List Br) : Option (Tr × List Br) := rdTr (opK ks) 257 (List.replicate 32 0) 0 p
/-- The error of a sketch for keys. -/
def muE (ks : List (List UInt8)) (p : List Br) : Int :=
  if 64 < ks.length ∨ 65536 < p.length then 4 else if upK ks = false then 2 else match muR ks p with
    | some (_, []) => 0
    | _ => 11
def muT (ks : List (List UInt8)) (p : List Br) : Tr := match muR ks p with
  | some (t, _) => t
  | none => .e
def muPl (ks : List (List UInt8)) (p : List Br) : List Pl := if muE ks p = 0 then (muT ks p).pl (List.replicate 32 0) 0 else []
attribute [local irreducible] wpT
set_option maxRecDepth 20000 in
set_option maxHeartbeats 8000000 in
theorem places20_v (ks : List (List UInt8)) (hk32 : ∀ k ∈ ks, k.length = 32) (p : List Br) (hw : ∀ b ∈ p, b.wf) (hl1 : ks.length ≤ 34359730000) (hl2 : p.length ≤ 34359730000) :
    VC Try.prog 25 [.sl (.ba 32) (bas ks) none, .st [.sl brT (brs p) none]] [] (.tup [.sl plT (pls (muPl ks p)) none, .v (.int .i64 (muE ks p))]) := by
  have hkl := bas_len ks
  have hpl := brs_len p
  have hz2 : (List.replicate 32 (0 : UInt8)).length = 32 := List.length_replicate
  obtain ⟨U, hU⟩ : ∃ U, upK ks = U := ⟨_, rfl⟩
  have h0 : upK (ks.drop 0) = U := by rw [List.drop_zero]; exact hU
  unfold muPl
  refine mE Try.func25 ?_; intro N w0 a w hN hR H
  have hX := And.intro @hkl (And.intro @hpl (@hz2))
  refine mW ?_; clear H; intro a w H
  refine mC H (fun hb => ?_) (fun hb => ?_)
  · have e : 64 < ks.length ∨ 65536 < p.length := by
      cases hd : decide ((64 : Int) < (ks.length : Int))
      · rw [hd] at hb
        have : decide ((65536 : Int) < (p.length : Int)) = true := hb
        rw [decide_eq_true_eq] at this; omega
      · rw [decide_eq_true_eq] at hd; omega
    have e4 : muE ks p = 4 := by unfold muE; rw [if_pos e]
    rw [e4, if_neg (by decide)]
    simp only [pls, List.map_nil]
    refine mW ?_; clear H; intro a w H
    refine wp_ret ?_; exact mEnd [] [] [.tmp 4, .tmp 5] [_, _] hN hR H
  · have e : ¬ (64 < ks.length ∨ 65536 < p.length) := by
      cases hd : decide ((64 : Int) < (ks.length : Int))
      · rw [hd] at hb
        have : decide ((65536 : Int) < (p.length : Int)) = false := hb
        rw [decide_eq_false_iff_not] at this hd; omega
      · rw [hd] at hb; cases hb
    clear hb
    refine mS ?_
    replace H := mK [0, 3, 4, 5] 1 0 hN hR H
    refine mW ?_; clear H; intro a w H
    refine v_loop (fun i : Nat => ⟨[(6, none, .v (.int .i64 ((i + 1 : Nat) : Int))), (5, none, .v (.int .i64 0)), (4, none, .v (.slice none 0 0)), (3, none, .ptr 0 []), (0, none, .sl (.ba 32) (bas ks) none)], [(ti44.ty, .st [.sl brT (brs p) none])], [], []⟩) (fun i => (i = 0 ∨ i + 1 ≤ ks.length) ∧ upK (ks.drop i) = U) (fun i => ks.length - i) 0 ⟨.inl rfl, h0⟩
      (H.to 1 0 ⟨Nat.le_trans hN (Nat.le_of_ble_eq_true rfl), Nat.le_trans hR (Nat.zero_le _)⟩ ⟨rfl, rfl, rfl, rfl, rfl, trivial⟩ rfl rfl rfl rfl rfl) ?_
    clear H
    intro i a w hi H
    obtain ⟨hi1, hi2⟩ := hi
    refine mW ?_; clear H; intro a w H
    refine mC H (fun hb => ?_) (fun hb => ?_)
    · have hlt : i + 1 < ks.length := by rw [decide_eq_true_eq] at hb; omega
      clear hb
      have hlt0 : i < ks.length := by omega
      rw [upK_drop ks i hlt] at hi2
      have g1 := bas_get ks i hlt0
      have g2 := bas_get ks (i + 1) hlt
      have q1 := hk32 _ (List.getElem_mem hlt0)
      have q2 := hk32 _ (List.getElem_mem hlt)
      have ei : ((i + 1 : Nat) : Int) - 1 = (i : Int) := by omega
      generalize ks[i] = x at *
      generalize ks[i + 1] = y at *
      have hc := pcmpR_v x y q1 q2
      clear hX; have hX := And.intro @hkl (And.intro @hpl (And.intro @hz2 (And.intro @g1 (And.intro @g2 (And.intro @q1 (And.intro @q2 (@ei)))))))
      refine mS ?_; refine mD 1 [9] [] H ?_; clear H; intro gS H
      refine mTN 3 hN H ?_; clear H; intro a w H; simp only [List.drop_succ_cons, List.drop_zero, List.drop_nil]
      refine mTN 1 hN H ?_; clear H; intro a w H; simp only [List.drop_succ_cons, List.drop_zero, List.drop_nil]
      refine mTN 4 hN H ?_; clear H; intro a w H; simp only [List.drop_succ_cons, List.drop_zero, List.drop_nil]
      refine mT ?_; clear H; intro a w H
      refine mCallT [] [] (hc) H ?_; clear H; intro a w H
      refine mT ?_; clear H; intro a w H
      refine v_drawNil H ?_; clear H; intro H
      refine mC H (fun hb => ?_) (fun hb => ?_)
      · rw [decide_eq_true_eq] at hb
        rw [decide_eq_false (show ¬ Lib.compareBytes x y < 0 by omega), Bool.false_and] at hi2
        subst hi2
        have e4 : muE ks p = 2 := by unfold muE; rw [if_neg e, if_pos hU]
        rw [e4, if_neg (by decide)]
        simp only [pls, List.map_nil]
        refine mW ?_; clear H; intro a w H
        refine wp_ret ?_; exact mEnd [] [] [.tmp 4, .tmp 5] [_, _] hN hR H
      · rw [decide_eq_false_iff_not] at hb
        rw [decide_eq_true (show Lib.compareBytes x y < 0 by omega), Bool.true_and] at hi2
        clear hb
        refine mW ?_; clear H; intro a w H
        rw [show ((i + 1 : Nat) : Int) + 1 = ((i + 1 + 1 : Nat) : Int) by omega] at H
        exact ⟨i + 1, ⟨.inr hlt, hi2⟩, by omega, H.to 1 0 ⟨Nat.le_trans hN (Nat.le_of_ble_eq_true rfl), Nat.le_trans hR (Nat.zero_le _)⟩ ⟨rfl, rfl, rfl, rfl, rfl, trivial⟩ rfl rfl rfl rfl rfl⟩
    · have hge : ks.length ≤ i + 1 := by rw [decide_eq_false_iff_not] at hb; omega
      clear hb
      rw [upK_end ks i hge] at hi2
      subst hi2
      have hrd := read20_v ks false (List.replicate 32 0) (List.replicate 32 0) (opK ks) (fun p d hp hd => openK_v ks hk32 (by omega) _ _ p hz2 hz2 hp d hd) hz2 hz2 257 (List.replicate 32 0) 0 p (by omega) (by omega) Low.zero hw (by omega)
      unfold read20 at hrd
      simp only [askE] at hrd
      cases ht : muR ks p with
      | none =>
        have ht' : rdTr (opK ks) 257 (List.replicate 32 0) 0 p = none := ht
        have e2 := rdP_none (by omega) ht'
        have e4 : muE ks p = 11 := by unfold muE; rw [if_neg e, if_neg (by rw [hU]; decide), ht]
        rw [e4, if_neg (by decide)]
        rw [e2] at hrd
        generalize (rdP (opK ks) 257 p (List.replicate 32 0) 0).1 = L at *
        refine mW ?_; clear H; intro a w H
        refine mCall [] [] (hrd) H ?_; clear H; intro a w H; try refine wpList_nil ?_
        refine mS ?_
        refine mW ?_; clear H; intro a w H
        refine mS ?_; refine mD 1 [] [] H ?_; clear H; intro gS H
        refine mTN 4 hN H ?_; clear H; intro a w H; simp only [List.drop_succ_cons, List.drop_zero, List.drop_nil]
        refine mSkT (.v (.int .i64 0)) H ?_; clear H; intro a w H
        refine mSkT (.v (.int .i64 0)) H ?_; clear H; intro a w H
        refine mSkT (.v (.int .i64 0)) H ?_; clear H; intro a w H
        refine mT ?_; clear H; intro a w H
        refine v_drawNil H ?_; clear H; intro H
        refine mC H (fun hb => ?_) (fun hb => ?_)
        · simp only [pls, List.map_nil]
          refine mW ?_; clear H; intro a w H
          refine wp_ret ?_; exact mEnd [] [] [.tmp 4, .tmp 5] [_, _] hN hR H
        · exact absurd hb (by decide)
      | some Q =>
        obtain ⟨t, r⟩ := Q
        have ht' : rdTr (opK ks) 257 (List.replicate 32 0) 0 p = some (t, r) := ht
        obtain ⟨a1, a2, a3⟩ := rdP_some (by omega) ht'
        have hrr := rd_rest (by omega) ht'
        obtain ⟨t1, t2, t3⟩ := t.pl_top (List.replicate 32 0) 0
        have hLl := t.pl_len (List.replicate 32 0) 0
        have hPl := pls_len (t.pl (List.replicate 32 0) 0)
        have hnp := t.num_pos
        rw [hLl] at hPl
        simp only [Pl.av] at t3
        rw [a1] at hrd
        dsimp only at hrd
        have hmt : muT ks p = t := by unfold muT; rw [ht]
        have hme : muE ks p = if r = [] then 0 else 11 := by
          unfold muE; rw [if_neg e, if_neg (by rw [hU]; decide), ht]
          cases r <;> rfl
        rw [hmt, hme]
        clear ht hmt hme
        generalize t.pl (List.replicate 32 0) 0 = L at *
        refine mW ?_; clear H; intro a w H
        refine mCall [] [] (hrd) H ?_; clear H; intro a w H; try refine wpList_nil ?_
        clear hX; have hX := And.intro @hkl (And.intro @hpl (And.intro @hz2 (And.intro @hPl (@t3))))
        refine mW ?_; clear H; intro a w H
        refine mS ?_
        replace H := mK [0, 3, 4, 5, 7, 8] 1 0 hN hR H
        refine mS ?_; refine mD 1 [] [] H ?_; clear H; intro gS H
        refine mTN 5 hN H ?_; clear H; intro a w H; simp only [List.drop_succ_cons, List.drop_zero, List.drop_nil]
        refine mTN 2 hN H ?_; clear H; intro a w H; simp only [List.drop_succ_cons, List.drop_zero, List.drop_nil]
        refine mT ?_; clear H; intro a w H
        refine v_drawNil H ?_; clear H; intro H
        refine mC H (fun hb => ?_) (fun hb => ?_)
        · have hr : ¬ r = [] := by
            intro hr
            rw [hrr.1 hr] at hb
            simp at hb
          rw [if_neg hr, if_neg (by decide)]
          simp only [pls, List.map_nil]
          refine mW ?_; clear H; intro a w H
          refine wp_ret ?_; exact mEnd [] [] [.tmp 4, .tmp 5] [_, _] hN hR H
        · have hr : r = [] := by
            refine hrr.2 ?_
            have : (!decide ((t.num : Int) = (p.length : Int))) = false := hb
            rw [Bool.not_eq_false', decide_eq_true_eq] at this; omega
          subst hr
          clear hb hrr
          rw [if_pos rfl, if_pos rfl]
          refine mW ?_; clear H; intro a w H
          refine wp_ret ?_; exact mEnd [] [] [.tmp 4, .tmp 5] [_, _] hN hR H
end Go.Proofs.Ytigmpdhnhkdeiaa
/- What a way says of a key: ref20.Said. -/
namespace Go.Proofs.Ytigmpdhnhkdeiaa
open Go Go.RowKit
attribute [local irreducible] wpT
end Go.Proofs.Ytigmpdhnhkdeiaa
/- A key's way in a sketch for keys: ref20.Single. -/
namespace Go.Proofs.Ytigmpdhnhkdeiaa
open Go Go.RowKit
theorem muE_zero {ks : List (List UInt8)} {p : List Br} (hw : ∀ b ∈ p, b.wf) (he : muE ks p = 0) : ks.length ≤ 64 ∧ p.length ≤ 65536 ∧ upK ks = true ∧ ∃ t, muR ks p = some (t, []) ∧ muT ks p = t ∧ muPl ks p = t.pl (List.replicate 32 0) 0 ∧ t.okd 0 ∧ t.num ≤ 65536 ∧ t.dg.length = 32 ∧ ∀ x ∈ t.leaves, x.1.length = 32 ∧ x.2.length = 32 := by
  have he0 := he
  unfold muE at he
  split at he
  · cases he
  · rename_i h1
    split at he
    · cases he
    · rename_i h2
      cases ht : muR ks p with
      | none => rw [ht] at he; cases he
      | some Q =>
        obtain ⟨t, r⟩ := Q
        rw [ht] at he
        cases r with
        | cons b r => cases he
        | nil =>
          have ht' : rdTr (opK ks) 257 (List.replicate 32 0) 0 p = some (t, []) := ht
          obtain ⟨_, p2, p3, p4, _, _⟩ := rd_parts ht' hw
          have hn := (rd_num (by omega) ht').1
          have hmt : muT ks p = t := by unfold muT; rw [ht]
          refine ⟨by omega, by omega, by simpa using h2, t, rfl, hmt, ?_, rd_okd hw ht', by omega, p2, p3⟩
          unfold muPl; rw [if_pos he0, hmt]
attribute [local irreducible] wpT
end Go.Proofs.Ytigmpdhnhkdeiaa
/- ApartBytes of a list that is written out, of slices on their own. -/
namespace Go.Proofs.Ytigmpdhnhkdeiaa
open Go Go.RowKit
section
variable {P : Program} {τ : Tab} {w0 w w1 w2 : World} {N N1 N2 : Gh} {g g1 gS : Gh} {st st' sq sq' : St} {nt : Nat} {a : Act} {lo : Nat} {X Y : List XR}
end
/-- A slice that is none, as one on its own. -/
def xNil (e : Nat) : XR := ⟨none, 0, 0, e, [], 0⟩
end Go.Proofs.Ytigmpdhnhkdeiaa
/- What a reader of a sketch for keys says in the end (plain). -/
namespace Go.Proofs.Ytigmpdhnhkdeiaa
open Go Go.RowKit
def MW.new (k : List UInt8) : MW := ⟨k, [], Nd.zero⟩
def MW.rev (w : MW) : MW := ⟨w.key, w.sd.reverse, w.en⟩
theorem upK_pair : ∀ {ks : List (List UInt8)}, (∀ k ∈ ks, k.length = 32) → upK ks = true → ks.Pairwise ltB
  | [], _, _ => .nil
  | [a], _, _ => by simp
  | a :: b :: l, h, hu => by
    unfold upK at hu
    rw [Bool.and_eq_true, decide_eq_true_eq] at hu
    have hab := (cmp_ltB (h a (by simp)) (h b (by simp))).1 hu.1
    have ih := upK_pair (fun k hk => h k (List.mem_cons_of_mem _ hk)) hu.2
    refine .cons (fun x hx => ?_) ih
    rcases List.mem_cons.1 hx with rfl | hx
    · exact hab
    · exact hab.trans ((List.pairwise_cons.1 ih).1 x hx)
theorem mread_rd {ks : List (List UInt8)} {p : List Br} (hk32 : ∀ k ∈ ks, k.length = 32) (hu : upK ks = true) :
    (∀ t r, muR ks p = some (t, r) → plM 257 (List.replicate 32 0) 0 (ks.map MW.new) p = ⟨r, (ks.map MW.new).map (MW.by t 0), t.dg, true⟩) ∧ (muR ks p = none → (plM 257 (List.replicate 32 0) 0 (ks.map MW.new) p).ok = false) := by
  have hs : MSeg ks (List.replicate 32 0) 0 (ks.map MW.new) := by
    refine ⟨?_, ?_⟩
    · rw [List.map_map, List.filter_eq_self.2 (fun k _ => by unfold und; exact decide_eq_true (Nat.zero_le _))]
      exact List.map_id _
    · rw [List.pairwise_map]; exact upK_pair hk32 hu
  exact plM_rd (op := opK ks) (fun _ _ _ => rfl) (by omega) Low.zero hs
theorem by_rev (t : Tr) (ks : List (List UInt8)) : ((ks.map MW.new).map (MW.by t 0)).map MW.rev = ks.map fun k => ⟨k, t.way k 0, t.fin k 0 Nd.zero⟩ := by
  rw [List.map_map, List.map_map]
  refine List.map_congr_left fun k _ => ?_
  simp [MW.rev, MW.by, MW.new]
/-- The first ways turned. -/
def rvd (k : Nat) (ws : List MW) : List MW := ws.mapIdx fun i w => if i < k then w.rev else w
theorem rvd_len (k : Nat) (ws : List MW) : (rvd k ws).length = ws.length := by simp [rvd]
theorem rvd_get (k : Nat) (ws : List MW) (i : Nat) (h1 : i < (rvd k ws).length) (h2 : i < ws.length) : (rvd k ws)[i] = if i < k then ws[i].rev else ws[i] := List.getElem_mapIdx
theorem rvd_zero (ws : List MW) : rvd 0 ws = ws := by
  apply List.ext_getElem (rvd_len _ _)
  intro i h1 h2
  rw [rvd_get _ _ _ _ h2, if_neg (by omega)]
theorem rvd_at (k : Nat) (ws : List MW) (hk : k < ws.length) (hk2 : k < (rvd k ws).length) : (rvd k ws)[k] = ws[k] := by
  rw [rvd_get _ _ _ _ hk, if_neg (by omega)]
theorem rvd_step (k : Nat) (ws : List MW) (hk : k < ws.length) : (rvd k ws).set k ws[k].rev = rvd (k + 1) ws := by
  apply List.ext_getElem (by rw [List.length_set, rvd_len, rvd_len])
  intro i h1 h2
  have hi : i < ws.length := by rw [rvd_len] at h2; exact h2
  rw [List.getElem_set, rvd_get _ _ _ _ hi, rvd_get _ _ _ _ hi]
  by_cases e : k = i
  · subst e; rw [if_pos rfl, if_pos (by omega)]
  · rw [if_neg e]
    by_cases hh : i < k
    · rw [if_pos hh, if_pos (by omega)]
    · rw [if_neg hh, if_neg (by omega)]
theorem rvd_end (ws : List MW) : rvd ws.length ws = ws.map MW.rev := by
  apply List.ext_getElem (by rw [rvd_len, List.length_map])
  intro i h1 h2
  have hi : i < ws.length := by rw [rvd_len] at h1; exact h1
  rw [rvd_get _ _ _ _ hi, if_pos hi, List.getElem_map]
def wyA (w : MW) : AV := (⟨w.sd, w.en⟩ : Pf).av
/-- The ways' box is seen. -/
theorem wy_see {ws : List MW} {X : List XR} (h : WyX ws X) {ws0 : List MW} {X0 : List XR} (hv : X0.map (·.v) = X.map (·.v)) (he : ws0.map (·.en) = ws.map (·.en)) :
    (wyE ws0 X0).length = (ws.map wyA).length ∧ ∀ k (h1 : k < (wyE ws0 X0).length) (h2 : k < (ws.map wyA).length), SeeH X (wyE ws0 X0)[k] (ws.map wyA)[k] := by
  have l1 : X0.length = X.length := by have := congrArg List.length hv; simpa using this
  have l2 : ws0.length = ws.length := by have := congrArg List.length he; simpa using this
  refine ⟨by rw [wyE_len (by rw [l1, l2]; exact h.len), List.length_map, l2], fun k h1 h2 => ?_⟩
  rw [List.length_map] at h2
  have hk : k < X.length := by rw [h.len]; exact h2
  rw [wyE_elem k h1 (by omega) (by omega), List.getElem_map]
  have e1 : X0[k].v = X[k].v := by
    have := List.getElem_of_eq hv (i := k) (by rw [List.length_map, l1]; exact hk)
    simpa using this
  have e2 : ws0[k].en = ws[k].en := by
    have := List.getElem_of_eq he (i := k) (by rw [List.length_map, l2]; exact h2)
    simpa using this
  rw [e1, e2]
  refine .st rfl fun i i1 i2 => ?_
  match i, i1 with
  | 0, _ => exact .own X[k] _ _ _ (List.getElem_mem hk) (h.at_ k h2 hk)
  | 1, _ => exact .refl _
theorem rvd_en (k : Nat) (ws : List MW) : ws.map (·.en) = (rvd k ws).map (·.en) := by
  apply List.ext_getElem (by simp [rvd_len])
  intro i h1 h2
  have hi : i < ws.length := by simpa using h1
  rw [List.getElem_map, List.getElem_map, rvd_get _ _ _ _ hi]
  split <;> rfl
/-- What a reader for keys reads: the digest at the top, the ways. -/
def muD (ks : List (List UInt8)) (p : List Br) : List UInt8 := if muE ks p = 0 then (muT ks p).dg else List.replicate 32 0
def muWs (ks : List (List UInt8)) (p : List Br) : List MW := if muE ks p = 0 then ks.map fun k => ⟨k, (muT ks p).way k 0, (muT ks p).fin k 0 Nd.zero⟩ else []
/-- New ways: nil slices. -/
theorem new_E (ks : List (List UInt8)) : WyX (ks.map MW.new) (List.replicate ks.length (xNil 50)) ∧ wyE (ks.map MW.new) (List.replicate ks.length (xNil 50)) = List.replicate ks.length (.st [.v (.slice none 0 0), Nd.zero.av]) := by
  have hx : XH (xNil 50) 50 (.ba 32) (bas []) := ⟨rfl, rfl, rfl, by decide, fun _ => [], [], rfl, by decide, fun u hu => absurd hu (by simp), fun g k h => absurd h (Nat.not_lt_zero _)⟩
  refine ⟨⟨by simp, fun k h1 h2 => ?_⟩, ?_⟩
  · rw [List.getElem_replicate, List.getElem_map]; exact hx
  · apply List.ext_getElem (by rw [wyE_len (by simp)]; simp)
    intro i h1 h2
    have hi : i < ks.length := by simpa using h2
    rw [wyE_elem i h1 (by simpa using hi) (by simpa using hi), List.getElem_replicate, List.getElem_replicate, List.getElem_map]
    rfl
theorem RelY.nils {P : Program} {w0 w : World} {N : Gh} {nt : Nat} {st : St} {a : Act} (H : Rel P w0 N nt st a w) (n e : Nat) : RelY (fun b => w0.heap.size ≤ b) P w0 N nt st (List.replicate n (xNil e)) a w := by
  obtain ⟨g, HI, hF⟩ := H
  refine ⟨g, HI.self, .of HI.fr _, hF, ⟨fun x hx => ?_, ?_⟩⟩
  · obtain rfl := List.eq_of_mem_replicate hx
    exact ⟨⟨Nat.le_refl _, Nat.zero_le _⟩, fun _ => rfl, fun b hb => by cases hb⟩
  · unfold XApart
    rw [List.pairwise_replicate]
    exact .inr (.inl rfl)
end Go.Proofs.Ytigmpdhnhkdeiaa
/- A reader of a sketch for keys: multi.read. -/
namespace Go.Proofs.Ytigmpdhnhkdeiaa
open Go Go.RowKit
attribute [local irreducible] wpT
set_option maxRecDepth 20000 in
set_option maxHeartbeats 16000000 in
theorem mread_v (ks : List (List UInt8)) (hk32 : ∀ k ∈ ks, k.length = 32) (p : List Br) (hw : ∀ b ∈ p, b.wf) (hl1 : ks.length ≤ 34359730000) (hl2 : p.length ≤ 34359730000) :
    VC Try.prog 112 [.sl (.ba 32) (bas ks) none, .st [.sl brT (brs p) none]] [] (.tup [.ba (muD ks p), .sl pfT0 ((muWs ks p).map wyA) none, .v (.int .i64 (muE ks p))]) := by
  have hkl := bas_len ks
  have hpl := brs_len p
  have hz2 : (List.replicate 32 (0 : UInt8)).length = 32 := List.length_replicate
  obtain ⟨U, hU⟩ : ∃ U, upK ks = U := ⟨_, rfl⟩
  have h0 : upK (ks.drop 0) = U := by rw [List.drop_zero]; exact hU
  unfold muD muWs
  refine mE Try.func112 ?_; intro N w0 a w hN hR H
  have hX := And.intro @hkl (And.intro @hpl (@hz2))
  refine mW ?_; clear H; intro a w H
  refine mC H (fun hb => ?_) (fun hb => ?_)
  · have e : 64 < ks.length ∨ 65536 < p.length := by
      cases hd : decide ((64 : Int) < (ks.length : Int))
      · rw [hd] at hb
        have : decide ((65536 : Int) < (p.length : Int)) = true := hb
        rw [decide_eq_true_eq] at this; omega
      · rw [decide_eq_true_eq] at hd; omega
    have e4 : muE ks p = 4 := by unfold muE; rw [if_pos e]
    rw [e4, if_neg (by decide), if_neg (by decide)]
    simp only [List.map_nil]
    clear hb
    refine mW ?_; clear H; intro a w H
    refine wp_ret ?_
    exact v_end [] [] tab_ok ⟨hN, hR⟩ (rs := [.cell 4 50, .tmp 5, .tmp 6]) (ress := [_, _, _]) rfl H (by rfl) (by rfl) trivial rfl ⟨sub_refl _ _, (show sub 4 (AV.v (.slice none 0 0)) (AV.sl pfT0 [] none) from by unfold sub; rfl), sub_refl _ _, trivial⟩ rfl
  · have e : ¬ (64 < ks.length ∨ 65536 < p.length) := by
      cases hd : decide ((64 : Int) < (ks.length : Int))
      · rw [hd] at hb
        have : decide ((65536 : Int) < (p.length : Int)) = false := hb
        rw [decide_eq_false_iff_not] at this hd; omega
      · rw [hd] at hb; cases hb
    clear hb
    refine mS ?_
    replace H := v_ref H 3 0 (Nat.le_trans hN (Nat.le_of_ble_eq_true rfl)) rfl rfl rfl
    simp only [nilT, strip, List.map_cons, List.map_nil, reduceIte, Nat.reduceEqDiff] at H
    replace H := mK [0, 3, 4, 5, 6] 2 0 hN hR H
    refine mW ?_; clear H; intro a w H
    refine v_loop (fun i : Nat => ⟨[(7, none, .v (.int .i64 ((i + 1 : Nat) : Int))), (6, none, .v (.int .i64 0)), (5, none, .v (.slice none 0 0)), (4, none, .ptr 1 []), (3, none, .ref ti44.ty (.st [.sl brT (brs p) none])), (0, none, .sl (.ba 32) (bas ks) none)], [(ti44.ty, .st [.sl brT (brs p) none]), (.ba 32, .ba (List.replicate 32 0))], [0], []⟩) (fun i => (i = 0 ∨ i + 1 ≤ ks.length) ∧ upK (ks.drop i) = U) (fun i => ks.length - i) 0 ⟨.inl rfl, h0⟩
      (H.to 2 0 ⟨Nat.le_trans hN (Nat.le_of_ble_eq_true rfl), Nat.le_trans hR (Nat.zero_le _)⟩ ⟨rfl, rfl, rfl, rfl, rfl, rfl, trivial⟩ rfl rfl rfl rfl rfl) ?_
    clear H
    intro i a w hi H
    obtain ⟨hi1, hi2⟩ := hi
    refine mW ?_; clear H; intro a w H
    refine mC H (fun hb => ?_) (fun hb => ?_)
    · have hlt : i + 1 < ks.length := by rw [decide_eq_true_eq] at hb; omega
      clear hb
      have hlt0 : i < ks.length := by omega
      rw [upK_drop ks i hlt] at hi2
      have g1 := bas_get ks i hlt0
      have g2 := bas_get ks (i + 1) hlt
      have q1 := hk32 _ (List.getElem_mem hlt0)
      have q2 := hk32 _ (List.getElem_mem hlt)
      have ei : ((i + 1 : Nat) : Int) - 1 = (i : Int) := by omega
      generalize ks[i] = x at *
      generalize ks[i + 1] = y at *
      have hc := pcmp_v x y q1 q2
      clear hX; have hX := And.intro @hkl (And.intro @hpl (And.intro @hz2 (And.intro @g1 (And.intro @g2 (And.intro @q1 (And.intro @q2 (@ei)))))))
      refine mS ?_; refine mD 2 [9] [] H ?_; clear H; intro gS H
      refine mTN 3 hN H ?_; clear H; intro a w H; simp only [List.drop_succ_cons, List.drop_zero, List.drop_nil]
      refine mTN 1 hN H ?_; clear H; intro a w H; simp only [List.drop_succ_cons, List.drop_zero, List.drop_nil]
      refine mTN 4 hN H ?_; clear H; intro a w H; simp only [List.drop_succ_cons, List.drop_zero, List.drop_nil]
      refine mT ?_; clear H; intro a w H
      refine mCallT [] [] (hc) H ?_; clear H; intro a w H
      refine mT ?_; clear H; intro a w H
      refine v_drawNil H ?_; clear H; intro H
      refine mC H (fun hb => ?_) (fun hb => ?_)
      · rw [decide_eq_true_eq] at hb
        rw [decide_eq_false (show ¬ Lib.compareBytes x y < 0 by omega), Bool.false_and] at hi2
        subst hi2
        have e4 : muE ks p = 2 := by unfold muE; rw [if_neg e, if_pos hU]
        rw [e4, if_neg (by decide), if_neg (by decide)]
        simp only [List.map_nil]
        clear hb
        refine mW ?_; clear H; intro a w H
        refine wp_ret ?_
        exact v_end [] [] tab_ok ⟨hN, hR⟩ (rs := [.cell 4 50, .tmp 5, .tmp 6]) (ress := [_, _, _]) rfl H (by rfl) (by rfl) trivial rfl ⟨sub_refl _ _, (show sub 4 (AV.v (.slice none 0 0)) (AV.sl pfT0 [] none) from by unfold sub; rfl), sub_refl _ _, trivial⟩ rfl
      · rw [decide_eq_false_iff_not] at hb
        rw [decide_eq_true (show Lib.compareBytes x y < 0 by omega), Bool.true_and] at hi2
        clear hb
        refine mW ?_; clear H; intro a w H
        rw [show ((i + 1 : Nat) : Int) + 1 = ((i + 1 + 1 : Nat) : Int) by omega] at H
        exact ⟨i + 1, ⟨.inr hlt, hi2⟩, by omega, H.to 2 0 ⟨Nat.le_trans hN (Nat.le_of_ble_eq_true rfl), Nat.le_trans hR (Nat.zero_le _)⟩ ⟨rfl, rfl, rfl, rfl, rfl, rfl, trivial⟩ rfl rfl rfl rfl rfl⟩
    · have hge : ks.length ≤ i + 1 := by rw [decide_eq_false_iff_not] at hb; omega
      clear hb
      rw [upK_end ks i hge] at hi2
      subst hi2
      have hem := empty_v
      have hs0 : (sum [0]).length = 32 := sum_length _
      clear hX; have hX := And.intro @hkl (And.intro @hpl (And.intro @hz2 (@hs0)))
      refine mW ?_; clear H; intro a w H
      refine mS ?_
      revert a w
      apply cutG9 (R := fun a w => Rel Try.prog w0 N Try.f112.ntmps ⟨[(8, none, .ptr 3 []), (6, none, .v (.int .i64 0)), (5, none, .v (.slice none 0 0)), (4, none, .ptr 1 []), (0, none, .sl (.ba 32) (bas ks) none)], [(ti44.ty, .st [.sl brT (brs p) none]), (.ba 32, .ba (List.replicate 32 0)), (.vc 68 pfT0, .vc 0 (List.replicate ks.length (.st [.v (.slice none 0 0), .st [.v (.int .u8 0), .ba (List.replicate 32 0), .ba (List.replicate 32 0), .ba (List.replicate 32 0), .ba (List.replicate 32 0)]]))), (mrdT, .st [.sl brT (brs p) none, .ba (sum [0]), .vw 2 0 ks.length])], [0], []⟩ a w)
      · intro key1 a w H
        repeat (first | refine wp_seq ?_ | refine wp_block ?_)
        refine v_drawZ 0 [0, 1, 3, 4, 2, 5, 6, 7, 8] [2, 5, 7] [0, 1, 3, 4] [(2, 5)] (by kernel_rfl) (by kernel_rfl) (by kernel_rfl) (by kernel_rfl) (by kernel_rfl) H (by rfl) ?_; clear H; intro gS H; try replace H := ntf H
        repeat' ((first | refine wpZ_q1 rfl rfl ?_ | refine wpZ_l1 rfl rfl rfl ?_ | refine wpZ_l2 rfl rfl rfl rfl rfl ?_ ?_ | refine wpZ_l3 rfl rfl rfl rfl rfl rfl rfl ?_ ?_ ?_ | refine wpZ_l4 rfl rfl rfl rfl rfl rfl rfl rfl rfl ?_ ?_ ?_ ?_) <;> ((first | (refine wpT_at 2 ?_; refine mCallT [] [] (hem) H ?_; clear H; intro a w H) | (refine v_someT 1 tab_ok hN H rfl ctX ?_; clear H; intro a w H; replace H := ntf H; simp only [List.drop_succ_cons, List.drop_zero, List.drop_nil])); refine wpT_nil ?_; try dsimp only))
        all_goals (refine wpZ_nil ?_; replace H := RelT.toRel H)
        all_goals
          exact key1 _ _ (H.to 4 0 ⟨Nat.le_trans hN (Nat.le_of_ble_eq_true rfl), Nat.le_trans hR (Nat.zero_le _)⟩ ⟨rfl, rfl, rfl, rfl, rfl, trivial⟩ rfl rfl rfl rfl rfl)
      intro a w H
      have hnE : List.replicate ks.length (AV.st [.v (.slice none 0 0), .st [.v (.int .u8 0), .ba (List.replicate 32 0), .ba (List.replicate 32 0), .ba (List.replicate 32 0), .ba (List.replicate 32 0)]]) = wyE (ks.map MW.new) (List.replicate ks.length (xNil 50)) := (new_E ks).2.symm
      rw [hnE] at H
      have hM : N.bx.length ≤ 0 ∧ N.rw.length ≤ 0 := ⟨hN, hR⟩
      have hL : ∀ b, w0.heap.size ≤ b → (fun b => w0.heap.size ≤ b) b := fun b h => h
      have hnew : (ks.map MW.new).map (·.key) = ks := by rw [List.map_map]; exact List.map_id _
      have hcall := mplace_v ks.length (by omega) ks rfl hk32 257 (List.replicate 32 0) 0 [] (ks.map MW.new) [] p (List.replicate ks.length (xNil 50)) (by omega) (by omega) hz2 hw (by omega) (by rw [List.nil_append, List.append_nil]; exact hnew)
        (fun w hw => by rw [List.nil_append, List.append_nil] at hw; obtain ⟨k, hk, rfl⟩ := List.mem_map.1 hw; exact ⟨hk32 k hk, fun g hg => (by cases hg), zero_wf⟩)
        (fun w hw => by rw [List.nil_append, List.append_nil] at hw; obtain ⟨k, hk, rfl⟩ := List.mem_map.1 hw; exact Nat.zero_le _)
        (fun w hw => by obtain ⟨k, hk, rfl⟩ := List.mem_map.1 hw; exact Nat.le_of_ble_eq_true rfl) (by rw [List.nil_append, List.append_nil]; exact (new_E ks).1)
      simp only [List.nil_append, List.append_nil, List.length_nil, Nat.zero_add, List.length_map] at hcall
      rw [show ((0 : Nat) : Int) = 0 from rfl] at hcall
      obtain ⟨m1, m2⟩ := mread_rd (p := p) hk32 hU
      have m3 := plM_len (f := 257) (top := List.replicate 32 0) (d := 0) (ws := ks.map MW.new) (l := p)
      have m4 := plM_wf (f := 257) (top := List.replicate 32 0) (d := 0) (ws := ks.map MW.new) hw (fun w hw => by obtain ⟨k, hk, rfl⟩ := List.mem_map.1 hw; exact ⟨hk32 k hk, fun g hg => (by cases hg), zero_wf⟩)
      have m5 := plM_few (m := 0) (f := 257) (top := List.replicate 32 0) (d := 0) (ws := ks.map MW.new) (l := p) (fun w hw => by obtain ⟨k, hk, rfl⟩ := List.mem_map.1 hw; exact Nat.le_refl _)
      rw [List.length_map] at m3
      generalize plM 257 (List.replicate 32 0) 0 (ks.map MW.new) p = x at *
      obtain ⟨xr, xw, xh, xo⟩ := x
      obtain ⟨x5, x6, x7, x8⟩ := m4
      dsimp only at m3 m5 x5 x6 x7 x8 hcall
      have H := RelY.nils H ks.length 50
      obtain ⟨N1, hB, hZ, H, hN1, hR1⟩ := H.open_
      clear hN hR
      have hN : N1.bx.length ≤ 4 := Nat.le_of_eq hN1
      have hR : N1.rw.length ≤ 0 := Nat.le_of_eq hR1
      clear hN1 hR1
      have hlE : (wyE (ks.map MW.new) (List.replicate ks.length (xNil 50))).length = ks.length := by rw [wyE_len (by simp), List.length_map]
      clear hX; have hX := And.intro @hkl (And.intro @hpl (And.intro @hz2 (And.intro @hs0 (And.intro @hlE (@x8)))))
      refine mW ?_; clear H; intro a w H
      refine v_callY [3, 2] hcall hL hB hZ H (by rintro Y bx' res ⟨_, rfl, rfl⟩; exact ⟨rfl, rfl⟩) ?_
      clear H hB hZ hN hR
      rintro X0 bx' res a w ⟨hW0, rfl, rfl⟩ H
      replace H := nfY H
      obtain ⟨N1, hB, hZ, H, hN1, hR1⟩ := H.open_
      have hN : N1.bx.length ≤ 4 := Nat.le_of_eq hN1
      have hR : N1.rw.length ≤ 0 := Nat.le_of_eq hR1
      clear hN1 hR1
      have hlE : (wyE xw X0).length = ks.length := by rw [wyE_len hW0.len]; exact m3
      have hrl := brs_len xr
      clear hX; have hX := And.intro @hkl (And.intro @hpl (And.intro @hz2 (And.intro @hs0 (And.intro @hlE (And.intro @x8 (@hrl))))))
      refine mW ?_; clear H; intro a w H
      refine mC H (fun hb => ?_) (fun hb => ?_)
      · have e4 : muE ks p = 11 := by
          unfold muE
          rw [if_neg e, if_neg (by rw [hU]; decide)]
          cases hmu : muR ks p with
          | none => rfl
          | some Q =>
            obtain ⟨t, r⟩ := Q
            cases r with
            | cons b r => rfl
            | nil =>
              have := m1 t [] hmu
              simp only [MRd.mk.injEq] at this
              obtain ⟨h1, _, _, h2⟩ := this
              rw [h1, h2] at hb
              cases hb
        rw [e4, if_neg (by decide), if_neg (by decide)]
        simp only [List.map_nil]
        clear hb
        replace H := v_pubY (RelY.close hB hZ H) (fun b h => h) 2 rfl rfl (fun k _ _ => .refl _)
        replace H := nf H
        clear hN
        have hN : N.bx.length ≤ 5 := Nat.le_trans hM.1 (Nat.zero_le _)
        refine mW ?_; clear H; intro a w H
        refine wp_ret ?_
        exact v_end [] [] tab_ok ⟨hM.1, hM.2⟩ (rs := [.cell 4 50, .tmp 5, .tmp 6]) (ress := [_, _, _]) rfl H (by rfl) (by rfl) trivial rfl ⟨sub_refl _ _, (show sub 4 (AV.v (.slice none 0 0)) (AV.sl pfT0 [] none) from by unfold sub; rfl), sub_refl _ _, trivial⟩ rfl
      · obtain ⟨t, hmu⟩ : ∃ t, muR ks p = some (t, []) := by
          cases hmu : muR ks p with
          | none =>
            have h9 : xo = false := m2 hmu
            rw [h9] at hb; cases hb
          | some Q =>
            obtain ⟨t, r⟩ := Q
            have := m1 t r hmu
            simp only [MRd.mk.injEq] at this
            obtain ⟨h1, _, _, h2⟩ := this
            rw [h1, h2] at hb
            have hb2 : decide (0 < (r.length : Int)) = false := hb
            rw [decide_eq_false_iff_not] at hb2
            exact ⟨t, by rw [List.length_eq_zero_iff.1 (show r.length = 0 by omega)]⟩
        clear hb
        have e4 : muE ks p = 0 := by unfold muE; rw [if_neg e, if_neg (by rw [hU]; decide), hmu]
        have et : muT ks p = t := by unfold muT; rw [hmu]
        rw [e4, if_pos rfl, if_pos rfl, et]
        have hmk := m1 t [] hmu
        simp only [MRd.mk.injEq] at hmk
        obtain ⟨h1, h2, h3, h4⟩ := hmk
        subst h1 h3 h4
        have hby := by_rev t ks
        rw [← h2] at hby
        rw [← hby, List.map_map]
        clear m1 m2 h2 hby
        refine mW ?_; clear H; intro a w H
        refine v_loopI (fun k a w => ∃ X : List XR, WyX (rvd k xw) X ∧ X0.map (·.v) = X.map (·.v) ∧ RelY (fun b => w0.heap.size ≤ b) Try.prog w0 N Try.f112.ntmps ⟨[(73, none, .v (.int .i64 ((k : Nat) : Int))), (72, none, .v (.int .i64 (ks.length : Int))), (9, none, .ptr 4 []), (8, none, .ptr 3 []), (4, none, .ptr 1 [])],
          [(ti44.ty, .st [.sl brT (brs p) none]), (.ba 32, .ba (List.replicate 32 0)), (.vc 68 pfT0, .vc 0 (wyE xw X0)), (mrdT, .st [.sl brT (brs []) none, .ba (sum [0]), .vw 2 0 ks.length]), (.ba 32, .ba t.dg)], [0], []⟩ X a w) (fun k => k ≤ ks.length) (fun k => ks.length - k) 0 (Nat.zero_le _)
          ⟨X0, by rw [rvd_zero]; exact hW0, rfl, RelY.close hB hZ (H.to 5 0 ⟨Nat.le_trans hN (Nat.le_of_ble_eq_true rfl), hR⟩ ⟨rfl, rfl, rfl, rfl, rfl, trivial⟩ rfl rfl rfl rfl rfl)⟩ ?_
        clear H hB hZ hN hR
        rintro k a w1 hk ⟨X, hW, hv, HY⟩
        obtain ⟨N1, hB, hZ, H, hN1, hR1⟩ := HY.open_
        clear HY
        have hN : N1.bx.length ≤ 5 := Nat.le_of_eq hN1
        have hR : N1.rw.length ≤ 0 := Nat.le_of_eq hR1
        clear hN1 hR1
        clear hX; have hX := And.intro @hkl (And.intro @hpl (And.intro @hz2 (And.intro @hs0 (And.intro @hlE (@x8)))))
        refine mW ?_; clear H; intro a w H
        refine mC H (fun hb => ?_) (fun hb => ?_)
        · have hlt : k < ks.length := by rw [decide_eq_true_eq] at hb; omega
          clear hb
          have hkw : k < xw.length := by omega
          have hXl := hW.len
          rw [rvd_len] at hXl
          have hX0l : X0.length = xw.length := hW0.len
          obtain ⟨X1, y, X2, rfl, rfl⟩ := split_ex X k (by omega)
          have hka : X1.length < (rvd X1.length xw).length := by rw [rvd_len]; exact hkw
          have hx0 := hW.atS hka
          rw [rvd_at X1.length xw hkw] at hx0
          have hg := wyE_get (ws := xw) (X := X0) X1.length hkw (by omega)
          have hyv : (X0[X1.length]'(by omega)).v = y.v := by
            have := List.getElem_of_eq hv (i := X1.length) (by rw [List.length_map]; omega)
            simpa using this
          rw [hyv] at hg
          have hst := rvd_step X1.length xw hkw
          have hsd := x7 _ (List.getElem_mem hkw)
          have hfew := m5 _ (List.getElem_mem hkw)
          generalize xw[X1.length] = v at *
          have hrev := revV_v v.sd 0 (by omega) hsd.sd
          have hsl := bas_len v.sd
          have hle := (RelY.close hB hZ H).le
          clear hX; have hX := And.intro @hkl (And.intro @hpl (And.intro @hz2 (And.intro @hs0 (And.intro @hlE (And.intro @x8 (And.intro @hg (@hsl)))))))
          refine mW ?_; clear H; intro a w H
          obtain ⟨g9, hL9, hb9, hr9, H⟩ := v_lend (RelY.close hB hZ H) hx0 83 rfl
          simp only [nilT, reduceIte, Nat.reduceEqDiff] at H
          replace H := nf H
          clear hN
          have hN : (g9.push (y.box 50 (.ba 32))).bx.length ≤ 6 := by simp [Gh.push, hb9]
          refine mCall [5] [] (hrev) H ?_; clear H; intro a w H; try refine wpList_nil ?_
          obtain ⟨y', hy', hyv', H⟩ := v_giveS (bx := [(ti44.ty, _), (.ba 32, _), (.vc 68 pfT0, _), (mrdT, _), (.ba 32, _)]) (e := 50) (T := .ba 32) hL hL9 hb9 H (by rw [hx0.n]; simp [bas]) hle [4, 8, 9, 72, 73] rfl (by simp [bas, flat]) rfl rfl
          replace H := nfY H
          clear hB hZ hN hR
          obtain ⟨N1, hB, hZ, H, hN1, hR1⟩ := H.open_
          have hN : N1.bx.length ≤ 5 := Nat.le_of_eq hN1
          have hR : N1.rw.length ≤ 0 := Nat.le_of_eq hR1
          clear hN1 hR1
          have hW2 : WyX (rvd (X1.length + 1) xw) (X1 ++ y' :: X2) := by rw [← hst]; exact hW.setS hy'
          have hv2 : X0.map (·.v) = (X1 ++ y' :: X2).map (·.v) := by rw [hv]; simp [hyv']
          clear hX; have hX := @hlE
          refine mW ?_; clear H; intro a w H
          rw [show (X1.length : Int) + 1 = ((X1.length + 1 : Nat) : Int) by omega] at H
          exact ⟨X1.length + 1, hlt, by omega, X1 ++ y' :: X2, hW2, hv2, RelY.close hB hZ (H.to 5 0 ⟨hN, hR⟩ ⟨rfl, rfl, rfl, rfl, rfl, trivial⟩ rfl rfl rfl rfl rfl)⟩
        · have hge : k = ks.length := by rw [decide_eq_false_iff_not] at hb; omega
          clear hb
          have hre : rvd k xw = xw.map MW.rev := by rw [hge, ← m3]; exact rvd_end xw
          have hen := rvd_en k xw
          rw [hre] at hW hen
          obtain ⟨s1, s2⟩ := wy_see hW hv hen
          replace H := v_pubY (RelY.close hB hZ H) (fun b h => h) 2 rfl s1 s2
          replace H := nf H
          have hpl9 : ((xw.map MW.rev).map wyA).length = ks.length := by rw [List.length_map, List.length_map, m3]
          rw [List.map_map] at H hpl9
          clear s1 s2 hN hR
          replace H := v_frzB H 2 3 [2] (Nat.le_trans hM.1 (Nat.zero_le _)) rfl rfl rfl rfl (by omega)
          rw [List.take_of_length_le (by omega)] at H
          replace H := nf H
          have hN : N.bx.length ≤ 0 := hM.1
          have hR : N.rw.length ≤ 0 := hM.2
          replace H := v_ref H 8 3 (Nat.le_trans hN (Nat.zero_le _)) rfl rfl rfl
          simp only [nilT, strip, List.map_cons, List.map_nil, reduceIte, Nat.reduceEqDiff] at H
          replace H := v_ref H 9 4 (Nat.le_trans hN (Nat.zero_le _)) rfl rfl rfl
          simp only [nilT, strip, List.map_cons, List.map_nil, reduceIte, Nat.reduceEqDiff] at H
          refine mS ?_
          clear hX; have hX := And.intro @hkl (And.intro @hpl (And.intro @hz2 (And.intro @hs0 (And.intro @hpl9 (@x8)))))
          refine mS ?_; refine mD 0 [5] [1, 2, 3, 4] H ?_; clear H; intro gS H
          refine mT ?_; clear H; intro a w H
          refine v_drawNil H ?_; clear H; intro H
          refine mS ?_
          refine wp_ret ?_
          exact v_end [] [] tab_ok ⟨hM.1, hM.2⟩ (rs := [.cell 4 50, .tmp 5, .tmp 6]) (ress := [_, _, _]) rfl H (by rfl) (by rfl) trivial rfl ⟨sub_refl _ _, sub_refl _ _, sub_refl _ _, trivial⟩ rfl
end Go.Proofs.Ytigmpdhnhkdeiaa
/- What a sketch says of keys: ref20.Says. -/
namespace Go.Proofs.Ytigmpdhnhkdeiaa
open Go Go.RowKit
attribute [local irreducible] wpT
end Go.Proofs.Ytigmpdhnhkdeiaa
/- What a sketch for keys is asked: multi.Check, Root, Says, Single. -/
namespace Go.Proofs.Ytigmpdhnhkdeiaa
open Go Go.RowKit
theorem muD_len {ks : List (List UInt8)} {p : List Br} (hw : ∀ b ∈ p, b.wf) : (muD ks p).length = 32 := by
  unfold muD
  split
  · rename_i he
    obtain ⟨_, _, _, t, ht, hmt, _, _, _, hd, _⟩ := muE_zero hw he
    rw [hmt]; exact hd
  · exact List.length_replicate
section
variable (ks : List (List UInt8)) (hk32 : ∀ k ∈ ks, k.length = 32) (p : List Br) (hw : ∀ b ∈ p, b.wf) (hl1 : ks.length ≤ 34359730000) (hl2 : p.length ≤ 34359730000)
include hk32 hw hl1 hl2
attribute [local irreducible] wpT
set_option maxRecDepth 20000 in
theorem mcheck_v : VC Try.prog 31 [.sl (.ba 32) (bas ks) none, .st [.sl brT (brs p) none]] [] (.v (.int .i64 (muE ks p))) := by
  have hrd := mread_v ks hk32 p hw hl1 hl2
  have hD := muD_len (ks := ks) hw
  generalize muE ks p = e at *
  generalize muD ks p = D at *
  generalize (muWs ks p).map wyA = W at *
  refine mE Try.func31 ?_; intro N w0 a w hN hR H
  have hX := @hD
  refine mW ?_; clear H; intro a w H
  refine mCall [] [] (hrd) H ?_; clear H; intro a w H; try refine wpList_nil ?_
  refine mW ?_; clear H; intro a w H
  refine wp_ret ?_; exact mEnd [] [] [.tmp 4] [_] hN hR H
set_option maxRecDepth 20000 in
theorem mroot_v : VC Try.prog 26 [.sl (.ba 32) (bas ks) none, .st [.sl brT (brs p) none]] [] (.tup [.ba (muD ks p), .v (.int .i64 (muE ks p))]) := by
  have hrd := mread_v ks hk32 p hw hl1 hl2
  have hD := muD_len (ks := ks) hw
  generalize muE ks p = e at *
  generalize muD ks p = D at *
  generalize (muWs ks p).map wyA = W at *
  refine mE Try.func26 ?_; intro N w0 a w hN hR H
  have hX := @hD
  refine mW ?_; clear H; intro a w H
  refine mCall [] [] (hrd) H ?_; clear H; intro a w H; try refine wpList_nil ?_
  refine mW ?_; clear H; intro a w H
  refine wp_ret ?_; exact mEnd [] [] [.cell 4 50, .tmp 5] [_, _] hN hR H
end
end Go.Proofs.Ytigmpdhnhkdeiaa
