/- Values seen as others: a nil slice inside a box as a row that is none yet; an empty window as no bytes. -/
import Derived.Test.YtlagngkafllbiaaA5
import Derived.Test.YtlagngkafllbiaaRegF
set_option linter.unusedSimpArgs false
set_option linter.unusedVariables false
namespace Go.Proofs.Ytlagngkafllbiaa
open Go Go.RowKit
section
variable {P : Program} {τ : Tab} {w0 w w' : World} {N : Gh} {g g1 g2 : Gh} {st st' : St} {nt : Nat} {a : Act}
theorem RC.sc_slice {T : Ty} {A : Option Addr} {n c : Nat} {cs : List Value} (h : RC g T (.v (.slice A n c)) cs) : T = .sc ∧ cs = [.slice A n c] := by
  cases h with
  | v h => exact ⟨rfl, rfl⟩
theorem RC.nilK {y : AV} (hy : RC g .sc y [.slice none 0 0]) : ∀ (k : Nat) {T : Ty} {fs : List AV} {cs : List Value}, RC g T (.st fs) cs → fs[k]? = some (.v (.slice none 0 0)) → RC g T (.st (fs.set k y)) cs
  | _, _, [], _, h, hk => by simp at hk
  | 0, _, x :: fs, _, h, hk => by
    simp only [List.getElem?_cons_zero, Option.some.injEq] at hk
    subst hk
    cases h with
    | cn h hs =>
      obtain ⟨rfl, rfl⟩ := h.sc_slice
      exact .cn hy hs
  | k + 1, _, x :: fs, _, h, hk => by
    cases h with
    | cn h hs => exact .cn h (RC.nilK hy k hs (by simpa using hk))
/-- A field of a box that is a nil slice: a row that is none yet (of bytes). -/
theorem v_nilXB (hτ : τ.ok P) (H : Rel P w0 N nt st a w) (i k e : Nat) {j : TI} {T : Ty} {fs : List AV} (hj : Tab.get e τ = some j) (hs : 0 < j.ty.size) (hb : st.bx[i]? = some (T, .st fs)) (hd : fs[k]? = some (.v (.slice none 0 0))) :
    Rel P w0 N nt ⟨st.t, st.bx.set i (T, .st (fs.set k (.bs [] (some st.rw.length)))), st.fz, st.rw ++ [(e, 0)]⟩ a w := by
  obtain ⟨g, HI, hF⟩ := H
  have hok := Tab.get_ok hτ hj
  obtain ⟨g1, l1, I1, h1⟩ := HI.rowNil (nilRow hok hs w) rfl rfl ⟨hok.cells.symm, rfl⟩
  obtain ⟨x, hx, rfl, hr⟩ := I1.br.at_ i T _ hb
  have hy := (RC.bs (g := g1) (l := []) (tok := some st.rw.length) (A := none) (c := 0) (by simp) (by simp [maxLen]) (.inl rfl) fun i hi => by injection hi with hi; subst hi; exact ⟨_, h1, by simp, fun _ => ⟨rfl, rfl⟩⟩)
  exact ⟨g1, I1.re hx (RC.nilK hy k hr hd), ⟨(hF.mono l1.1).sz, hF.df, (hF.mono l1.1).t, hF.u⟩⟩
/-- The same, of other elements. -/
theorem v_nilX (hτ : τ.ok P) (H : Rel P w0 N nt st a w) (i k e : Nat) {j : TI} (T' : Ty) {T : Ty} {fs : List AV} (hj : Tab.get e τ = some j) (hs : 0 < j.ty.size) (hb : st.bx[i]? = some (T, .st fs)) (hd : fs[k]? = some (.v (.slice none 0 0))) :
    Rel P w0 N nt ⟨st.t, st.bx.set i (T, .st (fs.set k (.sl T' [] (some st.rw.length)))), st.fz, st.rw ++ [(e, 0)]⟩ a w := by
  obtain ⟨g, HI, hF⟩ := H
  have hok := Tab.get_ok hτ hj
  obtain ⟨g1, l1, I1, h1⟩ := HI.rowNil (nilRow hok hs w) rfl rfl ⟨hok.cells.symm, rfl⟩
  obtain ⟨x, hx, rfl, hr⟩ := I1.br.at_ i T _ hb
  have hy := (RC.sl (g := g1) (T := T') (es := []) (tok := some st.rw.length) (A := none) (c := 0) (by simp) (by simp [maxLen]) (fun _ => []) (.inl rfl) (fun k hk => absurd hk (by simp)) fun i hi => by injection hi with hi; subst hi; exact ⟨_, h1, by simp, fun _ => ⟨rfl, rfl⟩⟩)
  exact ⟨g1, I1.re hx (RC.nilK hy k hr hd), ⟨(hF.mono l1.1).sz, hF.df, (hF.mono l1.1).t, hF.u⟩⟩
/-- An empty window: no bytes. -/
theorem v_win0 (H : Rel P w0 N nt st a w) (d i : Nat) {o : Nat} {p : List Nat} (hd : find d st.t = some (none, .win i p o 0)) : Rel P w0 N nt ⟨nilT d (.bs [] none) st.t, st.bx, st.fz, st.rw⟩ a w := by
  obtain ⟨g, HI, hF⟩ := H
  refine ⟨g, HI, hF.sz, hF.df, fun q hp hg => ?_, fun q hp hg => by rcases nilT_mem hp with h | h; (subst h; exact absurd trivial hg); exact hF.u q h hg⟩
  rcases nilT_mem hp with h | h
  · subst h
    have h1 : RC g .sc (.win i p o 0) [a.tmps.getD d undef] := (hF.t _ (find_mem hd) trivial).win_inv
    show RV g (.bs [] none) (a.tmps.getD d undef)
    generalize a.tmps.getD d undef = u at h1
    cases h1 with
    | win h ho hn hc hm hA => exact (RC.bs (g := g) (l := []) (by simp) hm (.inl rfl) fun i hi => by cases hi).rvp
  · exact hF.t q h hg
end
end Go.Proofs.Ytlagngkafllbiaa
