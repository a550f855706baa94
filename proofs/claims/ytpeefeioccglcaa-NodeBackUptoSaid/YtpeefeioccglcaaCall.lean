/- Behind a call: what was passed comes back, new boxes and rows stand behind the old ones. -/
import Derived.Test.YtpeefeioccglcaaCon2
set_option linter.unusedSimpArgs false
set_option linter.unusedVariables false
namespace Go.Proofs.Ytpeefeioccglcaa
open Go Go.RowKit
def setAll {α : Type} : List α → List Nat → List α → List α
  | l, j :: js, x :: xs => setAll (l.set j x) js xs
  | l, _, _ => l
def mergeL {α : Type} (l : List α) (js : List Nat) (l' : List α) : List α := setAll l js l' ++ l'.drop js.length
def nth (js : List Nat) (n i : Nat) : Nat := js.getD i (n + (i - js.length))
section
variable {α : Type}
theorem setAll_len : ∀ {js : List Nat} {l l' : List α}, (setAll l js l').length = l.length
  | [], l, l' => by cases l' <;> rfl
  | j :: js, l, [] => rfl
  | j :: js, l, x :: xs => by rw [setAll, setAll_len, List.length_set]
theorem setAll_out : ∀ {js : List Nat} {l l' : List α} {k : Nat}, k ∉ js → (setAll l js l')[k]? = l[k]?
  | [], l, l', k, _ => by cases l' <;> rfl
  | j :: js, l, [], k, _ => rfl
  | j :: js, l, x :: xs, k, h => by
    rw [setAll, setAll_out (fun e => h (List.mem_cons_of_mem _ e)), List.getElem?_set, if_neg (fun e => h (by rw [e]; exact List.mem_cons_self))]
theorem setAll_in : ∀ {js : List Nat} {l l' : List α} {i k : Nat}, js.Nodup → (∀ j ∈ js, j < l.length) → js.length ≤ l'.length → js[i]? = some k → (setAll l js l')[k]? = l'[i]?
  | [], l, l', i, k, _, _, _, h => by simp at h
  | j :: js, l, [], i, k, _, _, hl, _ => by simp at hl
  | j :: js, l, x :: xs, i, k, hn, hj, hl, h => by
    rw [List.nodup_cons] at hn
    cases i with
    | zero =>
      simp at h; subst h
      rw [setAll, setAll_out hn.1, List.getElem?_set, if_pos rfl, if_pos (hj _ List.mem_cons_self)]; rfl
    | succ i =>
      rw [setAll, setAll_in hn.2 (fun k hk => by rw [List.length_set]; exact hj k (List.mem_cons_of_mem _ hk)) (by simpa using hl) (by simpa using h)]; simp
theorem setAll_map {β : Type} (f : α → β) : ∀ {js : List Nat} {l l' : List α}, (setAll l js l').map f = setAll (l.map f) js (l'.map f)
  | [], l, l' => by cases l' <;> rfl
  | j :: js, l, [] => rfl
  | j :: js, l, x :: xs => by rw [setAll, setAll_map f, List.map_set, List.map_cons, setAll]
theorem mergeL_map {β : Type} (f : α → β) {js : List Nat} {l l' : List α} : (mergeL l js l').map f = mergeL (l.map f) js (l'.map f) := by
  unfold mergeL; rw [List.map_append, setAll_map, List.map_drop]
variable {js : List Nat} {l l' : List α} (nj : js.Nodup) (hj : ∀ j ∈ js, j < l.length) (hl : js.length ≤ l'.length)
theorem nth_lt {i n : Nat} (h : i < js.length) : js[i]? = some (nth js n i) := by unfold nth; rw [List.getD_eq_getElem?_getD, List.getElem?_eq_getElem h]; rfl
theorem nth_ge {i n : Nat} (h : js.length ≤ i) : nth js n i = n + (i - js.length) := by unfold nth; rw [List.getD_eq_getElem?_getD, List.getElem?_eq_none h]; rfl
include nj hj hl in
theorem merge_new {i : Nat} {x : α} (h : l'[i]? = some x) : (mergeL l js l')[nth js l.length i]? = some x := by
  unfold mergeL
  rcases Nat.lt_or_ge i js.length with h1 | h1
  · have h2 := nth_lt (n := l.length) h1
    rw [List.getElem?_append_left (by rw [setAll_len]; exact hj _ (List.mem_of_getElem? h2)), setAll_in nj hj hl h2]; exact h
  · rw [nth_ge h1, List.getElem?_append_right (by rw [setAll_len]; omega), setAll_len, Nat.add_sub_cancel_left, List.getElem?_drop, show js.length + (i - js.length) = i by omega]; exact h
theorem merge_old {k : Nat} {x : α} (hk : k ∉ js) (h : l[k]? = some x) : (mergeL l js l')[k]? = some x := by
  unfold mergeL
  have := (List.getElem?_eq_some_iff.1 h).1
  rw [List.getElem?_append_left (by rw [setAll_len]; exact this), setAll_out hk]; exact h
include nj hj hl in
theorem merge_cases {k : Nat} {x : α} (h : (mergeL l js l')[k]? = some x) : (∃ i, l'[i]? = some x ∧ nth js l.length i = k) ∨ (k ∉ js ∧ l[k]? = some x) := by
  unfold mergeL at h
  rcases Nat.lt_or_ge k l.length with h1 | h1
  · rw [List.getElem?_append_left (by rw [setAll_len]; exact h1)] at h
    by_cases hk : k ∈ js
    · obtain ⟨i, hi⟩ := List.getElem?_of_mem hk
      rw [setAll_in nj hj hl hi] at h
      refine .inl ⟨i, h, ?_⟩
      have := nth_lt (n := l.length) (List.getElem?_eq_some_iff.1 hi).1
      rw [hi] at this; injection this with this; exact this.symm
    · rw [setAll_out hk] at h; exact .inr ⟨hk, h⟩
  · rw [List.getElem?_append_right (by rw [setAll_len]; exact h1), setAll_len, List.getElem?_drop] at h
    exact .inl ⟨_, h, by rw [nth_ge (by omega)]; omega⟩
include nj hj in
theorem nth_inj {i k : Nat} (h : nth js l.length i = nth js l.length k) : i = k := by
  rcases Nat.lt_or_ge i js.length with h1 | h1 <;> rcases Nat.lt_or_ge k js.length with h2 | h2
  · exact nodup_get nj (nth_lt h1) (by rw [h]; exact nth_lt h2)
  · have := hj _ (List.mem_of_getElem? (nth_lt (n := l.length) h1)); rw [h, nth_ge h2] at this; omega
  · have := hj _ (List.mem_of_getElem? (nth_lt (n := l.length) h2)); rw [← h, nth_ge h1] at this; omega
  · rw [nth_ge h1, nth_ge h2] at h; omega
end
section
variable {P : Program} {τ : Tab} {w0 w w' : World} {N : Gh} {g g1 : Gh} {st st' : St} {nt : Nat} {a : Act}
theorem uses_some {f : Nat → Nat} : ∀ {d : Nat} {a : AV}, uses some d a = true → uses (fun k => some (f k)) d a = true
  | 0, a, h => by cases a <;> simp_all [uses]
  | d + 1, a, h => by
    cases a with
    | st fs => simp only [uses, List.all_eq_true] at *; exact fun x hx => uses_some (h x hx)
    | tup fs => simp only [uses, List.all_eq_true] at *; exact fun x hx => uses_some (h x hx)
    | _ => simp_all [uses]
def renB (js ks : List Nat) (nb nr : Nat) (l : List (Ty × AV)) : List (Ty × AV) := l.map fun x => (x.1, ren (fun k => some (nth js nb k)) (fun k => some (nth ks nr k)) 4 x.2)
theorem Inv.call {bx bx' : List (Ty × AV)} {fz fz' : List Nat} {rw_ rw' : List (TypeId × Nat)} (h : Inv P w0 N g bx fz rw_ w) {js ks : List Nat} (h' : Inv P w (g.pick js ks) g1 bx' fz' rw' w')
    (hj : ∀ j ∈ js, j < bx.length) (hk : ∀ k ∈ ks, k < rw_.length) (nj : js.Nodup) (nk : ks.Nodup) (hu : ∀ x ∈ bx', uses some 4 x.2 = true) :
    let gm : Gh := ⟨g1.ro, mergeL g.bx js g1.bx, mergeL g.rw ks g1.rw⟩
    g.le gm ∧ Inv P w0 N gm (mergeL bx js (renB js ks bx.length rw_.length bx')) (fz ++ fz'.map (nth js bx.length)) (mergeL rw_ ks rw') w' ∧
      (∀ i x, g1.bx[i]? = some x → gm.bx[nth js bx.length i]? = some x) ∧ (∀ i x, g1.rw[i]? = some x → gm.rw[nth ks rw_.length i]? = some x) := by
  intro gm
  have lb : g.bx.length = bx.length := h.br.len
  have lr : g.rw.length = rw_.length := by rw [← h.wr, List.length_map]
  have hj' : ∀ j ∈ js, j < g.bx.length := fun j hm => by rw [lb]; exact hj j hm
  have hk' : ∀ k ∈ ks, k < g.rw.length := fun k hm => by rw [lr]; exact hk k hm
  have plen : ∀ {α : Type} {l : List α} {js : List Nat}, (∀ j ∈ js, j < l.length) → (js.filterMap (l[·]?)).length = js.length := by
    intro α l js
    induction js with
    | nil => intro _; rfl
    | cons j js ih => intro hj; rw [List.filterMap_cons, List.getElem?_eq_getElem (hj j List.mem_cons_self)]; simp [ih fun k hk => hj k (List.mem_cons_of_mem _ hk)]
  have pb : ∀ {i j : Nat} {x : Bx}, js[i]? = some j → g.bx[j]? = some x → (g.pick js ks).bx[i]? = some x := fun {i j x} hi hx => by
    show (js.filterMap (g.bx[·]?))[i]? = _
    rw [pick_get hj', hi]; exact hx
  have pr : ∀ {i j : Nat} {x : Rw}, ks[i]? = some j → g.rw[j]? = some x → (g.pick js ks).rw[i]? = some x := fun {i j x} hi hx => by
    show (ks.filterMap (g.rw[·]?))[i]? = _
    rw [pick_get hk', hi]; exact hx
  have gb : ∀ {i : Nat} {x : Bx}, (g.pick js ks).bx[i]? = some x → ∃ j, js[i]? = some j ∧ g.bx[j]? = some x := fun {i x} hx => by
    have hx' : (js.filterMap (g.bx[·]?))[i]? = some x := hx
    rw [pick_get hj'] at hx'
    exact Option.bind_eq_some_iff.1 hx'
  have gr : ∀ {i : Nat} {x : Rw}, (g.pick js ks).rw[i]? = some x → ∃ j, ks[i]? = some j ∧ g.rw[j]? = some x := fun {i x} hx => by
    have hx' : (ks.filterMap (g.rw[·]?))[i]? = some x := hx
    rw [pick_get hk'] at hx'
    exact Option.bind_eq_some_iff.1 hx'
  have hl : js.length ≤ g1.bx.length := by
    rcases Nat.lt_or_ge g1.bx.length js.length with h1 | h1
    · have h2 : g1.bx.length < (g.pick js ks).bx.length := by show _ < (js.filterMap (g.bx[·]?)).length; rw [plen hj']; exact h1
      obtain ⟨x', h3, _⟩ := h'.fr.le.bx _ _ (List.getElem?_eq_getElem h2)
      have := (List.getElem?_eq_some_iff.1 h3).1; omega
    · exact h1
  have hlr : ks.length ≤ g1.rw.length := by
    rcases Nat.lt_or_ge g1.rw.length ks.length with h1 | h1
    · have h2 : g1.rw.length < (g.pick js ks).rw.length := by show _ < (ks.filterMap (g.rw[·]?)).length; rw [plen hk']; exact h1
      obtain ⟨x', h3, _⟩ := h'.fr.le.rw _ _ (List.getElem?_eq_getElem h2)
      have := (List.getElem?_eq_some_iff.1 h3).1; omega
    · exact h1
  have cb : ∀ {k : Nat} {x : Bx}, gm.bx[k]? = some x → (∃ i, g1.bx[i]? = some x ∧ nth js g.bx.length i = k) ∨ (k ∉ js ∧ g.bx[k]? = some x) := fun {k x} hx => merge_cases nj hj' hl hx
  have cr : ∀ {k : Nat} {x : Rw}, gm.rw[k]? = some x → (∃ i, g1.rw[i]? = some x ∧ nth ks g.rw.length i = k) ∨ (k ∉ ks ∧ g.rw[k]? = some x) := fun {k x} hx => merge_cases nk hk' hlr hx
  -- blocks that were not passed
  have nb : ∀ {k : Nat} {x : Bx}, k ∉ js → g.bx[k]? = some x → ¬ (g.pick js ks).has x.blk := fun {k x} hk1 hx hh => by
    rcases hh with ⟨y, hy, he⟩ | ⟨r, hr, he⟩
    · obtain ⟨i, hi⟩ := List.getElem?_of_mem hy
      obtain ⟨j, h1, h2⟩ := gb hi
      have := h.mem.bb j k y x h2 hx he; subst this
      exact hk1 (List.mem_of_getElem? h1)
    · obtain ⟨i, hi⟩ := List.getElem?_of_mem hr
      obtain ⟨j, h1, h2⟩ := gr hi
      exact h.mem.rb k j x r hx h2 he
  have nr : ∀ {k : Nat} {r : Rw} {b : Nat}, k ∉ ks → g.rw[k]? = some r → r.v.ownBlock = some b → ¬ (g.pick js ks).has b := fun {k r b} hk1 hx hb hh => by
    rcases hh with ⟨y, hy, he⟩ | ⟨s, hr, he⟩
    · obtain ⟨i, hi⟩ := List.getElem?_of_mem hy
      obtain ⟨j, h1, h2⟩ := gb hi
      exact h.mem.rb j k y r h2 hx (by rw [he]; exact hb)
    · obtain ⟨i, hi⟩ := List.getElem?_of_mem hr
      obtain ⟨j, h1, h2⟩ := gr hi
      have := h.mem.rr j k s r b h2 hx he hb; subst this
      exact hk1 (List.mem_of_getElem? h1)
  -- blocks of those that came back
  have ob : ∀ {i : Nat} {x : Bx}, g1.bx[i]? = some x → w.heap.size ≤ x.blk ∨ ∃ j y, js[i]? = some j ∧ g.bx[j]? = some y ∧ y.blk = x.blk := fun {i x} hx => by
    rcases h'.fr.bx i x hx with h1 | ⟨y, h1, h2⟩
    · exact .inl h1
    · obtain ⟨j, h3, h4⟩ := gb h1; exact .inr ⟨j, y, h3, h4, h2⟩
  have or_ : ∀ {i : Nat} {r : Rw} {b : Nat}, g1.rw[i]? = some r → r.v.ownBlock = some b → w.heap.size ≤ b ∨ ∃ j s, ks[i]? = some j ∧ g.rw[j]? = some s ∧ s.v.ownBlock = some b := fun {i r b} hx hb => by
    rcases h'.fr.rw i r b hx hb with h1 | ⟨y, h1, h2⟩
    · exact .inl h1
    · obtain ⟨j, h3, h4⟩ := gr h1; exact .inr ⟨j, y, h3, h4, h2⟩
  have hN : ∀ b, b < w0.heap.size → (g.pick js ks).has b → N.has b := fun b hb hh => by
    rcases hh with ⟨y, hy, he⟩ | ⟨s, hr, he⟩
    · obtain ⟨i, hi⟩ := List.getElem?_of_mem hy
      obtain ⟨j, h1, h2⟩ := gb hi
      rcases h.fr.bx j y h2 with h3 | ⟨z, h3, h4⟩
      · omega
      · exact .inl ⟨z, List.mem_of_getElem? h3, h4.trans he⟩
    · obtain ⟨i, hi⟩ := List.getElem?_of_mem hr
      obtain ⟨j, h1, h2⟩ := gr hi
      rcases h.fr.rw j s b h2 he with h3 | ⟨z, h3, h4⟩
      · omega
      · exact .inr ⟨z, List.mem_of_getElem? h3, h4⟩
  have nthb : ∀ {i j : Nat}, js[i]? = some j → nth js g.bx.length i = j := fun {i j} hi => by
    have := nth_lt (n := g.bx.length) (List.getElem?_eq_some_iff.1 hi).1
    rw [hi] at this; injection this with this; exact this.symm
  have nthr : ∀ {i j : Nat}, ks[i]? = some j → nth ks g.rw.length i = j := fun {i j} hi => by
    have := nth_lt (n := g.rw.length) (List.getElem?_eq_some_iff.1 hi).1
    rw [hi] at this; injection this with this; exact this.symm
  have mb : ∀ (i : Nat) (x : Bx), g1.bx[i]? = some x → gm.bx[nth js bx.length i]? = some x := fun i x hx => by rw [← lb]; exact merge_new nj hj' hl hx
  have mr : ∀ (i : Nat) (x : Rw), g1.rw[i]? = some x → gm.rw[nth ks rw_.length i]? = some x := fun i x hx => by rw [← lr]; exact merge_new nk hk' hlr hx
  have hle : g.le gm := by
    refine ⟨h'.fr.le.ro, fun k x hx => ?_, fun k r hr => ?_⟩
    · by_cases hm : k ∈ js
      · obtain ⟨i, hi⟩ := List.getElem?_of_mem hm
        obtain ⟨x', h1, h2⟩ := h'.fr.le.bx i x (pb hi hx)
        exact ⟨x', by have := mb i x' h1; rwa [← lb, nthb hi] at this, h2⟩
      · exact ⟨x, merge_old hm hx, rfl, rfl⟩
    · by_cases hm : k ∈ ks
      · obtain ⟨i, hi⟩ := List.getElem?_of_mem hm
        obtain ⟨x', h1, h2⟩ := h'.fr.le.rw i r (pr hi hr)
        exact ⟨x', by have := mr i x' h1; rwa [← lr, nthr hi] at this, h2⟩
      · exact ⟨r, merge_old hm hr, rfl, rfl, rfl, Nat.le_refl _, fun _ => rfl⟩
  have hkept := h'.fr.kept
  refine ⟨hle, ⟨⟨h'.mem.ro, fun k x hx => ?_, fun k r hr => ?_, fun k x hx hf o u hu => ?_, fun k x hx hf o => ?_, fun k l x y hx hy he => ?_, fun k r b hr hb o ho => ?_, fun k r b hr hb o u hu => ?_, fun k l x r hx hr => ?_, fun k l r s b hr hs hb1 hb2 => ?_⟩,
    ⟨h.fr.kept.trans hkept hN, fun k x hx => ?_, fun k r b hr hb => ?_, fun b hb hn o => ?_, h.fr.le.trans hle⟩, ⟨?_, fun k T b hi => ?_⟩, fun k x hx hf => ?_, ?_, fun r hr => ?_⟩, mb, mr⟩
  · rcases cb hx with ⟨i, h1, _⟩ | ⟨h1, h2⟩
    · exact h'.mem.bx i x h1
    · exact (h.mem.bx k x h2).kept hkept (nb h1 h2)
  · rcases cr hr with ⟨i, h1, _⟩ | ⟨h1, h2⟩
    · exact h'.mem.rw i r h1
    · exact (h.mem.rw k r h2).keep fun b hb => hkept.block b ((h.mem.rw k r h2).lt hb) (nr h1 h2 hb)
  · rcases cb hx with ⟨i, h1, _⟩ | ⟨h1, h2⟩
    · exact h'.mem.fro i x h1 hf o u hu
    · exact hle.ro _ _ _ (h.mem.fro k x h2 hf o u hu)
  · rcases cb hx with ⟨i, h1, _⟩ | ⟨h1, h2⟩
    · exact h'.mem.bro i x h1 hf o
    · exact (h'.fr.ro _ (h.mem.bx k x h2).lt (nb h1 h2) o).trans (h.mem.bro k x h2 hf o)
  · rcases cb hx with ⟨i, h1, e1⟩ | ⟨h1, h2⟩ <;> rcases cb hy with ⟨i', h1', e1'⟩ | ⟨h1', h2'⟩
    · have := h'.mem.bb i i' x y h1 h1' he; rw [← e1, ← e1', this]
    · rcases ob h1 with h3 | ⟨j, z, h3, h4, h5⟩
      · have := (h.mem.bx l y h2').lt; omega
      · have := h.mem.bb j l z y h4 h2' (h5.trans he); subst this; exact absurd (List.mem_of_getElem? h3) h1'
    · rcases ob h1' with h3 | ⟨j, z, h3, h4, h5⟩
      · have := (h.mem.bx k x h2).lt; omega
      · have := h.mem.bb j k z x h4 h2 (h5.trans he.symm); subst this; exact absurd (List.mem_of_getElem? h3) h1
    · exact h.mem.bb k l x y h2 h2' he
  · rcases cr hr with ⟨i, h1, _⟩ | ⟨h1, h2⟩
    · exact h'.mem.rro i r b h1 hb o ho
    · exact (h'.fr.ro _ ((h.mem.rw k r h2).lt hb) (nr h1 h2 hb) o).trans (h.mem.rro k r b h2 hb o ho)
  · rcases cr hr with ⟨i, h1, _⟩ | ⟨h1, h2⟩
    · exact h'.mem.rwo i r b h1 hb o u hu
    · exact hle.ro _ _ _ (h.mem.rwo k r b h2 hb o u hu)
  · intro he
    rcases cb hx with ⟨i, h1, _⟩ | ⟨h1, h2⟩ <;> rcases cr hr with ⟨i', h1', _⟩ | ⟨h1', h2'⟩
    · exact h'.mem.rb i i' x r h1 h1' he
    · rcases ob h1 with h3 | ⟨j, z, h3, h4, h5⟩
      · have := (h.mem.rw l r h2').lt he; omega
      · exact h.mem.rb j l z r h4 h2' (by rw [he, h5])
    · rcases or_ h1' he with h3 | ⟨j, z, h3, h4, h5⟩
      · have := (h.mem.bx k x h2).lt; omega
      · exact h.mem.rb k j x z h2 h4 h5
    · exact h.mem.rb k l x r h2 h2' he
  · rcases cr hr with ⟨i, h1, e1⟩ | ⟨h1, h2⟩ <;> rcases cr hs with ⟨i', h1', e1'⟩ | ⟨h1', h2'⟩
    · have := h'.mem.rr i i' r s b h1 h1' hb1 hb2; rw [← e1, ← e1', this]
    · rcases or_ h1 hb1 with h3 | ⟨j, z, h3, h4, h5⟩
      · have := (h.mem.rw l s h2').lt hb2; omega
      · have := h.mem.rr j l z s b h4 h2' h5 hb2; subst this; exact absurd (List.mem_of_getElem? h3) h1'
    · rcases or_ h1' hb2 with h3 | ⟨j, z, h3, h4, h5⟩
      · have := (h.mem.rw k r h2).lt hb1; omega
      · have := h.mem.rr j k z r b h4 h2 h5 hb1; subst this; exact absurd (List.mem_of_getElem? h3) h1
    · exact h.mem.rr k l r s b h2 h2' hb1 hb2
  · rcases cb hx with ⟨i, h1, e1⟩ | ⟨h1, h2⟩
    · rcases ob h1 with h3 | ⟨j, z, h3, h4, h5⟩
      · exact .inl (Nat.le_trans h.fr.kept.size h3)
      · rw [← e1, nthb h3, ← h5]; exact h.fr.bx j z h4
    · exact h.fr.bx k x h2
  · rcases cr hr with ⟨i, h1, e1⟩ | ⟨h1, h2⟩
    · rcases or_ h1 hb with h3 | ⟨j, z, h3, h4, h5⟩
      · exact .inl (Nat.le_trans h.fr.kept.size h3)
      · rw [← e1, nthr h3]; exact h.fr.rw j z b h4 h5
    · exact h.fr.rw k r b h2 hb
  · have := h.fr.kept.size
    exact (h'.fr.ro b (by omega) (fun hh => hn (hN b hb hh)) o).trans (h.fr.ro b hb hn o)
  · show (mergeL g.bx js g1.bx).length = _
    unfold mergeL renB
    rw [List.length_append, List.length_append, setAll_len, setAll_len, List.length_drop, List.length_drop, List.length_map, lb, h'.br.len]
  · have hl2 : js.length ≤ (renB js ks bx.length rw_.length bx').length := by unfold renB; rw [List.length_map, ← h'.br.len]; exact hl
    rcases merge_cases nj hj hl2 hi with ⟨i, h1, e1⟩ | ⟨h1, h2⟩
    · unfold renB at h1
      rw [List.getElem?_map] at h1
      obtain ⟨y, hy, e⟩ := Option.map_eq_some_iff.1 h1
      simp only [Prod.mk.injEq] at e
      obtain ⟨rfl, rfl⟩ := e
      obtain ⟨x, h3, h4, h5⟩ := h'.br.at_ i y.1 y.2 hy
      refine ⟨x, by rw [← e1]; exact mb i x h3, h4, ?_⟩
      exact h5.ren_ (g1 := g1) (g2 := gm) (fb := fun k => some (nth js bx.length k)) rfl (fun i j x hij hx => by injection hij with hij; subst hij; exact mb i x hx) (fun i j x hij hx => by injection hij with hij; subst hij; exact mr i x hx) (uses_some (hu y (List.mem_of_getElem? hy)))
    · obtain ⟨x, h3, h4, h5⟩ := h.br.at_ k T b h2
      exact ⟨x, merge_old h1 h3, h4, h5.mono hle⟩
  · rcases cb hx with ⟨i, h1, e1⟩ | ⟨h1, h2⟩
    · exact List.mem_append_right _ (List.mem_map.2 ⟨i, h'.fz i x h1 hf, by rw [← lb]; exact e1⟩)
    · exact List.mem_append_left _ (h.fz k x h2 hf)
  · show (mergeL g.rw ks g1.rw).map _ = _
    rw [mergeL_map, h.wr, h'.wr]
  · obtain ⟨k, hk2⟩ := List.getElem?_of_mem hr
    rcases cr hk2 with ⟨i, h1, _⟩ | ⟨_, h2⟩
    · exact h'.wz r (List.mem_of_getElem? h1)
    · exact h.wz r (List.mem_of_getElem? h2)
def okSel : List Nat → Nat → Bool
  | [], _ => true
  | j :: js, n => decide (j < n) && !js.contains j && okSel js n
theorem okSel_ok {n : Nat} : ∀ {js : List Nat}, okSel js n = true → (∀ j ∈ js, j < n) ∧ js.Nodup
  | [], _ => ⟨fun j h => (by cases h), List.nodup_nil⟩
  | j :: js, h => by
    simp only [okSel, Bool.and_eq_true, decide_eq_true_eq, Bool.not_eq_true'] at h
    obtain ⟨h1, h2⟩ := okSel_ok h.2
    refine ⟨fun k hk => ?_, List.nodup_cons.2 ⟨fun hm => ?_, h2⟩⟩
    · rcases List.mem_cons.1 hk with rfl | hk
      · exact h.1.1
      · exact h1 k hk
    · have : js.contains j = true := by simpa using hm
      rw [this] at h; exact absurd h.1.2 (by simp)
def fzOk : List Nat → List Nat → List Nat → Nat → Bool
  | [], _, _, _ => true
  | j :: js, fz, fz2, i => (!fz.contains j || fz2.contains i) && fzOk js fz fz2 (i + 1)
theorem fzOk_ok {fz fz2 : List Nat} : ∀ {js : List Nat} {n : Nat}, fzOk js fz fz2 n = true → ∀ i j, js[i]? = some j → j ∈ fz → n + i ∈ fz2
  | [], _, _, i, j, h, _ => by simp at h
  | k :: js, n, h, i, j, hi, hm => by
    simp only [fzOk, Bool.and_eq_true, Bool.or_eq_true, Bool.not_eq_true'] at h
    cases i with
    | zero =>
      simp at hi; subst hi
      rcases h.1 with h1 | h1
      · have : fz.contains k = true := by simpa using hm
        rw [this] at h1; cases h1
      · simpa using h1
    | succ i =>
      have := fzOk_ok h.2 i j (by simpa using hi) hm
      rw [show n + (i + 1) = n + 1 + i by omega]; exact this
def usesB (js : List Nat) (bx : List (Ty × AV)) : Bool := js.all fun j => match bx[j]? with | some x => uses (idx? js) 4 x.2 | none => false
theorem usesB_ok {js : List Nat} {bx : List (Ty × AV)} (h : usesB js bx = true) : ∀ j ∈ js, ∀ x, bx[j]? = some x → uses (idx? js) 4 x.2 = true := fun j hj x hx => by
  have := List.all_eq_true.1 h j hj
  rw [hx] at this; exact this
/-- Operands that can be handed over. -/
def argOk (js : List Nat) (x : AV) : Bool := uses (idx? js) 4 x && !isAny x && (match x with | .tup _ => false | _ => true)
def cargs (st : St) (js ks : List Nat) (xs : List Operand) : List AV := xs.map fun x => ren (idx? js) (idx? ks) 4 (st.ev none x)
theorem allP_get {p : AV → AV → Prop} : ∀ {l m : List AV}, allP p l m → l.length = m.length ∧ ∀ (i : Nat) b, m[i]? = some b → ∃ a, l[i]? = some a ∧ p a b
  | [], [], _ => ⟨rfl, fun i b h => by simp at h⟩
  | a :: l, b :: m, h => by
    obtain ⟨h1, h2⟩ := allP_get h.2
    refine ⟨by simp [h1], fun i c hc => ?_⟩
    cases i with
    | zero => simp at hc; subst hc; exact ⟨a, by simp, h.1⟩
    | succ i => simpa using h2 i c (by simpa using hc)
theorem ren_tup {fb fr : Nat → Option Nat} {d : Nat} {x : AV} (h : ∀ az, x ≠ .tup az) : ∀ az, ren fb fr d x ≠ .tup az := by
  intro az
  cases x <;> cases d <;> simp [ren] at * <;> exact h _ rfl
theorem ren_any {fb fr : Nat → Option Nat} {d : Nat} {x : AV} (h : isAny x = false) : isAny (ren fb fr d x) = false := by
  cases x <;> cases d <;> simp_all [ren, isAny]
theorem cargs_ok (HI : Inv P w0 N g st.bx st.fz st.rw w) (hF : FR g nt st a) {js ks : List Nat} (hj : ∀ j ∈ js, j < st.bx.length) (hk : ∀ k ∈ ks, k < st.rw.length) {xs : List Operand} {args : List AV} (hx : xs.all (fun x => argOk js (st.ev none x)) = true) (ha : allP (sub 4) (cargs st js ks xs) args) :
    args.length = xs.length ∧ ∀ (i : Nat) x v, args[i]? = some x → (xs.map a.eval)[i]? = some v → RV (g.pick js ks) x v := by
  obtain ⟨h1, h2⟩ := allP_get ha
  refine ⟨by rw [← h1]; simp [cargs], fun i x v hi hv => ?_⟩
  obtain ⟨y, hy, hs⟩ := h2 i x hi
  unfold cargs at hy
  rw [List.getElem?_map] at hy hv
  obtain ⟨o, ho, rfl⟩ := Option.map_eq_some_iff.1 hy
  rw [ho] at hv
  simp only [Option.map_some, Option.some.injEq] at hv
  subst hv
  have hc := List.all_eq_true.1 hx o (List.mem_of_getElem? ho)
  simp only [argOk, Bool.and_eq_true, Bool.not_eq_true'] at hc
  have hr := ev_sound hF (c := none) trivial o
  have hlr : g.rw.length = st.rw.length := by rw [← HI.wr, List.length_map]
  have hp := hr.pick_ (js := js) (ks := ks) (d := 3) (fun j hm => by rw [HI.br.len]; exact hj j hm) (fun k hm => by rw [hlr]; exact hk k hm) hc.1.1
  have ht : ∀ az, st.ev none o ≠ .tup az := fun az e => by rw [e] at hc; simp at hc
  exact ((hp.rv1 (ren_any hc.1.2) (ren_tup ht)).sub_ hs).rv
theorem run_callF {f : FuncId} (hf : Fok P f) (xs : List Operand) (ats : Array TypeId) {o : Oper} (ho : o.op = .call ⟨.value (.func f), xs.toArray, ats⟩) (w : World) : (execOp a.eval o).run P w = .ok (.enter f (xs.map a.eval).toArray) w := by
  obtain ⟨fn, h1, h2, h3⟩ := hf
  have h2' : fn.name ≠ "runtime.NumGoroutine" := by simpa using h2
  have h3' : fn.body ≠ none := by intro e; rw [e] at h3; cases h3
  unfold execOp
  simp [ho, resolve, invoke, Act.eval, Deferred.ofValue, callFunc, h1, h2', h3']
/-- A call, by its contract. -/
theorem v_call {ops : Array Oper} {Q : Exit → Act → World → Prop} {rest : List Oper} {o : Oper} {f : FuncId} {xs : List Operand} {ats : Array TypeId} {bxc bx' : List (Ty × AV)} {fzc fz' : List Nat} {rwc rw' : List (TypeId × Nat)} {args : List AV} {res : AV} (js ks : List Nat)
    (hc : VX P f bxc fzc rwc args bx' fz' rw' res) (H : Rel P w0 N nt st a w)
    (hgd : o.guard = none) (ho : o.op = .call ⟨.value (.func f), xs.toArray, ats⟩) (hchk : (okSel js st.bx.length && okSel ks st.rw.length && usesB js st.bx && fzOk js st.fz fzc 0 && xs.all (fun x => argOk js (st.ev none x)) && uses some 4 res && bx'.all (fun x => uses some 4 x.2) && okDst nt none o.dst) = true)
    (hb : bxs (pickB js ks st.bx) bxc) (hr : ks.filterMap (st.rw[·]?) = rwc) (ha : allP (sub 4) (cargs st js ks xs) args)
    (k : ∀ a w, Rel P w0 N nt ((⟨st.t, mergeL st.bx js (renB js ks st.bx.length st.rw.length bx'), st.fz ++ fz'.map (nth js st.bx.length), mergeL st.rw ks rw'⟩ : St).put o.dst none (ren (fun k => some (nth js st.bx.length k)) (fun k => some (nth ks st.rw.length k)) 4 res)) a w → wpList P ops Q rest a w) : wpList P ops Q (o :: rest) a w := by
  obtain ⟨hfok, hcall⟩ := hc
  obtain ⟨g, HI, hF⟩ := H
  simp only [Bool.and_eq_true] at hchk
  obtain ⟨⟨⟨⟨⟨⟨⟨c1, c2⟩, c3⟩, c4⟩, c5⟩, c6⟩, c7⟩, c8⟩ := hchk
  obtain ⟨hj, nj⟩ := okSel_ok c1
  obtain ⟨hk, nk⟩ := okSel_ok c2
  obtain ⟨h1, h2⟩ := cargs_ok HI hF hj hk c5 ha
  refine wpList_plain hgd fun K hK => ?_
  unfold Oper.wp
  rw [run_callF hfok xs ats ho w, Oper.upon_enter]
  have HP : Inv P w (g.pick js ks) (g.pick js ks) bxc fzc rwc w := HI.pick js ks hj hk nj nk (usesB_ok c3) hb (fun i j hi hm => by simpa using fzOk_ok c4 i j hi hm) hr
    ⟨Kept.refl _ _, fun i x hx => .inr ⟨x, hx, rfl⟩, fun i r k hr hrk => .inr ⟨r, hr, hrk⟩, fun _ _ _ _ => rfl, Gh.le.refl _⟩
  refine (hcall w (g.pick js ks) (xs.map a.eval) HP (by simp [h1]) h2).mono fun e w' hp => ?_
  obtain ⟨g1, v, rfl, HI1, hv⟩ := hp
  obtain ⟨k1, k2, k3, k4⟩ := HI.call HI1 hj hk nj nk (fun x hx => List.all_eq_true.1 c7 x hx)
  have hv' := hv.ren_ (g1 := g1) (g2 := ⟨g1.ro, mergeL g.bx js g1.bx, mergeL g.rw ks g1.rw⟩) (fb := fun k => some (nth js st.bx.length k)) (fr := fun k => some (nth ks st.rw.length k)) (d := 3) rfl (fun i j x hij hx => by injection hij with hij; subst hij; exact k3 i x hx) (fun i j x hij hx => by injection hij with hij; subst hij; exact k4 i x hx) (uses_some c6)
  refine hK _ _ (k _ _ ⟨_, ?_, (hF.mono k1).put c8 (fun _ => hv') rfl⟩)
  cases o.dst <;> exact k2
/-- What a function hands back. -/
def resC (τ : Tab) (st : St) (p : Tmp) (t : TypeId) : AV :=
  match ld τ st.bx t (st.tmp none p) with
  | some (x, _) => x
  | none => .any
def resv (τ : Tab) (st : St) : ResultVar → AV
  | .tmp t => st.tmp none t
  | .cell p t => resC τ st p t
theorem resv_sound (hτ : τ.ok P) (HI : Inv P w0 N g st.bx st.fz st.rw w) (hF : FR g nt st a) (x : ResultVar) (hx : isAny (resv τ st x) = false) : ∃ v, (match x with
    | .tmp t => (pure (a.tmps.getD t undef) : Sem Value)
    | .cell p t => (do loadVar t (← asAddr (a.tmps.getD p undef)) : Sem Value)).run P w = .ok v w ∧ RV g (resv τ st x) v := by
  cases x with
  | tmp t => exact ⟨_, rfl, tmp_sound hF (c := none) trivial t⟩
  | cell p t =>
    show ∃ v, (do loadVar t (← asAddr (a.tmps.getD p undef)) : Sem Value).run P w = .ok v w ∧ RV g (resC τ st p t) v
    have hx' : isAny (resC τ st p t) = false := hx
    unfold resC at hx' ⊢
    cases hl : ld τ st.bx t (st.tmp none p) with
    | none => rw [hl] at hx'; simp [isAny] at hx'
    | some q =>
      obtain ⟨x, c⟩ := q
      have hp := tmp_sound hF (c := none) trivial p
      obtain ⟨z, h1, h2⟩ := ld_sound (P := P) hτ HI.br hl hp
      refine ⟨z, ?_, h1⟩
      have h3 := h2 w HI.mem
      generalize hu : a.tmps.getD p undef = u at h3 ⊢
      cases u with
      | pointer q => cases q with
        | some q => simpa [Instr.loadAt, Instr.sureAddr, asAddr] using h3
        | none => simp [Instr.loadAt, Instr.sureAddr] at h3
      | _ => simp [Instr.loadAt, Instr.sureAddr] at h3
def tupOf : List AV → AV
  | [x] => x
  | l => .tup l
def preOk (js : List Nat) (n : Nat) : Bool := (List.range n).all fun j => js[j]? == some j
theorem preOk_ok {js : List Nat} {n : Nat} (h : preOk js n = true) : ∀ j, j < n → js[j]? = some j := fun j hj => by
  have := List.all_eq_true.1 h j (List.mem_range.2 hj)
  simpa using this
/-- The end of a function. -/
theorem v_end {fn : Func} {rs : List ResultVar} {nb nr : Nat} (js ks : List Nat) (hτ : τ.ok P) (hM : N.bx.length ≤ nb ∧ N.rw.length ≤ nr) (hr : fn.results = rs.toArray) (H : Rel P w0 N nt st a w)
    (hchk : (okSel js st.bx.length && okSel ks st.rw.length && usesB js st.bx && preOk js nb && preOk ks nr && rs.all (fun x => argOk js (resv τ st x))) = true)
    {bx' : List (Ty × AV)} {fz' : List Nat} {rw' : List (TypeId × Nat)} {ress : List AV} {res : AV} (hf : fzOk js st.fz fz' 0 = true) (hb : bxs (pickB js ks st.bx) bx') (hw : ks.filterMap (st.rw[·]?) = rw')
    (he : allP (sub 4) (rs.map fun x => ren (idx? js) (idx? ks) 4 (resv τ st x)) ress) (ht : tupOf ress = res) :
    a.defers = [] ∧ ∃ v, (results fn a.tmps).run P w = .ok v w ∧ VPost P w0 N bx' fz' rw' res (.returned v) w := by
  subst ht
  obtain ⟨g, HI, hF⟩ := H
  simp only [Bool.and_eq_true] at hchk
  obtain ⟨⟨⟨⟨⟨c1, c2⟩, c3⟩, c4⟩, c5⟩, c6⟩ := hchk
  obtain ⟨hj, nj⟩ := okSel_ok c1
  obtain ⟨hk, nk⟩ := okSel_ok c2
  have hlr : g.rw.length = st.rw.length := by rw [← HI.wr, List.length_map]
  have hj' : ∀ j ∈ js, j < g.bx.length := fun j hm => by rw [HI.br.len]; exact hj j hm
  have hk' : ∀ k ∈ ks, k < g.rw.length := fun k hm => by rw [hlr]; exact hk k hm
  have p1 := fun j hj => preOk_ok c4 j (Nat.lt_of_lt_of_le hj hM.1)
  have p2 := fun j hj => preOk_ok c5 j (Nat.lt_of_lt_of_le hj hM.2)
  have hfr : Fr w0 N (g.pick js ks) w := by
    refine ⟨HI.fr.kept, fun i x hx => ?_, fun i r k hr hrk => ?_, HI.fr.ro, ⟨HI.fr.le.ro, fun i x hx => ?_, fun i r hr => ?_⟩⟩
    · have hx' : (js.filterMap (g.bx[·]?))[i]? = some x := hx
      rw [pick_get hj'] at hx'
      obtain ⟨j, h1, h2⟩ := Option.bind_eq_some_iff.1 hx'
      rcases HI.fr.bx j x h2 with h3 | ⟨y, h3, h4⟩
      · exact .inl h3
      · have := nodup_get nj h1 (p1 j (List.getElem?_eq_some_iff.1 h3).1); subst this
        exact .inr ⟨y, h3, h4⟩
    · have hx' : (ks.filterMap (g.rw[·]?))[i]? = some r := hr
      rw [pick_get hk'] at hx'
      obtain ⟨j, h1, h2⟩ := Option.bind_eq_some_iff.1 hx'
      rcases HI.fr.rw j r k h2 hrk with h3 | ⟨y, h3, h4⟩
      · exact .inl h3
      · have := nodup_get nk h1 (p2 j (List.getElem?_eq_some_iff.1 h3).1); subst this
        exact .inr ⟨y, h3, h4⟩
    · obtain ⟨x', h1, h2⟩ := HI.fr.le.bx i x hx
      refine ⟨x', ?_, h2⟩
      show (js.filterMap (g.bx[·]?))[i]? = _
      rw [pick_get hj', p1 i (List.getElem?_eq_some_iff.1 hx).1]; exact h1
    · obtain ⟨x', h1, h2⟩ := HI.fr.le.rw i r hr
      refine ⟨x', ?_, h2⟩
      show (ks.filterMap (g.rw[·]?))[i]? = _
      rw [pick_get hk', p2 i (List.getElem?_eq_some_iff.1 hr).1]; exact h1
  have HP : Inv P w0 N (g.pick js ks) bx' fz' rw' w := HI.pick js ks hj hk nj nk (usesB_ok c3) hb (fun i j hi hm => by simpa using fzOk_ok hf i j hi hm) hw hfr
  have key : ∀ (l : List ResultVar) (ress : List AV), l.all (fun x => argOk js (resv τ st x)) = true → allP (sub 4) (l.map fun x => ren (idx? js) (idx? ks) 4 (resv τ st x)) ress → ∃ vs : List Value, (l.mapM fun x : ResultVar => (match x with
      | .tmp t => pure (a.tmps.getD t undef)
      | .cell p t => (do loadVar t (← asAddr (a.tmps.getD p undef))) : Sem Value)).run P w = .ok vs w ∧ vs.length = l.length ∧ vs.length = ress.length ∧ ∀ (i : Nat) x v, ress[i]? = some x → vs[i]? = some v → RV1 (g.pick js ks) x v := by
    intro l
    induction l with
    | nil => intro ress _ he; cases ress with
      | nil => exact ⟨[], rfl, rfl, rfl, fun i x v h => by simp at h⟩
      | cons _ _ => exact he.elim
    | cons x l ih =>
      intro ress hp he
      cases ress with
      | nil => exact he.elim
      | cons y ress =>
      simp only [List.all_cons, Bool.and_eq_true] at hp
      obtain ⟨vs, h1, h2, h2', h3⟩ := ih ress hp.2 he.2
      have hc := hp.1
      simp only [argOk, Bool.and_eq_true, Bool.not_eq_true'] at hc
      obtain ⟨v, h4, h5⟩ := resv_sound (P := P) hτ HI hF x hc.1.2
      have ht : ∀ az, resv τ st x ≠ .tup az := fun az e => by rw [e] at hc; simp at hc
      have h6 := ((h5.pick_ (d := 3) hj' hk' hc.1.1).rv1 (ren_any hc.1.2) (ren_tup ht)).sub_ he.1
      refine ⟨v :: vs, ?_, by simp [h2], by simp [h2'], fun i z u hz hu => ?_⟩
      · rw [List.mapM_cons]
        simp only [Sem.run_bind, h4, Result.andThen_ok, h1, Sem.run_pure]
      · cases i with
        | zero =>
          simp only [List.getElem?_cons_zero, Option.some.injEq] at hz hu
          subst hz hu; exact h6
        | succ i => exact h3 i z u (by simpa using hz) (by simpa using hu)
  obtain ⟨vs, h1, h2, h2', h3⟩ := key rs ress c6 he
  have hres : (results fn a.tmps).run P w = .ok (if h : vs.length = 1 then vs[0] else .tuple vs.toArray) w := by
    have e : results fn a.tmps = (do
        let vs ← rs.toArray.mapM fun x : ResultVar => (match x with
          | .tmp t => pure (a.tmps.getD t undef)
          | .cell p t => (do loadVar t (← asAddr (a.tmps.getD p undef))) : Sem Value)
        pure (if h : vs.size = 1 then vs[0] else .tuple vs)) := by unfold results; rw [hr]; rfl
    rw [e]
    simp only [Sem.run_bind, Array.mapM_eq_mapM_toList, Sem.run_map]
    rw [h1]
    simp
  refine ⟨hF.df, _, hres, ⟨_, _, rfl, HP, ?_⟩⟩
  by_cases hl : vs.length = 1
  · rw [dif_pos hl]
    obtain ⟨x, rfl⟩ : ∃ x, ress = [x] := by
      match ress, h2' with
      | [x], _ => exact ⟨x, rfl⟩
      | [], h => simp at h; rw [h] at hl; cases hl
      | x :: y :: l, h => simp at h; omega
    exact (h3 0 _ _ rfl (List.getElem?_eq_getElem (by omega))).rv
  · rw [dif_neg hl]
    have htu : tupOf ress = .tup ress := by
      match ress, h2' with
      | [x], h => simp at h; exact absurd h hl
      | [], h => rfl
      | x :: y :: l, h => rfl
    rw [htu]
    exact ⟨vs, rfl, h2', fun i x u hx hu => h3 i x u hx hu⟩
end
end Go.Proofs.Ytpeefeioccglcaa
