/- Contracts in values; a function's beginning and end; calls; loops. -/
import Derived.Test.YtpeefeioccglcaaTabs
set_option linter.unusedSimpArgs false
set_option linter.unusedVariables false
namespace Go.Proofs.Ytpeefeioccglcaa
open Go Go.RowKit
/-- Do pointers and tokens keep below these numbers? -/
def low (nb nr : Nat) : Nat → AV → Bool
  | _, .v _ => true
  | _, .ba _ => true
  | _, .ref _ _ => true
  | _, .bs _ none => true
  | _, .bs _ (some k) => decide (k < nr)
  | _, .bc _ _ none => true
  | _, .bc _ _ (some k) => decide (k < nb)
  | _, .sl _ _ none => true
  | _, .sl _ _ (some k) => decide (k < nr)
  | _, .ptr i _ => decide (i < nb)
  | _, .pti i _ _ => decide (i < nb)
  | _, .win i _ _ _ => decide (i < nb)
  | d + 1, .st fs => fs.all (low nb nr d)
  | d + 1, .tup fs => fs.all (low nb nr d)
  | _, .any => true
  | _, _ => false
def Gh.cut (g : Gh) (nb nr : Nat) : Gh := ⟨g.ro, g.bx.take nb, g.rw.take nr⟩
section
variable {P : Program} {τ : Tab} {w0 w : World} {N : Gh} {g : Gh} {st st' : St} {nt : Nat} {a : Act} {nb nr : Nat}
theorem take_get {α : Type} {l : List α} {n i : Nat} (h : i < n) : (l.take n)[i]? = l[i]? := by rw [List.getElem?_take, if_pos h]
theorem RC.low_ : ∀ {d : Nat} {T : Ty} {a : AV} {cs : List Value}, RC g T a cs → low nb nr d a = true → RC (g.cut nb nr) T a cs := by
  intro d
  induction d with
  | zero =>
    intro T a cs h hp
    cases h with
    | v h => exact .v h
    | ba h => exact .ba h
    | bs hc hm hr ht => exact .bs hc hm hr fun i hi => by subst hi; simp only [low, decide_eq_true_eq] at hp; obtain ⟨r, h1, h2⟩ := ht i rfl; exact ⟨r, (take_get hp).trans h1, h2⟩
    | sl hc hm F hr hv ht => exact .sl hc hm F hr hv fun i hi => by subst hi; simp only [low, decide_eq_true_eq] at hp; obtain ⟨r, h1, h2⟩ := ht i rfl; exact ⟨r, (take_get hp).trans h1, h2⟩
    | bc hn hm hr ht => exact .bc hn hm hr fun i hi => by subst hi; simp only [low, decide_eq_true_eq] at hp; obtain ⟨r, h1, h2⟩ := ht i rfl; exact ⟨r, (take_get hp).trans h1, h2⟩
    | ref cs h hr => exact .ref cs h hr
    | ptr h ho => simp only [low, decide_eq_true_eq] at hp; exact .ptr ((take_get hp).trans h) ho
    | pti h ho hk => simp only [low, decide_eq_true_eq] at hp; exact .pti ((take_get hp).trans h) ho hk
    | win h ho hn hc hm hA => simp only [low, decide_eq_true_eq] at hp; exact .win ((take_get hp).trans h) ho hn hc hm hA
    | _ => simp [low] at hp
  | succ d ih =>
    intro T a cs h
    have key : ∀ {T : Ty} {cs : List Value} {fs : List AV}, RC g T (.st fs) cs → fs.all (low nb nr d) = true → RC (g.cut nb nr) T (.st fs) cs := by
      intro T
      induction T with
      | cn T Ts _ ihs =>
        intro cs fs h hp
        cases h with
        | cn h hs =>
          simp only [List.all_cons, Bool.and_eq_true] at hp
          exact .cn (ih h hp.1) (ihs hs hp.2)
      | nl => intro cs fs h hp; cases h; exact .nl
      | _ => intro cs fs h hp; cases h
    intro hp
    cases h with
    | v h => exact .v h
    | ba h => exact .ba h
    | bs hc hm hr ht => exact .bs hc hm hr fun i hi => by subst hi; simp only [low, decide_eq_true_eq] at hp; obtain ⟨r, h1, h2⟩ := ht i rfl; exact ⟨r, (take_get hp).trans h1, h2⟩
    | sl hc hm F hr hv ht => exact .sl hc hm F hr hv fun i hi => by subst hi; simp only [low, decide_eq_true_eq] at hp; obtain ⟨r, h1, h2⟩ := ht i rfl; exact ⟨r, (take_get hp).trans h1, h2⟩
    | bc hn hm hr ht => exact .bc hn hm hr fun i hi => by subst hi; simp only [low, decide_eq_true_eq] at hp; obtain ⟨r, h1, h2⟩ := ht i rfl; exact ⟨r, (take_get hp).trans h1, h2⟩
    | ref cs h hr => exact .ref cs h hr
    | ptr h ho => simp only [low, decide_eq_true_eq] at hp; exact .ptr ((take_get hp).trans h) ho
    | pti h ho hk => simp only [low, decide_eq_true_eq] at hp; exact .pti ((take_get hp).trans h) ho hk
    | win h ho hn hc hm hA => simp only [low, decide_eq_true_eq] at hp; exact .win ((take_get hp).trans h) ho hn hc hm hA
    | nl => exact .nl
    | cn h hs => exact key (.cn h hs) hp
theorem RV1.low_ {d : Nat} {a : AV} {v : Value} (h : RV1 g a v) (hp : low nb nr d a = true) : RV1 (g.cut nb nr) a v := by
  rcases h with ⟨T, cs, h1, h2, h3⟩ | h
  · exact .inl ⟨T, cs, h1, h2.low_ hp, h3⟩
  · exact .inr (h.low_ hp)
theorem RV.low_ {d : Nat} {a : AV} {v : Value} (h : RV g a v) (hp : low nb nr (d + 1) a = true) : RV (g.cut nb nr) a v := by
  cases a with
  | any => trivial
  | tup az =>
    obtain ⟨vs, h1, h2, h3⟩ := h
    simp only [low, List.all_eq_true] at hp
    exact ⟨vs, h1, h2, fun i a u ha hu => (h3 i a u ha hu).low_ (hp a (List.mem_of_getElem? ha))⟩
  | _ => exact RV1.low_ (d := d + 1) h hp
/-- Boxes and rows that are done with. -/
theorem Inv.cut (h : Inv P w0 N g st.bx st.fz st.rw w) (hn : N.bx.length ≤ nb) (hm : N.rw.length ≤ nr) (hb : (st.bx.take nb).all (fun x => low nb nr 4 x.2) = true) : Inv P w0 N (g.cut nb nr) (st.bx.take nb) st.fz (st.rw.take nr) w := by
  have hbx : ∀ {i : Nat} {x : Bx}, (g.cut nb nr).bx[i]? = some x → g.bx[i]? = some x := fun {i x} hx => by
    have : (g.bx.take nb)[i]? = some x := hx
    rw [List.getElem?_take] at this; split at this; exact this; cases this
  have hrw : ∀ {i : Nat} {x : Rw}, (g.cut nb nr).rw[i]? = some x → g.rw[i]? = some x := fun {i x} hx => by
    have : (g.rw.take nr)[i]? = some x := hx
    rw [List.getElem?_take] at this; split at this; exact this; cases this
  refine ⟨⟨h.mem.ro, fun i x hx => h.mem.bx i x (hbx hx), fun i x hx => h.mem.rw i x (hrw hx), fun i x hx => h.mem.fro i x (hbx hx), fun i x hx => h.mem.bro i x (hbx hx), fun i j x y hx hy => h.mem.bb i j x y (hbx hx) (hbx hy), fun i r k hr => h.mem.rro i r k (hrw hr), fun i r k hr => h.mem.rwo i r k (hrw hr), fun i j x r hx hr => h.mem.rb i j x r (hbx hx) (hrw hr), fun i j r s k hr hs => h.mem.rr i j r s k (hrw hr) (hrw hs)⟩,
    ⟨h.fr.kept, fun i x hx => h.fr.bx i x (hbx hx), fun i r k hr => h.fr.rw i r k (hrw hr), h.fr.ro, ⟨h.fr.le.ro, fun i x hx => by
      obtain ⟨x', h1, h2⟩ := h.fr.le.bx i x hx
      exact ⟨x', (take_get (Nat.lt_of_lt_of_le (List.getElem?_eq_some_iff.1 hx).1 hn)).trans h1, h2⟩, fun i x hx => by
      obtain ⟨x', h1, h2⟩ := h.fr.le.rw i x hx
      exact ⟨x', (take_get (Nat.lt_of_lt_of_le (List.getElem?_eq_some_iff.1 hx).1 hm)).trans h1, h2⟩⟩⟩, ⟨?_, fun i T a hi => ?_⟩, fun i x hx => h.fz i x (hbx hx), ?_, fun r hr => h.wz r (List.mem_of_mem_take hr)⟩
  · show (g.bx.take nb).length = _; rw [List.length_take, List.length_take, h.br.len]
  · have hi' : st.bx[i]? = some (T, a) := by rw [List.getElem?_take] at hi; split at hi; exact hi; cases hi
    have hlt : i < nb := by rw [List.getElem?_take] at hi; split at hi; assumption; cases hi
    obtain ⟨x, h1, h2, h3⟩ := h.br.at_ i T a hi'
    have hl : low nb nr 4 a = true := by
      rw [List.all_eq_true] at hb
      exact hb (T, a) (List.mem_of_getElem? hi)
    exact ⟨x, (take_get hlt).trans h1, h2, h3.low_ hl⟩
  · show (g.rw.take nr).map _ = _; rw [List.map_take, h.wr]
def keepT (ks : List Nat) (nb nr : Nat) (l : List (Nat × Gd × AV)) : Bool := l.all fun p => !ks.contains p.1 || low nb nr 4 p.2.2
def St.keep (st : St) (ks : List Nat) (nb nr : Nat) : St := ⟨st.t.filter fun p => ks.contains p.1, st.bx.take nb, st.fz, st.rw.take nr⟩
/-- Slots, boxes and rows that are done with. -/
theorem Rel.keep (H : Rel P w0 N nt st a w) (ks : List Nat) (nb nr : Nat) (hM : N.bx.length ≤ nb ∧ N.rw.length ≤ nr) (h1 : keepT ks nb nr st.t = true) (h2 : (st.bx.take nb).all (fun x => low nb nr 4 x.2) = true) : Rel P w0 N nt (st.keep ks nb nr) a w := by
  obtain ⟨g, HI, hF⟩ := H
  refine ⟨g.cut nb nr, HI.cut hM.1 hM.2 h2, hF.sz, hF.df, fun p hp hg => ?_⟩
  simp only [St.keep, List.mem_filter] at hp
  obtain ⟨hp1, hp2⟩ := hp
  simp only [keepT, List.all_eq_true, Bool.or_eq_true, Bool.not_eq_true'] at h1
  have hl : low nb nr 4 p.2.2 = true := by
    rcases h1 p hp1 with h | h
    · rw [h] at hp2; cases hp2
    · exact h
  exact (hF.t p hp1 hg).low_ (d := 3) hl
theorem Rel.cast (H : Rel P w0 N nt st a w) (h : st = st') : Rel P w0 N nt st' a w := h ▸ H
/-- What a function's call comes to. -/
def VPost (P : Program) (w0 : World) (N : Gh) (bx : List (Ty × AV)) (fz : List Nat) (rws : List (TypeId × Nat)) (res : AV) (e : Ending) (w' : World) : Prop :=
  ∃ g v, e = .returned v ∧ Inv P w0 N g bx fz rws w' ∧ RV g res v
def Fok (P : Program) (f : FuncId) : Prop := ∃ fn : Func, P.funcs[f]? = some fn ∧ (fn.name == "runtime.NumGoroutine") = false ∧ fn.body.isNone = false
/-- A contract: boxes and rows that are passed, arguments; boxes and rows behind the call, the result. -/
def VX (P : Program) (f : FuncId) (bx : List (Ty × AV)) (fz : List Nat) (rw : List (TypeId × Nat)) (args : List AV) (bx' : List (Ty × AV)) (fz' : List Nat) (rw' : List (TypeId × Nat)) (res : AV) : Prop :=
  Fok P f ∧ ∀ (w : World) (N : Gh) (vs : List Value), Inv P w N N bx fz rw w → vs.length = args.length → (∀ (i : Nat) x v, args[i]? = some x → vs[i]? = some v → RV N x v) →
    Calls P f vs.toArray w (VPost P w N bx' fz' rw' res)
abbrev VC (P : Program) (f : FuncId) (args : List AV) (rws : List (TypeId × Nat)) (res : AV) : Prop := VX P f [] [] [] args [] [] rws res
def slots : Nat → List AV → List (Nat × Gd × AV)
  | _, [] => []
  | k, x :: l => (k, none, x) :: slots (k + 1) l
theorem slots_mem {p : Nat × Gd × AV} : ∀ {l : List AV} {k : Nat}, p ∈ slots k l → ∃ i, p.1 = k + i ∧ p.2.1 = none ∧ l[i]? = some p.2.2
  | x :: l, k, h => by
    unfold slots at h
    rcases List.mem_cons.1 h with h | h
    · subst h; exact ⟨0, rfl, rfl, rfl⟩
    · obtain ⟨i, h1, h2, h3⟩ := slots_mem h
      exact ⟨i + 1, by omega, h2, h3⟩
theorem v_enter {f : FuncId} {fn : Func} {c : Code} {bx bx' : List (Ty × AV)} {fz fz' : List Nat} {rw rws : List (TypeId × Nat)} {args : List AV} {res : AV} (hf : P.funcs[f]? = some fn) (hb : fn.body = some c) (hnm : (fn.name == "runtime.NumGoroutine") = false) (hn : args.length ≤ fn.ntmps)
    (h : ∀ (N : Gh) (w0 : World) (a : Act) (w : World), N.bx.length ≤ bx.length → N.rw.length ≤ rw.length → Rel P w0 N fn.ntmps ⟨slots 0 args, bx, fz, rw⟩ a w → c.wp P (bodyPost P fn (VPost P w0 N bx' fz' rws res)) a w) : VX P f bx fz rw args bx' fz' rws res := by
  refine ⟨⟨fn, hf, hnm, by rw [hb]; rfl⟩, ?_⟩
  intro w N vs hI hl hv
  refine calls_of_wp hf hb (h N w _ w (by rw [hI.br.len]; exact Nat.le_refl _) (by rw [← hI.wr, List.length_map]; exact Nat.le_refl _) ⟨N, hI, ?_, rfl, fun p hp _ => ?_⟩)
  · simp only [Array.size_append, List.size_toArray, Array.size_replicate, hl]; omega
  · obtain ⟨i, h1, h2, h3⟩ := slots_mem hp
    have hi : i < vs.length := by rw [hl]; exact (List.getElem?_eq_some_iff.1 h3).1
    have := hv i p.2.2 vs[i] h3 (List.getElem?_eq_getElem hi)
    rw [h1, Nat.zero_add]
    have e : (vs.toArray ++ Array.replicate (fn.ntmps - vs.toArray.size) undef).getD i undef = vs[i] := by
      rw [Array.getD_eq_getD_getElem?, Array.getElem?_append_left (by simpa using hi)]; simp [hi]
    exact e ▸ this
theorem min_ex {p : Nat → Prop} (h : ∃ n, p n) : ∃ m, p m ∧ ∀ k, p k → m ≤ k := by
  obtain ⟨n, hn⟩ := h
  induction n using Nat.strongRecOn with
  | _ n ih =>
    by_cases hk : ∃ k, k < n ∧ p k
    · obtain ⟨k, h1, h2⟩ := hk; exact ih k h1 h2
    · exact ⟨n, hn, fun k hp => Nat.le_of_not_lt fun hlt => hk ⟨k, hlt, hp⟩⟩
/-- A loop, by a family of states. -/
theorem v_loop {ι : Type} {c : Code} {Q : Exit → Act → World → Prop} (F : ι → St) (C : ι → Prop) (μ : ι → Nat) (i0 : ι) (h0 : C i0) (H : Rel P w0 N nt (F i0) a w)
    (round : ∀ i a w, C i → Rel P w0 N nt (F i) a w → c.wp P (Exit.then (fun a' w' => ∃ i', C i' ∧ μ i' < μ i ∧ Rel P w0 N nt (F i') a' w') Q) a w) : (Code.loop c).wp P Q a w := by
  have hp : ∀ a w, (∃ i, C i ∧ Rel P w0 N nt (F i) a w) → ∃ m, (∃ i, (C i ∧ Rel P w0 N nt (F i) a w) ∧ μ i = m) ∧ ∀ k, (∃ i, (C i ∧ Rel P w0 N nt (F i) a w) ∧ μ i = k) → m ≤ k := fun a w ⟨i, hi⟩ => min_ex ⟨_, i, hi, rfl⟩
  obtain ⟨m, hm⟩ : ∃ m : Act → World → Nat, ∀ a w, (∃ i, C i ∧ Rel P w0 N nt (F i) a w) → (∃ i, (C i ∧ Rel P w0 N nt (F i) a w) ∧ μ i = m a w) ∧ ∀ k, (∃ i, (C i ∧ Rel P w0 N nt (F i) a w) ∧ μ i = k) → m a w ≤ k := by
    classical
    refine ⟨fun a w => if h : ∃ i, C i ∧ Rel P w0 N nt (F i) a w then Classical.choose (hp a w h) else 0, fun a w h => ?_⟩
    have := Classical.choose_spec (hp a w h)
    simp only [dif_pos h]
    exact this
  refine wp_loop (fun a w => ∃ i, C i ∧ Rel P w0 N nt (F i) a w) m ⟨i0, h0, H⟩ fun a w hi => ?_
  obtain ⟨⟨i, hi', hmi⟩, _⟩ := hm a w hi
  refine Code.wp_mono (fun e a' w' q => ?_) (round i a w hi'.1 hi'.2)
  cases e with
  | normal => obtain ⟨i', h1, h2, h3⟩ := q; exact ⟨⟨i', h1, h3⟩, by have := (hm a' w' ⟨i', h1, h3⟩).2 _ ⟨i', ⟨h1, h3⟩, rfl⟩; omega⟩
  | _ => exact q
def SubT : List (Nat × Gd × AV) → List (Nat × Gd × AV) → Prop
  | [], _ => True
  | (k, gd, x) :: l, t => find k t = some (gd, x) ∧ SubT l t
theorem SubT.mem {p : Nat × Gd × AV} {t : List (Nat × Gd × AV)} : ∀ {l : List (Nat × Gd × AV)}, SubT l t → p ∈ l → p ∈ t
  | (k, gd, x) :: l, h, hp => by
    rcases List.mem_cons.1 hp with hp | hp
    · subst hp; exact find_mem h.1
    · exact SubT.mem h.2 hp
/-- What is still needed of a state. -/
theorem Rel.to (H : Rel P w0 N nt st a w) (nb nr : Nat) (hM : N.bx.length ≤ nb ∧ N.rw.length ≤ nr) {t2 : List (Nat × Gd × AV)} {bx2 : List (Ty × AV)} {rw2 : List (TypeId × Nat)} {fz2 : List Nat} (hs : SubT t2 st.t) (hb : st.bx.take nb = bx2) (hr : st.rw.take nr = rw2) (hf : st.fz = fz2) (h1 : t2.all (fun p => low nb nr 4 p.2.2) = true) (h2 : bx2.all (fun x => low nb nr 4 x.2) = true) :
    Rel P w0 N nt ⟨t2, bx2, fz2, rw2⟩ a w := by
  subst hb hr hf
  obtain ⟨g, HI, hF⟩ := H
  refine ⟨g.cut nb nr, HI.cut hM.1 hM.2 h2, hF.sz, hF.df, fun p hp hg => ?_⟩
  exact (hF.t p (hs.mem hp) hg).low_ (d := 3) (List.all_eq_true.1 h1 p hp)
end
end Go.Proofs.Ytpeefeioccglcaa
