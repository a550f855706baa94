/- Rows of slices turned round in place; regions in every order of their loud operations. -/
import Derived.Test.YtigmpdhnhkdeiaaLess
import Derived.Shelf.SlicesE.Reverse
import Derived.Test.YtigmpdhnhkdeiaaBits
import Derived.Test.YtigmpdhnhkdeiaaRows
import Derived.OpenShut
import Derived.Carry
import Derived.WalkKit
import Derived.ProofKit
import Derived.JoinedCond
set_option linter.unusedSimpArgs false
set_option linter.unusedVariables false
namespace Go.Proofs.Ytigmpdhnhkdeiaa
open Go Go.RowKit
abbrev OneV := { v : Value // v.oneCell' = true }
instance : Inhabited OneV := ⟨⟨.bool false, rfl⟩⟩
end Go.Proofs.Ytigmpdhnhkdeiaa
namespace Go.Proofs.Ytigmpdhnhkdeiaa
open Go Go.RowKit
/-- Values that lean on no cell but bytes. -/
def leafA : AV → Bool
  | .v _ => true
  | .ba _ => true
  | .bs _ none => true
  | .bc _ _ none => true
  | .ptr _ _ => true
  | .pti _ _ _ => true
  | .win _ _ _ _ => true
  | .vw _ _ _ => true
  | .pv _ _ _ _ => true
  | .mr _ => true
  | .ref (.ba _) (.ba _) => true
  | .any => true
  | _ => false
def plainA : Nat → AV → Bool
  | d + 1, .st fs => fs.all (plainA d)
  | d + 1, .tup fs => fs.all (plainA d)
  | _, a => leafA a
theorem RC.plain {g g2 : Gh} (hro : ∀ b o c, g.ro b o = some (B8 c) → g2.ro b o = some (B8 c)) (hbx : g2.bx = g.bx) : ∀ {d : Nat} {T : Ty} {a : AV} {cs : List Value}, RC g T a cs → plainA d a = true → RC g2 T a cs := by
  intro d
  have leaf : ∀ {T : Ty} {a : AV} {cs : List Value}, RC g T a cs → leafA a = true → RC g2 T a cs := by
    intro T a cs h hp
    cases h with
    | v h => exact .v h
    | ba h => exact .ba h
    | nl => simp [leafA] at hp
    | cn h hs => simp [leafA] at hp
    | bs hc hm hr ht =>
      rename_i l tok A c
      cases tok with
      | some j => simp [leafA] at hp
      | none =>
        refine .bs hc hm ?_ fun i hi => by cases hi
        rcases hr with h | ⟨b, o, hA, hj⟩
        · exact .inl h
        · exact .inr ⟨b, o, hA, fun j hj' => hro _ _ _ (hj j hj')⟩
    | sl hc hm F hr hv ht => simp [leafA] at hp
    | ptr h ho => exact .ptr (by rw [hbx]; exact h) ho
    | pti h ho hk => exact .pti (by rw [hbx]; exact h) ho hk
    | win h ho hn hc hm hA => exact .win (by rw [hbx]; exact h) ho hn hc hm hA
    | vw h hT hg hn hm hx => exact .vw (by rw [hbx]; exact h) hT hg hn hm hx
    | pv h hT hg ho hx => exact .pv (by rw [hbx]; exact h) hT hg ho hx
    | mr h hT => exact .mr (by rw [hbx]; exact h) hT
    | slc hn hm F hr hv => simp [leafA] at hp
    | vwc h hk => simp [leafA] at hp
    | bc hn hm hr ht =>
      rename_i l n tok A
      cases tok with
      | some j => simp [leafA] at hp
      | none =>
        refine .bc hn hm ?_ fun i hi => by cases hi
        rcases hr with h | ⟨b, o, hA, hj⟩
        · exact .inl h
        · exact .inr ⟨b, o, hA, fun j hj' => hro _ _ _ (hj j hj')⟩
    | ref cs h hr =>
      cases h with
      | ba h =>
        rename_i n l
        refine .ref (l.map B8) (.ba h) fun j u hu => ?_
        have := hr j u hu
        simp only [List.getElem?_map, Option.map_eq_some_iff] at hu
        obtain ⟨c, _, rfl⟩ := hu
        exact hro _ _ _ this
      | _ => simp [leafA] at hp
  induction d with
  | zero => exact fun {T a cs} h hp => leaf h (by cases a <;> exact hp)
  | succ d ih =>
    intro T a cs h hp
    have key : ∀ {T : Ty} {cs : List Value} {fs : List AV}, RC g T (.st fs) cs → fs.all (plainA d) = true → RC g2 T (.st fs) cs := by
      intro T
      induction T with
      | cn T Ts _ ihs =>
        intro cs fs h hp
        cases h with
        | cn h hs =>
          simp only [List.all_cons, Bool.and_eq_true] at hp
          exact .cn (ih h hp.1) (ihs hs hp.2)
      | nl => intro cs fs h hp; cases h; exact .nl
      | _ => intro cs fs h hp; cases h
    cases a with
    | st fs => exact key h hp
    | tup fs => cases h
    | _ =>
      exact leaf h hp
theorem BC.plain {g g2 : Gh} (hro : ∀ b o c, g.ro b o = some (B8 c) → g2.ro b o = some (B8 c)) (hbx : g2.bx = g.bx) {d : Nat} {T : Ty} {a : AV} {x : Bx} (h : BC g T a x) (hp : plainA d a = true) : BC g2 T a x := by
  obtain ⟨h1, h2, h3⟩ := h.rc_of (fun _ _ e => by subst e; cases d <;> simp [plainA, leafA] at hp) (fun _ _ e => by subst e; cases d <;> simp [plainA, leafA] at hp) (fun _ _ e => by subst e; cases d <;> simp [plainA, leafA] at hp)
  exact .pl (h3.plain hro hbx hp) h1 h2
theorem RV.plain {g g2 : Gh} (hro : ∀ b o c, g.ro b o = some (B8 c) → g2.ro b o = some (B8 c)) (hbx : g2.bx = g.bx) {d : Nat} {a : AV} {u : Value} (h : RV g a u) (hp : plainA (d + 1) a = true) : RV g2 a u := by
  have one : ∀ {d : Nat} {a : AV} {u : Value}, RV1 g a u → plainA d a = true → RV1 g2 a u := fun {d a u} h hp => by
    rcases h with ⟨T, cs, h1, h2, h3⟩ | h
    · exact .inl ⟨T, cs, h1, h2.plain hro hbx hp, h3⟩
    · exact .inr (h.plain hro hbx hp)
  cases a with
  | any => trivial
  | tup az =>
    obtain ⟨vs, h1, h2, h3⟩ := h
    exact ⟨vs, h1, h2, fun i a u ha hu => one (h3 i a u ha hu) (List.all_eq_true.1 hp a (List.mem_of_getElem? ha))⟩
  | _ => exact (one (show RV1 g _ u from h) hp).rv
end Go.Proofs.Ytigmpdhnhkdeiaa
namespace Go.Proofs.Ytigmpdhnhkdeiaa
open Go
section
variable {P : Program} {ops : Array Oper} {Q : Exit → Act → World → Prop} {S : World → Prop} {L A : List Nat}
/-- Where an operation stands in an order of one's own. -/
def rk (ord : List Nat) (i : Nat) : Nat := ord.idxOf i
def chkO (ops : Array Oper) (ord : List Nat) : Bool :=
  ord.length == ops.size && ord.all (fun i => decide (i < ops.size)) && (List.range ops.size).all (fun i => ord.contains i) && (List.range ord.length).all (fun p => match ord[p]? with | some x => rk ord x == p | none => false) &&
    (List.range ops.size).all fun j => (match ops[j]? with | some o => o.after.all fun e => !Region.binds .any e || decide (rk ord e.on < rk ord j) | none => true)
structure OrdOk (ops : Array Oper) (ord : List Nat) : Prop where
  len : ord.length = ops.size
  lt : ∀ i ∈ ord, i < ops.size
  mem : ∀ i, i < ops.size → i ∈ ord
  pos : ∀ p (h : p < ord.length), rk ord ord[p] = p
  edge : ∀ j o, ops[j]? = some o → ∀ e ∈ o.after, Region.binds .any e = true → rk ord e.on < rk ord j
theorem chkO_ok {ops : Array Oper} {ord : List Nat} (h : chkO ops ord = true) : OrdOk ops ord := by
  simp only [chkO, Bool.and_eq_true, beq_iff_eq, List.all_eq_true, decide_eq_true_eq, List.mem_range, List.contains_eq_mem] at h
  obtain ⟨⟨⟨⟨h1, h2⟩, h3⟩, h4⟩, h5⟩ := h
  refine ⟨h1, h2, h3, fun p hp => ?_, fun j o hj e he hb => ?_⟩
  · have := h4 p hp; rw [List.getElem?_eq_getElem hp] at this; simpa using this
  · have := h5 j (Array.getElem?_eq_some_iff.1 hj).1
    rw [hj] at this
    have := (Array.all_eq_true_iff_forall_mem.1 this) e he
    simpa [hb] using this
theorem OrdOk.inj {ops : Array Oper} {ord : List Nat} (h : OrdOk ops ord) {i j : Nat} (hi : i < ops.size) (hj : j < ops.size) (e : rk ord i = rk ord j) : i = j := by
  have h1 := List.getElem_idxOf (List.idxOf_lt_length_of_mem (h.mem i hi))
  have h2 := List.getElem_idxOf (List.idxOf_lt_length_of_mem (h.mem j hj))
  unfold rk at e
  rw [← h1, ← h2]
  simp only [e]
def chkZ (ops : Array Oper) (pre : Array Nat) (ord L A : List Nat) : Bool :=
  (List.range ops.size).all fun j => (List.range ops.size).all fun i => !decide (rk ord i < rk ord j) || ((pre.getD j 0).testBit i || (!(L.contains i && L.contains j) && (!L.contains j || A.contains i) && (!L.contains i || A.contains j)) ||
    (L.contains i && L.contains j && (match ops[j]? with | some o => o.after.all fun e => !Region.binds .any e || (decide (rk ord e.on < rk ord i) || L.contains e.on) | none => true)))
/-- Two that wait for nothing: they change places, or both are loud and the later one waits for nothing but what stands ahead of the other. -/
theorem pair_Z {pre : Array Nat} {ord : List Nat} (hf : Fine ops pre [] []) (hz : chkZ ops pre ord L A = true) {listed : Array Bool} (hd : Down ops listed) {i j : Nat} (hi : i ∈ Region.ready .any ops listed) (hj : j ∈ Region.ready .any ops listed) (hij : rk ord i < rk ord j) :
    ∃ oi oj, ops[i]? = some oi ∧ ops[j]? = some oj ∧ oi.apart ops oj = true ∧ oj.apart ops oi = true ∧
      ((¬ (L.contains i = true ∧ L.contains j = true) ∧ (L.contains j = true → A.contains i = true) ∧ (L.contains i = true → A.contains j = true)) ∨
       (L.contains i = true ∧ L.contains j = true ∧ ∀ e ∈ oj.after, Region.binds .any e = true → rk ord e.on < rk ord i ∨ L.contains e.on = true)) := by
  obtain ⟨oi, oj, hoi, hoj, g1, g2, _⟩ := pair_of_ready hf hd hi hj (by rintro rfl; omega)
  refine ⟨oi, oj, hoi, hoj, g1, g2, ?_⟩
  have unl : ∀ k, listed.getD k true = false → listed.getD k false = true → False := by
    intro k h1 h2
    rcases Nat.lt_or_ge k listed.size with h' | h'
    · simp [h'] at h1 h2; rw [h1] at h2; cases h2
    · simp [Array.getElem?_eq_none h'] at h1
  obtain ⟨hiu, _⟩ := mem_ready.1 hi
  obtain ⟨_, oj', hoj', hallj⟩ := mem_ready.1 hj
  rw [hoj] at hoj'; injection hoj' with hoj'; subst hoj'
  have nij : (pre.getD j 0).testBit i = false := by
    cases ht : (pre.getD j 0).testBit i
    · rfl
    · exact (unl i hiu (pre_listed hf hd j oj hoj hallj i ht)).elim
  simp only [chkZ, List.all_eq_true, List.mem_range] at hz
  have h1 := hz j (Array.getElem?_eq_some_iff.1 hoj).1 i (Array.getElem?_eq_some_iff.1 hoi).1
  rw [nij, hoj, decide_eq_true hij] at h1
  simp only [Bool.not_true, Bool.false_or, Bool.or_eq_true, Bool.and_eq_true] at h1
  rcases h1 with ⟨⟨g1, g2⟩, g3⟩ | ⟨⟨g1, g2⟩, g3⟩
  · refine .inl ⟨fun ⟨x, y⟩ => ?_, fun x => ?_, fun x => ?_⟩
    · rw [x, y] at g1; cases g1
    · rw [x] at g2; simpa using g2
    · rw [x] at g3; simpa using g3
  · refine .inr ⟨g1, g2, fun e he hb => ?_⟩
    have := (Array.all_eq_true_iff_forall_mem.1 g3) e he
    simpa [hb] using this
theorem tOp_all {ι : Type} {p : ι → Prop} {j : Nat} {oj : Oper} {a : Act} {w : World} {K : ι → Act → World → Prop} (hi : ops[j]? = some oj) (hL : ¬ L.contains j = true) (hA : A.contains j = true) (hS : S w) (m0 : ι) (h0 : p m0) (h : ∀ m, p m → tOp P ops S L A j (K m) a w) :
    tOp P ops S L A j (fun a w => ∀ m, p m → K m a w) a w := by
  have h1 := h m0 h0
  unfold tOp at h1 ⊢
  simp only [hi] at h1 ⊢
  by_cases hw : Region.wanted oj (yielded ops a.tmps) = true
  · rw [if_pos hw, if_neg hL] at h1 ⊢
    obtain ⟨v, e1, e2, _⟩ := h1
    refine ⟨v, e1, e2, fun m hm => ?_⟩
    have h2 := h m hm
    unfold tOp at h2
    simp only [hi] at h2
    rw [if_pos hw, if_neg hL] at h2
    obtain ⟨u, f1, f2, f3⟩ := h2
    have := Vr.uniq (e2 hA w hS) (f2 hA w hS)
    subst this
    exact f3
  · rw [if_neg hw] at h1 ⊢
    intro m hm
    have h2 := h m hm
    unfold tOp at h2
    simp only [hi] at h2
    rw [if_neg hw] at h2
    exact h2
/-- A quiet operation at the head: it may come up now. -/
theorem ready_lt {listed : Array Bool} {i : Nat} (h : i ∈ Region.ready .any ops listed) : i < ops.size := by
  obtain ⟨_, o, h, _⟩ := mem_ready.1 h; exact (Array.getElem?_eq_some_iff.1 h).1
theorem tAny_quiet {pre : Array Nat} {ord : List Nat} (ho : OrdOk ops ord) (hf : Fine ops pre [] []) (hz : chkZ ops pre ord L A = true) {i : Nat} (hL : ¬ L.contains i = true) : ∀ (fuel : Nat) (listed : Array Bool) (a : Act) (w : World), Down ops listed → i ∈ Region.ready .any ops listed → S w →
    tOp P ops S L A i (tAny P ops Q S L A fuel (listed.setIfInBounds i true)) a w → tAny P ops Q S L A (fuel + 1) listed a w := by
  intro fuel
  induction fuel with
  | zero =>
    intro listed a w hd hr hS H
    refine ⟨fun h => (by rw [h] at hr; cases hr), fun j hj => ?_⟩
    by_cases hji : j = i
    · subst hji; exact H
    · have := ready_mono hj hji
      obtain ⟨a', w', h⟩ := tOp_some H
      rw [h.1] at this
      cases this
  | succ fuel ih =>
    intro listed a w hd hr hS H
    refine ⟨fun h => (by rw [h] at hr; cases hr), fun j hj => ?_⟩
    by_cases hji : j = i
    · subst hji; exact H
    · have hp : ∃ oi oj, ops[i]? = some oi ∧ ops[j]? = some oj ∧ oi.apart ops oj = true ∧ oj.apart ops oi = true ∧ ¬ (L.contains i = true ∧ L.contains j = true) ∧ (L.contains j = true → A.contains i = true) ∧ (L.contains i = true → A.contains j = true) := by
        rcases Nat.lt_or_gt_of_ne (fun e => hji (ho.inj (ready_lt hj) (ready_lt hr) e)) with h | h
        · obtain ⟨oj, oi, hoj, hoi, g1, g2, g3⟩ := pair_Z hf hz hd hj hr h
          rcases g3 with ⟨k1, k2, k3⟩ | ⟨_, k, _⟩
          · exact ⟨oi, oj, hoi, hoj, g2, g1, fun ⟨x, y⟩ => k1 ⟨y, x⟩, k3, k2⟩
          · exact absurd k hL
        · obtain ⟨oi, oj, hoi, hoj, g1, g2, g3⟩ := pair_Z hf hz hd hr hj h
          rcases g3 with ⟨k1, k2, k3⟩ | ⟨k, _⟩
          · exact ⟨oi, oj, hoi, hoj, g1, g2, k1, k2, k3⟩
          · exact absurd k hL
      obtain ⟨oi, oj, hoi, hoj, g1, g2, g3, g4, g5⟩ := hp
      have H2 : tOp P ops S L A i (tOp P ops S L A j (tAny P ops Q S L A fuel ((listed.setIfInBounds i true).setIfInBounds j true))) a w :=
        tOp_mono hS (fun a w _ h => h.2 j (ready_mono hj hji)) H
      have H3 := tOp_swap hoi hoj g1 g2 (fun cs b => hf.sel i oi cs b hoi) (fun cs b => hf.sel j oj cs b hoj) g3 g4 g5 hS H2
      refine tOp_mono hS (fun a' w' _ h => ?_) H3
      refine ih (listed.setIfInBounds j true) a' w' (down_set hd hj) (ready_mono hr (Ne.symm hji)) h.1 ?_
      rw [Array.setIfInBounds_comm _ _ hji]
      exact h.2
/-- A loud operation at the head: whichever loud one comes up first. -/
theorem tAny_loud {pre : Array Nat} {ord : List Nat} (ho : OrdOk ops ord) (hf : Fine ops pre [] []) (hz : chkZ ops pre ord L A = true) {i : Nat} (hL : L.contains i = true) : ∀ (fuel : Nat) (listed : Array Bool) (a : Act) (w : World), Down ops listed → (∀ j, j < ops.size → rk ord j < rk ord i → listed.getD j false = true) → i ∈ Region.ready .any ops listed → S w →
    (∀ m, (m ∈ Region.ready .any ops listed ∧ L.contains m = true) → tOp P ops S L A m (tAny P ops Q S L A fuel (listed.setIfInBounds m true)) a w) → tAny P ops Q S L A (fuel + 1) listed a w := by
  intro fuel
  induction fuel with
  | zero =>
    intro listed a w hd hlow hr hS H
    refine ⟨fun h => (by rw [h] at hr; cases hr), fun j hj => ?_⟩
    by_cases hji : j = i
    · subst hji; exact H j ⟨hj, hL⟩
    · have := ready_mono hj hji
      obtain ⟨a', w', h⟩ := tOp_some (H i ⟨hr, hL⟩)
      rw [h.1] at this
      cases this
  | succ fuel ih =>
    intro listed a w hd hlow hr hS H
    refine ⟨fun h => (by rw [h] at hr; cases hr), fun j hj => ?_⟩
    by_cases hLj : L.contains j = true
    · exact H j ⟨hj, hLj⟩
    · have hall : ∀ m, (m ∈ Region.ready .any ops listed ∧ L.contains m = true) → ∃ om oj, ops[m]? = some om ∧ ops[j]? = some oj ∧ om.apart ops oj = true ∧ oj.apart ops om = true ∧ A.contains j = true := fun m hm => by
        have hmj : m ≠ j := fun e => hLj (e ▸ hm.2)
        rcases Nat.lt_or_gt_of_ne (fun e => hmj (ho.inj (ready_lt hm.1) (ready_lt hj) e)) with h | h
        · obtain ⟨om, oj, k1, k2, k3, k4, k5⟩ := pair_Z hf hz hd hm.1 hj h
          rcases k5 with ⟨_, _, k7⟩ | ⟨_, k, _⟩
          · exact ⟨om, oj, k1, k2, k3, k4, k7 hm.2⟩
          · exact absurd k hLj
        · obtain ⟨oj, om, k1, k2, k3, k4, k5⟩ := pair_Z hf hz hd hj hm.1 h
          rcases k5 with ⟨_, k6, _⟩ | ⟨k, _⟩
          · exact ⟨om, oj, k2, k1, k4, k3, k6 hm.2⟩
          · exact absurd k hLj
      obtain ⟨_, oj, _, hoj, _, _, hAj⟩ := hall i ⟨hr, hL⟩
      have B : ∀ m, (m ∈ Region.ready .any ops listed ∧ L.contains m = true) → tOp P ops S L A j (fun a w => S w ∧ tOp P ops S L A m (tAny P ops Q S L A fuel ((listed.setIfInBounds m true).setIfInBounds j true)) a w) a w := fun m hm => by
        have hmj : j ≠ m := fun e => hLj (e ▸ hm.2)
        obtain ⟨om, oj', hom, hoj', g1, g2, _⟩ := hall m hm
        rw [hoj] at hoj'; injection hoj' with hoj'; subst hoj'
        have H2 : tOp P ops S L A m (tOp P ops S L A j (tAny P ops Q S L A fuel ((listed.setIfInBounds m true).setIfInBounds j true))) a w :=
          tOp_mono hS (fun a w _ h => h.2 j (ready_mono hj hmj)) (H m hm)
        exact tOp_swap hom hoj g1 g2 (fun cs b => hf.sel m om cs b hom) (fun cs b => hf.sel j oj cs b hoj) (fun ⟨_, y⟩ => hLj y) (fun y => absurd y hLj) (fun _ => hAj) hS H2
      refine tOp_mono hS (fun a' w' hS' h => ?_) (tOp_all hoj hLj hAj hS i ⟨hr, hL⟩ B)
      have hji : j ≠ i := fun e => hLj (e ▸ hL)
      refine ih (listed.setIfInBounds j true) a' w' (down_set hd hj) (fun k hks hk => by
        by_cases e : j = k
        · subst e; exact getD_set_true (hlow _ hks hk)
        · rw [getD_set_ne false e]; exact hlow k hks hk) (ready_mono hr (Ne.symm hji)) hS' fun m hm => ?_
      have hmj : j ≠ m := fun e => hLj (e ▸ hm.2)
      have hmr : m ∈ Region.ready .any ops listed := by
        by_cases hmi : m = i
        · subst hmi; exact hr
        · have hd' := down_set hd hj
          have hri := ready_mono hr (Ne.symm hji)
          rcases Nat.lt_or_gt_of_ne (fun e => hmi (ho.inj (ready_lt hm.1) (ready_lt hr) e)) with h | h
          · exfalso
            refine unlisted hm.1 ?_
            rw [getD_set_ne false hmj]
            exact hlow m (ready_lt hm.1) h
          · obtain ⟨_, om, _, hom, _, _, k5⟩ := pair_Z hf hz hd' hri hm.1 h
            rcases k5 with ⟨k, _⟩ | ⟨_, _, k⟩
            · exact absurd ⟨hL, hm.2⟩ k
            · obtain ⟨q1, om', q2, _⟩ := mem_ready.1 hm.1
              rw [hom] at q2; injection q2 with q2; subst q2
              rw [getD_set_ne true hmj] at q1
              obtain ⟨_, om', q3, q4⟩ := mem_ready.1 hm.1
              rw [hom] at q3; injection q3 with q3; subst q3
              refine mem_ready.2 ⟨q1, om, hom, fun e he hb => ?_⟩
              rcases k e he hb with k | k
              · exact hlow _ (Nat.lt_trans (hf.edge m _ hom e he hb) (ready_lt hm.1)) k
              · have q5 := q4 e he hb
                have hne : j ≠ e.on := fun hh => hLj (hh ▸ k)
                rwa [getD_set_ne _ hne] at q5
      rw [Array.setIfInBounds_comm _ _ hmj]
      exact (h m ⟨hmr, hm.2⟩).2
/-- Which loud operations may come up ahead of i: (i, m) in U; but not as long as one is open that m waits for: (m + 1000, j) in U. -/
def altZ (U : List (Nat × Nat)) (i : Nat) (rest : List Nat) : List Nat := rest.filter fun m => U.contains (i, m) && rest.all fun j => !U.contains (m + 1000, j)
/-- The walk in every order of the loud operations; U: those pairs that wait for nothing. -/
def wpZ (P : Program) (ops : Array Oper) (Q : Exit → Act → World → Prop) (S : World → Prop) (L A : List Nat) (U : List (Nat × Nat)) : Nat → List Nat → Act → World → Prop
  | 0, _, a, w => Q .normal a w
  | _ + 1, [], a, w => Q .normal a w
  | n + 1, i :: rest, a, w => if L.contains i then ∀ m ∈ i :: altZ U i rest, tOp P ops S L A m (wpZ P ops Q S L A U n ((i :: rest).erase m)) a w
      else tOp P ops S L A i (wpZ P ops Q S L A U n rest) a w
def chkU (ops : Array Oper) (pre : Array Nat) (ord L : List Nat) (U : List (Nat × Nat)) : Bool :=
  ((List.range ops.size).all fun j => (List.range ops.size).all fun i => !decide (rk ord i < rk ord j) || (pre.getD j 0).testBit i || !(L.contains i && L.contains j) || U.contains (i, j)) && U.all fun p => decide (p.1 < 1000) || (pre.getD (p.1 - 1000) 0).testBit p.2
theorem wpZ_any {pre : Array Nat} {ord : List Nat} {U : List (Nat × Nat)} (ho : OrdOk ops ord) (hf : Fine ops pre [] []) (hz : chkZ ops pre ord L A = true) (hu : chkU ops pre ord L U = true) : ∀ (n : Nat) (pend : List Nat) (listed : Array Bool) (a : Act) (w : World), pend.length = n → pend.Pairwise (rk ord · < rk ord ·) → (∀ m ∈ pend, m < ops.size) → listed.size = ops.size →
    (∀ i, i < ops.size → ∀ d, listed.getD i d = !pend.contains i) → Down ops listed → S w → wpZ P ops Q S L A U n pend a w → tAny P ops Q S L A n listed a w := by
  intro n
  induction n with
  | zero =>
    intro pend listed a w hl hp hb hsz hli hd hS h
    obtain rfl : pend = [] := List.length_eq_zero_iff.1 hl
    exact tAny_nil (fun i hi d => by rw [hli i hi d]; rfl) h
  | succ n ih =>
    intro pend listed a w hl hp hb hsz hli hd hS h
    match pend, hl with
    | i :: rest, hl =>
      have hl' : rest.length = n := by simpa using hl
      obtain ⟨hp1, hp2⟩ := List.pairwise_cons.1 hp
      have hilt := hb i List.mem_cons_self
      have hlow : ∀ j, j < ops.size → rk ord j < rk ord i → listed.getD j false = true := fun j hjs hj => by
        rw [hli j hjs false]
        simp only [Bool.not_eq_true', List.contains_eq_mem, decide_eq_false_iff_not, List.mem_cons, not_or]
        exact ⟨by rintro rfl; omega, fun e => by have := hp1 j e; omega⟩
      have hri : i ∈ Region.ready .any ops listed := by
        refine mem_ready.2 ⟨by rw [hli i hilt true]; simp, _, Array.getElem?_eq_getElem hilt, fun e he hb => hlow _ (Nat.lt_trans (hf.edge i _ (Array.getElem?_eq_getElem hilt) e he hb) hilt) (ho.edge i _ (Array.getElem?_eq_getElem hilt) e he hb)⟩
      have next : ∀ m, m ∈ Region.ready .any ops listed → m ∈ i :: rest → ∀ a w, S w → wpZ P ops Q S L A U n ((i :: rest).erase m) a w → tAny P ops Q S L A n (listed.setIfInBounds m true) a w := fun m hmr hm a w hS h => by
        refine ih _ _ a w (by rw [List.length_erase_of_mem hm, hl]; rfl) (hp.sublist List.erase_sublist) (fun x hx => hb x (List.mem_of_mem_erase hx)) (by simpa using hsz) (fun x hx d => ?_) (down_set hd hmr) hS h
        have hnd : (i :: rest).Nodup := hp.imp (fun {a b} h => by rintro rfl; omega)
        by_cases e : m = x
        · subst e
          have h1 : (listed.setIfInBounds m true).getD m d = true := by simp [hsz, hx]
          rw [h1]
          simp [List.contains_eq_mem, hnd.mem_erase_iff]
        · rw [getD_set_ne d e, hli x hx d]
          congr 1
          simp only [List.contains_eq_mem, hnd.mem_erase_iff]
          have : x ≠ m := fun h => e h.symm
          simp [this]
      unfold wpZ at h
      by_cases hL : L.contains i = true
      · rw [if_pos hL] at h
        refine tAny_loud ho hf hz hL n listed a w hd hlow hri hS fun m hm => ?_
        have hmp : m ∈ i :: rest := by
          obtain ⟨q1, om, q2, _⟩ := mem_ready.1 hm.1
          have := hli m (Array.getElem?_eq_some_iff.1 q2).1 true
          rw [q1] at this
          have hc : (i :: rest).contains m = true := by
            cases hq : (i :: rest).contains m
            · rw [hq] at this; cases this
            · rfl
          simpa [List.contains_eq_mem] using hc
        have hmc : m ∈ i :: altZ U i rest := by
          rcases List.mem_cons.1 hmp with rfl | hmr
          · exact List.mem_cons_self
          · refine List.mem_cons_of_mem _ (List.mem_filter.2 ⟨hmr, ?_⟩)
            have him := hp1 m hmr
            simp only [chkU, Bool.and_eq_true, List.all_eq_true, List.mem_range] at hu
            obtain ⟨hu, hu2⟩ := hu
            have h1 := hu m (hb m hmp) i hilt
            have h2 : (rest.all fun j => !U.contains (m + 1000, j)) = true := by
              refine List.all_eq_true.2 fun j hj => ?_
              cases hc : U.contains (m + 1000, j) with
              | false => rfl
              | true =>
                have h3 := hu2 (m + 1000, j) (by simpa [List.contains_eq_mem] using hc)
                have h4 : ¬ (m + 1000 < 1000) := by omega
                simp only [h4, decide_false, Bool.false_or, Nat.add_sub_cancel] at h3
                obtain ⟨_, om, hom, hall⟩ := mem_ready.1 hm.1
                have h5 := pre_listed hf hd m om hom hall j h3
                have hjb := hb j (List.mem_cons_of_mem _ hj)
                rw [hli j hjb false] at h5
                simp [List.contains_eq_mem, hj] at h5
            rw [decide_eq_true him] at h1
            obtain ⟨_, om, hom, hall⟩ := mem_ready.1 hm.1
            have hn : (pre.getD m 0).testBit i = false := by
              cases ht : (pre.getD m 0).testBit i
              · rfl
              · exact absurd (pre_listed hf hd m om hom hall i ht) (unlisted hri)
            rw [hn, hL, hm.2] at h1
            have h6 : U.contains (i, m) = true := by simpa using h1
            rw [h6, h2]; rfl
        exact tOp_mono hS (fun a' w' hS' hh => next m hm.1 hmp a' w' hS' hh) (h m hmc)
      · rw [if_neg hL] at h
        refine tAny_quiet ho hf hz hL n listed a w hd hri hS ?_
        refine tOp_mono hS (fun a' w' hS' hh => next i hri List.mem_cons_self a' w' hS' ?_) h
        rw [List.erase_cons_head]
        exact hh
theorem wp_region_Z {id : Nat} {a : Act} {w : World} {l : List Oper} (ord L A : List Nat) (U : List (Nat × Nat)) (S : World → Prop) (hm : P.follows .mixedOrders = true) (hc : chk l.toArray (Region.before l.toArray) [] [] = true) (hoc : chkO l.toArray ord = true) (hz : chkZ l.toArray (Region.before l.toArray) ord L A = true) (hu : chkU l.toArray (Region.before l.toArray) ord L U = true)
    (hS : S w.drew) (h : wpZ P l.toArray Q S L A U l.length ord a w.drew) : (Code.region id l.toArray true).wp P Q a w := by
  refine wp_region_any hm (wpAny_of_tAny (L := L) (A := A) (S := S) _ _ _ _ ?_)
  have hsz : l.toArray.size = l.length := by simp
  have ho := chkO_ok hoc
  have hol : ord.length = l.length := ho.len.trans hsz
  have := wpZ_any (P := P) (Q := Q) (S := S) ho (fine_of_chk hc) hz hu l.length ord (Array.replicate l.toArray.size false) a w.drew hol (List.pairwise_iff_getElem.2 fun i j hi hj hij => by rw [ho.pos i hi, ho.pos j hj]; exact hij) ho.lt (by simp)
    (fun i hi d => by
      have hm := ho.mem i hi
      simp only [Array.getD_eq_getD_getElem?, Array.getElem?_replicate, if_pos hi, List.contains_eq_mem]
      simp [hm])
    (fun j o hj hl => by
      have hjl := (Array.getElem?_eq_some_iff.1 hj).1
      simp only [Array.getD_eq_getD_getElem?, Array.getElem?_replicate, if_pos hjl] at hl
      simp at hl) hS h
  rw [hsz]
  exact this
/-- The next operations, in their order. -/
theorem wpZ_seg {U : List (Nat × Nat)} : ∀ (seg : List Oper) (i n : Nat) (rest : List Nat) (a : Act) (w : World), (∀ j, j < seg.length → L.contains (i + j) = false) → (∀ j, j < seg.length → ops[i + j]? = seg[j]?) → wpT P ops (fun _ a w => wpZ P ops Q S L A U n rest a w) S L A seg i a w →
    wpZ P ops Q S L A U (seg.length + n) (List.range' i seg.length ++ rest) a w
  | [], i, n, rest, a, w, _, _, h => by simpa [wpT] using h
  | o :: seg, i, n, rest, a, w, hL, ho, h => by
    have h0 := hL 0 (by simp)
    have o0 := ho 0 (by simp)
    rw [Nat.add_zero] at h0 o0
    have o0 : ops[i]? = some o := by simpa using o0
    rw [List.length_cons, show seg.length + 1 + n = (seg.length + n) + 1 by omega, List.range'_succ, List.cons_append]
    unfold wpZ
    rw [if_neg (by rw [h0]; exact Bool.false_ne_true)]
    have ih := fun a w hh => wpZ_seg (U := U) seg (i + 1) n rest a w (fun j hj => by have := hL (j + 1) (by simp; omega); rwa [show i + 1 + j = i + (j + 1) by omega]) (fun j hj => by have := ho (j + 1) (by simp; omega); rw [show i + 1 + j = i + (j + 1) by omega, this]; simp) hh
    unfold tOp
    simp only [o0]
    unfold wpT at h
    by_cases hw : Region.wanted o (yielded ops a.tmps) = true
    · rw [if_pos hw, if_neg (by rw [h0]; exact Bool.false_ne_true)] at h ⊢
      obtain ⟨v, e1, e2, e3⟩ := h
      exact ⟨v, e1, e2, ih _ _ e3⟩
    · rw [if_neg hw] at h ⊢
      exact ih _ _ h
theorem wpZ_run {U : List (Nat × Nat)} (k : Nat) {i n n' : Nat} {pend pend' : List Nat} {seg : List Oper} {a : Act} {w : World} (hp : pend = List.range' i k ++ pend') (hn : n = k + n') (hs : (ops.toList.drop i).take k = seg) (hk : seg.length = k) (hL : (List.range' i k).all (fun j => !L.contains j) = true)
    (h : wpT P ops (fun _ a w => wpZ P ops Q S L A U n' pend' a w) S L A seg i a w) : wpZ P ops Q S L A U n pend a w := by
  subst hp hn
  have := wpZ_seg (U := U) seg i n' pend' a w (fun j hj => by
    have := List.all_eq_true.1 hL (i + j) (List.mem_range'_1.2 ⟨by omega, by omega⟩)
    simpa using this) (fun j hj => by
    rw [← hs, List.getElem?_take, if_pos (by omega), List.getElem?_drop, Array.getElem?_toList]) h
  rw [hk] at this
  exact this
theorem wpZ_loud {U : List (Nat × Nat)} {i n : Nat} {rest : List Nat} {a : Act} {w : World} (hL : L.contains i = true) (h : ∀ m ∈ i :: altZ U i rest, tOp P ops S L A m (wpZ P ops Q S L A U n ((i :: rest).erase m)) a w) : wpZ P ops Q S L A U (n + 1) (i :: rest) a w := by
  unfold wpZ; rw [if_pos hL]; exact h
theorem wpZ_pick {U : List (Nat × Nat)} {m n : Nat} {pend pend' : List Nat} {o : Oper} {a : Act} {w : World} (he : pend.erase m = pend') (ho : (ops.toList.drop m).head? = some o) (h : wpT P ops (fun _ a w => wpZ P ops Q S L A U n pend' a w) S L A [o] m a w) : tOp P ops S L A m (wpZ P ops Q S L A U n (pend.erase m)) a w := by
  have ho : ops[m]? = some o := by rw [List.head?_drop, Array.getElem?_toList] at ho; exact ho
  rw [he]; unfold tOp; simp only [ho]; exact h
theorem all1 {p : Nat → Prop} {x : Nat} (h : p x) : ∀ m ∈ [x], p m := fun m hm => by simp at hm; subst hm; exact h
theorem wpZ_nil {U : List (Nat × Nat)} {p : List Nat} {a : Act} {w : World} (h : Q .normal a w) : wpZ P ops Q S L A U 0 p a w := h
theorem wpZ_two {U : List (Nat × Nat)} {i n : Nat} {rest cs : List Nat} {a : Act} {w : World} (hL : L.contains i = true) (hc : altZ U i rest = cs) (h : ∀ m ∈ i :: cs, tOp P ops S L A m (wpZ P ops Q S L A U n ((i :: rest).erase m)) a w) : wpZ P ops Q S L A U (n + 1) (i :: rest) a w := by
  subst hc; exact wpZ_loud hL h
theorem all2 {p : Nat → Prop} {x y : Nat} (h : p x ∧ p y) : ∀ m ∈ [x, y], p m := fun m hm => by
  simp at hm
  rcases hm with rfl | rfl
  · exact h.1
  · exact h.2
theorem all3 {p : Nat → Prop} {x y z : Nat} (h : p x ∧ p y ∧ p z) : ∀ m ∈ [x, y, z], p m := fun m hm => by
  simp at hm
  rcases hm with rfl | rfl | rfl
  · exact h.1
  · exact h.2.1
  · exact h.2.2
end
section
variable {P : Program} {w0 w : World} {N : Gh} {st : St} {nt : Nat} {a : Act}
/-- A region that draws its order, in every order of its loud operations. -/
theorem v_drawZ {id : Nat} {Q : Exit → Act → World → Prop} {l : List Oper} (nb : Nat) (ord L A : List Nat) (U : List (Nat × Nat)) (hm : P.follows .mixedOrders = true) (hchk : chk l.toArray (Region.before l.toArray) [] [] = true) (hoc : chkO l.toArray ord = true) (hz : chkZ l.toArray (Region.before l.toArray) ord L A = true) (hu : chkU l.toArray (Region.before l.toArray) ord L U = true) (H : Rel P w0 N nt st a w)
    (hb : (st.bx.take nb).all (fun x => low nb 0 4 x.2) = true)
    (k : ∀ gS, RelT P w0 N nt gS ⟨st.t.filter fun p => low nb 0 4 p.2.2, st.bx.take nb, st.fz, []⟩ st a w.drew → wpZ P l.toArray Q (Mem gS) L A U l.length ord a w.drew) : (Code.region id l.toArray true).wp P Q a w := by
  obtain ⟨g, HI, hF⟩ := H
  have HI' := HI.drew
  have hc := HI'.loose.cut (nr := 0) (Nat.zero_le _) (Nat.zero_le _) hb
  have hgb : ∀ (i : Nat) x, (g.cut nb 0).bx[i]? = some x → g.bx[i]? = some x := fun i x hx => by
    have : (g.bx.take nb)[i]? = some x := hx
    rw [List.getElem?_take] at this
    split at this
    · exact this
    · cases this
  have hle : (g.cut nb 0).le g := ⟨fun _ _ _ h => h, fun i x hx => ⟨x, hgb i x hx, x.same⟩, fun i r hr => by simp [Gh.cut] at hr⟩
  have hbs : Bs (g.cut nb 0) g := fun i x hx => ⟨x, hgb i x hx, rfl, rfl, rfl, rfl, rfl⟩
  have HT : RelT P w0 N nt (g.cut nb 0) ⟨st.t.filter fun p => low nb 0 4 p.2.2, st.bx.take nb, st.fz, []⟩ st a w.drew :=
    ⟨hc.mem, by simp [Gh.cut], ⟨hF.sz, hF.df, fun p hp hg => by
      simp only [List.mem_filter] at hp
      exact (hF.t p hp.1 hg).low_ (d := 3) hp.2, fun p hp hg => hF.u p (List.mem_filter.1 hp).1 hg⟩, hc.br, g, HI', hF, hle, hbs⟩
  exact wp_region_Z ord L A U (Mem (g.cut nb 0)) hm hchk hoc hz hu HT.mem (k _ HT)
end
end Go.Proofs.Ytigmpdhnhkdeiaa
/- Proofs as bytes: how they are read. -/
namespace Go.Proofs.Ytigmpdhnhkdeiaa
open Go Go.RowKit
theorem encodeP_bad (p : Pf) (hw : p.wf) (h : p.chk ≠ 0) : VC Try.prog 184 [p.av] [] (.tup [.v (.slice none 0 0), errv p.chk]) := by
  have hc := pcheck_v p hw
  have hsl := bas_len p.s
  obtain ⟨h1, h2, h3, h4⟩ := id hw.e
  refine mE Try.func184 ?_; intro N w0 a w hN hR H
  simp only [Pf.av, Nd.av] at H hc
  refine mW ?_; clear H; intro a w H
  refine mCall [] [] (hc) H ?_; clear H; intro a w H; try refine wpList_nil ?_
  refine mW ?_; clear H; intro a w H
  refine mC H (fun hb => ?_) (fun hb => ?_)
  · refine mW ?_; clear H; intro a w H
    refine wp_ret ?_; exact mEnd [] [] [.tmp 2, .tmp 3] [_, _] hN hR H
  · simp at hb; exact absurd hb h
/-- The sides that marks and bytes say, what is left, and whether bytes were lacking. -/
def runS : List Bool → List UInt8 → List (List UInt8) × List UInt8 × Bool
  | [], r => ([], r, false)
  | m :: ms, r => if m = true ∧ r.length < 32 then ([E0], r, true) else ((if m then r.take 32 else E0) :: (runS ms (if m then r.drop 32 else r)).1, (runS ms (if m then r.drop 32 else r)).2)
def marksOf (bits : List UInt8) (n : Nat) : List Bool := (List.range n).map fun i => bitAt (bits.getD (i / 8) 0) (i % 8)
def rdQ (l : List UInt8) : Pf × Bool :=
  if l.length < 2 then (⟨[], .zero⟩, false) else
  if 256 < num 0 (l.take 2) then (⟨[], .zero⟩, false) else
  if (l.drop 2).length < (num 0 (l.take 2) + 7) / 8 then (⟨[], .zero⟩, false) else
  let x := runS (marksOf ((l.drop 2).take ((num 0 (l.take 2) + 7) / 8)) (num 0 (l.take 2))) ((l.drop 2).drop ((num 0 (l.take 2) + 7) / 8))
  if x.2.2 then (⟨x.1, .zero⟩, false) else (⟨x.1, dec x.2.1⟩, decide (decOk x.2.1))
theorem pmarks_len (bits : List UInt8) (n : Nat) : (marksOf bits n).length = n := by simp [marksOf]
theorem marks_drop (bits : List UInt8) (n k : Nat) (hk : k < n) : (marksOf bits n).drop k = bitAt (bits.getD (k / 8) 0) (k % 8) :: (marksOf bits n).drop (k + 1) := by
  rw [List.drop_eq_getElem_cons (by rw [pmarks_len]; exact hk)]
  simp [marksOf]
theorem E0_len : E0.length = 32 := sum_length [0]
theorem runS_w : ∀ (ms : List Bool) (r : List UInt8), ∀ h ∈ (runS ms r).1, h.length = 32
  | [], r => fun h hh => by cases hh
  | m :: ms, r => by
    intro h hh
    unfold runS at hh
    split at hh
    · simp at hh; subst hh; exact E0_len
    · rename_i hc
      rcases List.mem_cons.1 hh with rfl | hh
      · split
        · rename_i hm; rw [List.length_take]; have : ¬ r.length < 32 := fun e => hc ⟨hm, e⟩; omega
        · exact E0_len
      · exact runS_w ms _ h hh
/-- Where the reading stands. -/
structure At (ms : List Bool) (l : List UInt8) (i : Nat × List (List UInt8) × List UInt8 × Bool) : Prop where
  k : i.1 ≤ ms.length
  len : i.2.1.length = i.1
  lr : i.2.2.1.length ≤ l.length
  ok : i.2.2.2 = false → runS ms l = (i.2.1 ++ (runS (ms.drop i.1) i.2.2.1).1, (runS (ms.drop i.1) i.2.2.1).2)
  no : i.2.2.2 = true → runS ms l = (i.2.1, i.2.2.1, true)
theorem at_start (ms : List Bool) (l : List UInt8) : At ms l (0, [], l, false) :=
  ⟨Nat.zero_le _, rfl, Nat.le_refl _, fun _ => rfl, fun h => by cases h⟩
theorem at_next {ms ms' : List Bool} {l r : List UInt8} {k : Nat} {ss : List (List UInt8)} {m : Bool} (h : At ms l (k, ss, r, false)) (hd : ms.drop k = m :: ms.drop (k + 1)) (hk : k < ms.length) (hm : ¬ (m = true ∧ r.length < 32)) :
    At ms l (k + 1, ss ++ [if m then r.take 32 else E0], if m then r.drop 32 else r, false) := by
  refine ⟨hk, by simp [h.len], ?_, fun _ => ?_, fun e => by cases e⟩
  · dsimp only; have := h.lr; dsimp only at this; split <;> simp <;> omega
  · have := h.ok rfl
    dsimp only at this ⊢
    rw [this, hd, runS, if_neg hm]
    simp
theorem at_bad {ms ms' : List Bool} {l r : List UInt8} {k : Nat} {ss : List (List UInt8)} (h : At ms l (k, ss, r, false)) (hd : ms.drop k = true :: ms.drop (k + 1)) (hk : k < ms.length) (hr : r.length < 32) :
    At ms l (k + 1, ss ++ [E0], r, true) := by
  refine ⟨hk, by simp [h.len], h.lr, fun e => (by cases e), fun _ => ?_⟩
  have := h.ok rfl
  dsimp only at this ⊢
  rw [this, hd, runS, if_pos ⟨rfl, hr⟩]
set_option maxRecDepth 20000 in
set_option maxHeartbeats 1000000 in
theorem readPT_main (l : List UInt8) (hl : l.length ≤ 34359730000) (hs : ¬ l.length < 2) (hn : ¬ 256 < num 0 (l.take 2)) (hq : ¬ (l.drop 2).length < (num 0 (l.take 2) + 7) / 8) :
    VC Try.prog 183 [.bs l none] [(50, (rdQ l).1.s.length)] (.tup [.st [.sl (.ba 32) (bas (rdQ l).1.s) (some 0), (rdQ l).1.e.av], .v (.bool (rdQ l).2)]) := by
  rw [rdQ, if_neg hs, if_neg hn, if_neg hq]
  obtain ⟨n, hne⟩ : ∃ n, n = num 0 (l.take 2) := ⟨_, rfl⟩
  rw [← hne] at hn hq ⊢
  dsimp only
  have h1 := newRd_v l (by omega)
  have h2 := u16_ok l (by omega) (by omega)
  rw [← hne] at h2
  obtain ⟨l2, hl2⟩ : ∃ l2, l2 = l.drop 2 := ⟨_, rfl⟩
  have hl2l : l2.length ≤ l.length := by rw [hl2, List.length_drop]; omega
  rw [← hl2] at h2 hq ⊢
  have h3 := take_ok l2 ((n + 7) / 8) (by omega) (by omega)
  obtain ⟨l3, hl3⟩ : ∃ l3, l3 = l2.drop ((n + 7) / 8) := ⟨_, rfl⟩
  obtain ⟨bits, hbits⟩ : ∃ bits, bits = l2.take ((n + 7) / 8) := ⟨_, rfl⟩
  have hl3l : l3.length ≤ l.length := by rw [hl3, List.length_drop]; omega
  have hbl : bits.length = (n + 7) / 8 := by rw [hbits, List.length_take]; omega
  rw [← hl3, ← hbits] at h3 ⊢
  have hb1 := bits_v n (by omega)
  obtain ⟨ms, hms⟩ : ∃ ms, ms = marksOf bits n := ⟨_, rfl⟩
  rw [← hms]
  have hml : ms.length = n := by rw [hms, pmarks_len]
  have hsum := sum_length [0]
  have eE : sum [0] = E0 := rfl
  refine mE Try.func183 ?_; intro N w0 a w hN hR H
  simp only [rdv] at H h1 h2 h3
  refine mW ?_; clear H; intro a w H
  refine mCall [] [] (h1) H ?_; clear H; intro a w H; try refine wpList_nil ?_
  refine mW ?_; clear H; intro a w H
  refine mCall [1] [] (h2) H ?_; clear H; intro a w H; try refine wpList_nil ?_
  refine mW ?_; clear H; intro a w H
  refine mC H (fun hb => ?_) (fun hb => ?_)
  · exfalso; simp at hb; omega
  refine mW ?_; clear H; intro a w H
  refine mCall [] [] (hb1) H ?_; clear H; intro a w H; try refine wpList_nil ?_
  refine mW ?_; clear H; intro a w H
  refine mCall [1] [] (h3) H ?_; clear H; intro a w H; try refine wpList_nil ?_
  refine mW ?_; clear H; intro a w H
  refine mCall [] [] (empty_v) H ?_; clear H; intro a w H; try refine wpList_nil ?_
  refine mW ?_; clear H; intro a w H
  rw [eE] at H hsum
  have H := v_sub H 6 (x := .bs bits (some 0)) (y := .bs bits none) (by simp only [sub]) rfl (fun _ e => by cases e) rfl
  simp only [nilT, reduceIte, Nat.reduceEqDiff] at H
  have H := v_nilX tab_ok H 2 0 50 (j := ti50) (.ba 32) rfl (by decide) rfl rfl
  simp only [List.set_cons_succ, List.set_cons_zero, List.length_cons, List.length_nil, Nat.reduceAdd, List.cons_append, List.nil_append, hz] at H
  refine v_loop (fun i : Nat × List (List UInt8) × List UInt8 × Bool => ⟨[(9, none, .v (.int .i64 (i.1 : Int))), (8, none, .ptr 3 []), (7, none, .ptr 2 []), (6, none, .bs bits none), (5, none, .v (.int .i64 (n : Int))), (4, none, .ptr 1 []), (3, none, .v (.bool false)), (2, none, .ptr 0 [])],
    [(ti68.ty, .st [.v (.slice none 0 0), .st [.v (.int .u8 0), .ba z32, .ba z32, .ba z32, .ba z32]]), (rdT, .st [.v (.bool true), .v (.bool i.2.2.2), .bs i.2.2.1 none]), (ti68.ty, .st [.sl (.ba 32) (bas i.2.1) (some 1), .st [.v (.int .u8 0), .ba z32, .ba z32, .ba z32, .ba z32]]), (.ba 32, .ba E0)], [], [(5, (n + 7) / 8), (50, i.2.1.length)]⟩)
    (At ms l3) (fun i => n - i.1) (0, [], l3, false) (at_start ms l3) (H.to 4 2 ⟨Nat.le_trans hN (by decide), Nat.le_trans hR (by decide)⟩ ⟨rfl, rfl, rfl, rfl, rfl, rfl, rfl, rfl, trivial⟩ rfl rfl rfl rfl rfl) ?_
  clear H
  rintro ⟨k, ss, r, bad⟩ a w hat H
  dsimp only at H
  have hk := hat.k
  have hlr := hat.lr
  have hsl := hat.len
  dsimp only at hk hlr hsl
  have hbd := bad_v bad r
  simp only [rdv] at hbd
  refine mW ?_; clear H; intro a w H
  refine mCallG [1] [] (hbd) H ?_; clear H; intro a w H; try refine wpList_nil ?_
  refine mW ?_; clear H; intro a w H
  refine mC H (fun hb => ?_) (fun hb => ?_)
  · have hb1 : k < n ∧ bad = false := by simpa using hb
    obtain ⟨hkn, rfl⟩ := hb1
    have e8 : ((k : Int) / 8).toNat = k / 8 := by omega
    have e7 : (if ((k : Int) % 8).toNat ≤ 8 then ((k : Int) % 8).toNat else 8) = k % 8 := by split <;> omega
    have hX := And.intro @e8 (@e7)
    have hY := And.intro @e8 (@e7)
    refine mW ?_; clear H; intro a w H
    refine mS ?_; refine mD 2 [] [] H ?_; clear H; intro gS H; refine mT ?_; clear H; intro a w H
    refine v_drawNil H ?_; clear H; intro H
    refine mW ?_; clear H; intro a w H
    rw [and_bit] at H
    have hdr := marks_drop bits n k hkn
    rw [← hms] at hdr
    have hkm : k < ms.length := by omega
    have hbs : bas (ss ++ [E0]) = bas ss ++ [.ba E0] := by simp [bas]
    have hE32 : E0.take 32 = E0 := List.take_of_length_le (by omega)
    have hE33 : E0.drop 32 = [] := List.drop_eq_nil_of_le (by omega)
    have hbl' := bas_len ss
    refine mC H (fun hb => ?_) (fun hb => ?_)
    · rw [hb] at hdr
      replace H := mK [2, 3, 4, 5, 6, 7, 8, 9, 10] 5 2 hN hR H
      by_cases hr : r.length < 32
      · have ht := take_bad r 32 hr
        simp only [rdv] at ht
        refine mS ?_; refine mD 0 [2, 3] [0] H ?_; clear H; intro gS H; refine mT ?_; clear H; intro a w H
        refine mCallT [1] [] (ht) H ?_; clear H; intro a w H
        refine mT ?_; clear H; intro a w H
        refine v_drawNil H ?_; clear H; intro H
        refine mW ?_; clear H; intro a w H
        exact ⟨(k + 1, ss ++ [E0], r, true), at_bad (ms' := ms) hat hdr hkm hr, by dsimp only; omega, H.to 4 2 ⟨Nat.le_trans hN (by decide), Nat.le_trans hR (by decide)⟩ ⟨rfl, rfl, rfl, rfl, rfl, rfl, rfl, rfl, trivial⟩ (by dsimp only; rw [hbs]; rfl) (by dsimp only; rw [List.length_append, hbl']; rfl) rfl rfl rfl⟩
      · have ht := take_ok r 32 (by omega) (by omega)
        simp only [rdv] at ht
        refine mS ?_; refine mD 0 [2, 3] [0] H ?_; clear H; intro gS H; refine mT ?_; clear H; intro a w H
        refine mCallT [1] [] (ht) H ?_; clear H; intro a w H
        refine mT ?_; clear H; intro a w H
        refine v_drawNil H ?_; clear H; intro H
        refine mW ?_; clear H; intro a w H
        have h32 : (r.take 32).length = 32 := by rw [List.length_take]; omega
        have ht2 : (r.take 32).take 32 ++ E0.drop ((r.take 32).take 32).length = r.take 32 := by rw [List.take_of_length_le (Nat.le_of_eq h32), h32, hE33, List.append_nil]
        have hbs2 : bas (ss ++ [r.take 32]) = bas ss ++ [.ba (r.take 32)] := by simp [bas]
        rw [ht2] at H
        exact ⟨(k + 1, ss ++ [r.take 32], r.drop 32, false), at_next (ms' := ms) (m := true) hat hdr hkm (fun h => hr h.2), by dsimp only; omega, H.to 4 2 ⟨Nat.le_trans hN (by decide), Nat.le_trans hR (by decide)⟩ ⟨rfl, rfl, rfl, rfl, rfl, rfl, rfl, rfl, trivial⟩ (by dsimp only; rw [hbs2]; rfl) (by dsimp only; rw [List.length_append, hbl']; rfl) rfl rfl rfl⟩
    · rw [hb] at hdr
      refine mW ?_; clear H; intro a w H
      exact ⟨(k + 1, ss ++ [E0], r, false), at_next (ms' := ms) (m := false) hat hdr hkm (fun h => by cases h.1), by dsimp only; omega, H.to 4 2 ⟨Nat.le_trans hN (by decide), Nat.le_trans hR (by decide)⟩ ⟨rfl, rfl, rfl, rfl, rfl, rfl, rfl, rfl, trivial⟩ (by dsimp only; rw [hbs]; rfl) (by dsimp only; rw [List.length_append, hbl']; rfl) rfl rfl rfl⟩
  · have hbc : bad = true ∨ (bad = false ∧ k = n) := by
      cases bad
      · right; refine ⟨rfl, ?_⟩; simp at hb; omega
      · exact .inl rfl
    have hsum := E0_len
    rcases hbc with rfl | ⟨rfl, rfl⟩
    · have hrun := hat.no rfl
      have h4 := left_v true r
      have h5 := take_was r 0
      have hd := decode_v []
      have hdb : ¬ decOk [] := by simp [decOk]
      have hdl := z32_len
      rw [if_neg hdb, dec_bad hdb] at hd
      simp only [rdv, Nd.av, Nd.zero, if_true] at h4 h5 hd
      dsimp only at hrun
      rw [hrun]
      dsimp only
      rw [if_pos rfl]
      refine mW ?_; clear H; intro a w H
      refine mCall [1] [] (h4) H ?_; clear H; intro a w H; try refine wpList_nil ?_
      refine mW ?_; clear H; intro a w H
      refine mCall [1] [] (h5) H ?_; clear H; intro a w H; try refine wpList_nil ?_
      refine mW ?_; clear H; intro a w H
      refine mCall [] [] (hd) H ?_; clear H; intro a w H; try refine wpList_nil ?_
      refine mW ?_; clear H; intro a w H
      replace H := mK [0, 2, 3, 4, 7, 12] 4 2 hN hR H
      repeat (first | refine wp_seq ?_ | refine wp_block ?_)
      refine v_drawZ 0 [1, 0, 2, 3, 4, 5, 6, 7, 8, 9] [0, 2, 8] [1, 3, 4, 5, 6, 7] [(0, 2)] (by kernel_rfl) (by kernel_rfl) (by kernel_rfl) (by kernel_rfl) (by kernel_rfl) H (by rfl) ?_; clear H; intro gS H; try replace H := ntf H
      refine wpZ_run 1 (i := 1) (n' := 9) (pend' := [0, 2, 3, 4, 5, 6, 7, 8, 9]) (by rfl) (by rfl) (by rfl) (by rfl) (by rfl) ?_
      repeat ((first | refine v_someT 3 tab_ok hN H (by rfl) ctX ?_ | refine v_someT 2 tab_ok hN H (by rfl) ctX ?_ | refine v_someT 1 tab_ok hN H (by rfl) ctX ?_); clear H; intro a w H; replace H := ntf H; simp only [List.drop_succ_cons, List.drop_zero, List.drop_nil])
      refine wpT_nil ?_
      try dsimp only
      refine wpZ_two (cs := [2]) (by rfl) (by rfl) ?_
      refine all2 ?_
      refine ⟨?_, ?_⟩
      focus
        refine wpZ_pick (pend' := [2, 3, 4, 5, 6, 7, 8, 9]) (by rfl) (by rfl) ?_
        repeat ((first | refine v_someT 3 tab_ok hN H (by rfl) ctX ?_ | refine v_someT 2 tab_ok hN H (by rfl) ctX ?_ | refine v_someT 1 tab_ok hN H (by rfl) ctX ?_); clear H; intro a w H; replace H := ntf H; simp only [List.drop_succ_cons, List.drop_zero, List.drop_nil])
        refine wpT_nil ?_
        try dsimp only
        refine wpZ_two (cs := []) (by rfl) (by rfl) ?_
        refine all1 ?_
        refine wpZ_pick (pend' := [3, 4, 5, 6, 7, 8, 9]) (by rfl) (by rfl) ?_
        refine mCallT [1] [] (hbd) H ?_; clear H; intro a w H
        refine wpT_nil ?_
        try dsimp only
        refine wpZ_run 5 (i := 3) (n' := 2) (pend' := [8, 9]) (by rfl) (by rfl) (by rfl) (by rfl) (by rfl) ?_
        repeat ((first | refine v_someT 3 tab_ok hN H (by rfl) ctX ?_ | refine v_someT 2 tab_ok hN H (by rfl) ctX ?_ | refine v_someT 1 tab_ok hN H (by rfl) ctX ?_); clear H; intro a w H; replace H := ntf H; simp only [List.drop_succ_cons, List.drop_zero, List.drop_nil])
        refine wpT_nil ?_
        try dsimp only
        refine wpZ_two (cs := []) (by rfl) (by rfl) ?_
        refine all1 ?_
        refine wpZ_pick (pend' := [9]) (by rfl) (by rfl) ?_
        repeat ((first | refine v_someT 3 tab_ok hN H (by rfl) ctX ?_ | refine v_someT 2 tab_ok hN H (by rfl) ctX ?_ | refine v_someT 1 tab_ok hN H (by rfl) ctX ?_); clear H; intro a w H; replace H := ntf H; simp only [List.drop_succ_cons, List.drop_zero, List.drop_nil])
        refine wpT_nil ?_
        try dsimp only
        refine wpZ_run 1 (i := 9) (n' := 0) (pend' := []) (by rfl) (by rfl) (by rfl) (by rfl) (by rfl) ?_
        repeat ((first | refine v_someT 3 tab_ok hN H (by rfl) ctX ?_ | refine v_someT 2 tab_ok hN H (by rfl) ctX ?_ | refine v_someT 1 tab_ok hN H (by rfl) ctX ?_); clear H; intro a w H; replace H := ntf H; simp only [List.drop_succ_cons, List.drop_zero, List.drop_nil])
        refine wpT_nil ?_
        try dsimp only
        refine wpZ_nil ?_
        replace H := RelT.toRel H
      rotate_left 1
      focus
        refine wpZ_pick (pend' := [0, 3, 4, 5, 6, 7, 8, 9]) (by rfl) (by rfl) ?_
        refine mCallT [1] [] (hbd) H ?_; clear H; intro a w H
        refine wpT_nil ?_
        try dsimp only
        refine wpZ_two (cs := []) (by rfl) (by rfl) ?_
        refine all1 ?_
        refine wpZ_pick (pend' := [3, 4, 5, 6, 7, 8, 9]) (by rfl) (by rfl) ?_
        repeat ((first | refine v_someT 3 tab_ok hN H (by rfl) ctX ?_ | refine v_someT 2 tab_ok hN H (by rfl) ctX ?_ | refine v_someT 1 tab_ok hN H (by rfl) ctX ?_); clear H; intro a w H; replace H := ntf H; simp only [List.drop_succ_cons, List.drop_zero, List.drop_nil])
        refine wpT_nil ?_
        try dsimp only
        refine wpZ_run 5 (i := 3) (n' := 2) (pend' := [8, 9]) (by rfl) (by rfl) (by rfl) (by rfl) (by rfl) ?_
        repeat ((first | refine v_someT 3 tab_ok hN H (by rfl) ctX ?_ | refine v_someT 2 tab_ok hN H (by rfl) ctX ?_ | refine v_someT 1 tab_ok hN H (by rfl) ctX ?_); clear H; intro a w H; replace H := ntf H; simp only [List.drop_succ_cons, List.drop_zero, List.drop_nil])
        refine wpT_nil ?_
        try dsimp only
        refine wpZ_two (cs := []) (by rfl) (by rfl) ?_
        refine all1 ?_
        refine wpZ_pick (pend' := [9]) (by rfl) (by rfl) ?_
        repeat ((first | refine v_someT 3 tab_ok hN H (by rfl) ctX ?_ | refine v_someT 2 tab_ok hN H (by rfl) ctX ?_ | refine v_someT 1 tab_ok hN H (by rfl) ctX ?_); clear H; intro a w H; replace H := ntf H; simp only [List.drop_succ_cons, List.drop_zero, List.drop_nil])
        refine wpT_nil ?_
        try dsimp only
        refine wpZ_run 1 (i := 9) (n' := 0) (pend' := []) (by rfl) (by rfl) (by rfl) (by rfl) (by rfl) ?_
        repeat ((first | refine v_someT 3 tab_ok hN H (by rfl) ctX ?_ | refine v_someT 2 tab_ok hN H (by rfl) ctX ?_ | refine v_someT 1 tab_ok hN H (by rfl) ctX ?_); clear H; intro a w H; replace H := ntf H; simp only [List.drop_succ_cons, List.drop_zero, List.drop_nil])
        refine wpT_nil ?_
        try dsimp only
        refine wpZ_nil ?_
        replace H := RelT.toRel H
      all_goals
        simp only [Nd.av, Nd.zero]
        refine mS ?_
        refine wp_ret ?_; exact mEnd [] [1] [.cell 2 68, .tmp 3] [_, _] hN hR H
    · have hrun := hat.ok rfl
      dsimp only at hrun
      rw [List.drop_of_length_le (by omega)] at hrun
      simp only [runS, List.append_nil] at hrun
      have h4 := left_v false r
      have h5 := take_ok r r.length (Nat.le_refl _) (by omega)
      have hd := decode_v r
      obtain ⟨g1, g2, g3, g4⟩ := id (dec_wf r)
      simp only [rdv, Nd.av, Bool.false_eq_true, if_false, List.take_length, List.drop_length] at h4 h5 hd
      rw [hrun]
      dsimp only
      rw [if_neg (by decide)]
      have hbd := bad_v false []
      simp only [rdv] at hbd
      refine mW ?_; clear H; intro a w H
      refine mCall [1] [] (h4) H ?_; clear H; intro a w H; try refine wpList_nil ?_
      refine mW ?_; clear H; intro a w H
      refine mCall [1] [] (h5) H ?_; clear H; intro a w H; try refine wpList_nil ?_
      refine mW ?_; clear H; intro a w H
      refine mCall [] [] (hd) H ?_; clear H; intro a w H; try refine wpList_nil ?_
      refine mW ?_; clear H; intro a w H
      replace H := mK [0, 2, 3, 4, 7, 12] 4 2 hN hR H
      by_cases ho : decOk r
      · simp only [if_pos ho] at H
        repeat (first | refine wp_seq ?_ | refine wp_block ?_)
        refine v_drawZ 0 [1, 0, 2, 3, 4, 5, 6, 7, 8, 9] [0, 2, 8] [1, 3, 4, 5, 6, 7] [(0, 2)] (by kernel_rfl) (by kernel_rfl) (by kernel_rfl) (by kernel_rfl) (by kernel_rfl) H (by rfl) ?_; clear H; intro gS H; try replace H := ntf H
        refine wpZ_run 1 (i := 1) (n' := 9) (pend' := [0, 2, 3, 4, 5, 6, 7, 8, 9]) (by rfl) (by rfl) (by rfl) (by rfl) (by rfl) ?_
        repeat ((first | refine v_someT 3 tab_ok hN H (by rfl) ctX ?_ | refine v_someT 2 tab_ok hN H (by rfl) ctX ?_ | refine v_someT 1 tab_ok hN H (by rfl) ctX ?_); clear H; intro a w H; replace H := ntf H; simp only [List.drop_succ_cons, List.drop_zero, List.drop_nil])
        refine wpT_nil ?_
        try dsimp only
        refine wpZ_two (cs := [2]) (by rfl) (by rfl) ?_
        refine all2 ?_
        refine ⟨?_, ?_⟩
        focus
          refine wpZ_pick (pend' := [2, 3, 4, 5, 6, 7, 8, 9]) (by rfl) (by rfl) ?_
          repeat ((first | refine v_someT 3 tab_ok hN H (by rfl) ctX ?_ | refine v_someT 2 tab_ok hN H (by rfl) ctX ?_ | refine v_someT 1 tab_ok hN H (by rfl) ctX ?_); clear H; intro a w H; replace H := ntf H; simp only [List.drop_succ_cons, List.drop_zero, List.drop_nil])
          refine wpT_nil ?_
          try dsimp only
          refine wpZ_two (cs := []) (by rfl) (by rfl) ?_
          refine all1 ?_
          refine wpZ_pick (pend' := [3, 4, 5, 6, 7, 8, 9]) (by rfl) (by rfl) ?_
          refine mCallT [1] [] (hbd) H ?_; clear H; intro a w H
          refine wpT_nil ?_
          try dsimp only
          refine wpZ_run 5 (i := 3) (n' := 2) (pend' := [8, 9]) (by rfl) (by rfl) (by rfl) (by rfl) (by rfl) ?_
          repeat ((first | refine v_someT 3 tab_ok hN H (by rfl) ctX ?_ | refine v_someT 2 tab_ok hN H (by rfl) ctX ?_ | refine v_someT 1 tab_ok hN H (by rfl) ctX ?_); clear H; intro a w H; replace H := ntf H; simp only [List.drop_succ_cons, List.drop_zero, List.drop_nil])
          refine wpT_nil ?_
          try dsimp only
          refine wpZ_two (cs := []) (by rfl) (by rfl) ?_
          refine all1 ?_
          refine wpZ_pick (pend' := [9]) (by rfl) (by rfl) ?_
          repeat ((first | refine v_someT 3 tab_ok hN H (by rfl) ctX ?_ | refine v_someT 2 tab_ok hN H (by rfl) ctX ?_ | refine v_someT 1 tab_ok hN H (by rfl) ctX ?_); clear H; intro a w H; replace H := ntf H; simp only [List.drop_succ_cons, List.drop_zero, List.drop_nil])
          refine wpT_nil ?_
          try dsimp only
          refine wpZ_run 1 (i := 9) (n' := 0) (pend' := []) (by rfl) (by rfl) (by rfl) (by rfl) (by rfl) ?_
          repeat ((first | refine v_someT 3 tab_ok hN H (by rfl) ctX ?_ | refine v_someT 2 tab_ok hN H (by rfl) ctX ?_ | refine v_someT 1 tab_ok hN H (by rfl) ctX ?_); clear H; intro a w H; replace H := ntf H; simp only [List.drop_succ_cons, List.drop_zero, List.drop_nil])
          refine wpT_nil ?_
          try dsimp only
          refine wpZ_nil ?_
          replace H := RelT.toRel H
        rotate_left 1
        focus
          refine wpZ_pick (pend' := [0, 3, 4, 5, 6, 7, 8, 9]) (by rfl) (by rfl) ?_
          refine mCallT [1] [] (hbd) H ?_; clear H; intro a w H
          refine wpT_nil ?_
          try dsimp only
          refine wpZ_two (cs := []) (by rfl) (by rfl) ?_
          refine all1 ?_
          refine wpZ_pick (pend' := [3, 4, 5, 6, 7, 8, 9]) (by rfl) (by rfl) ?_
          repeat ((first | refine v_someT 3 tab_ok hN H (by rfl) ctX ?_ | refine v_someT 2 tab_ok hN H (by rfl) ctX ?_ | refine v_someT 1 tab_ok hN H (by rfl) ctX ?_); clear H; intro a w H; replace H := ntf H; simp only [List.drop_succ_cons, List.drop_zero, List.drop_nil])
          refine wpT_nil ?_
          try dsimp only
          refine wpZ_run 5 (i := 3) (n' := 2) (pend' := [8, 9]) (by rfl) (by rfl) (by rfl) (by rfl) (by rfl) ?_
          repeat ((first | refine v_someT 3 tab_ok hN H (by rfl) ctX ?_ | refine v_someT 2 tab_ok hN H (by rfl) ctX ?_ | refine v_someT 1 tab_ok hN H (by rfl) ctX ?_); clear H; intro a w H; replace H := ntf H; simp only [List.drop_succ_cons, List.drop_zero, List.drop_nil])
          refine wpT_nil ?_
          try dsimp only
          refine wpZ_two (cs := []) (by rfl) (by rfl) ?_
          refine all1 ?_
          refine wpZ_pick (pend' := [9]) (by rfl) (by rfl) ?_
          repeat ((first | refine v_someT 3 tab_ok hN H (by rfl) ctX ?_ | refine v_someT 2 tab_ok hN H (by rfl) ctX ?_ | refine v_someT 1 tab_ok hN H (by rfl) ctX ?_); clear H; intro a w H; replace H := ntf H; simp only [List.drop_succ_cons, List.drop_zero, List.drop_nil])
          refine wpT_nil ?_
          try dsimp only
          refine wpZ_run 1 (i := 9) (n' := 0) (pend' := []) (by rfl) (by rfl) (by rfl) (by rfl) (by rfl) ?_
          repeat ((first | refine v_someT 3 tab_ok hN H (by rfl) ctX ?_ | refine v_someT 2 tab_ok hN H (by rfl) ctX ?_ | refine v_someT 1 tab_ok hN H (by rfl) ctX ?_); clear H; intro a w H; replace H := ntf H; simp only [List.drop_succ_cons, List.drop_zero, List.drop_nil])
          refine wpT_nil ?_
          try dsimp only
          refine wpZ_nil ?_
          replace H := RelT.toRel H
        all_goals
          simp only [Nd.av, ho, decide_true, decide_false]
          refine mS ?_
          refine wp_ret ?_; exact mEnd [] [1] [.cell 2 68, .tmp 3] [_, _] hN hR H
      · simp only [if_neg ho] at H
        repeat (first | refine wp_seq ?_ | refine wp_block ?_)
        refine v_drawZ 0 [1, 0, 2, 3, 4, 5, 6, 7, 8, 9] [0, 2, 8] [1, 3, 4, 5, 6, 7] [(0, 2)] (by kernel_rfl) (by kernel_rfl) (by kernel_rfl) (by kernel_rfl) (by kernel_rfl) H (by rfl) ?_; clear H; intro gS H; try replace H := ntf H
        refine wpZ_run 1 (i := 1) (n' := 9) (pend' := [0, 2, 3, 4, 5, 6, 7, 8, 9]) (by rfl) (by rfl) (by rfl) (by rfl) (by rfl) ?_
        repeat ((first | refine v_someT 3 tab_ok hN H (by rfl) ctX ?_ | refine v_someT 2 tab_ok hN H (by rfl) ctX ?_ | refine v_someT 1 tab_ok hN H (by rfl) ctX ?_); clear H; intro a w H; replace H := ntf H; simp only [List.drop_succ_cons, List.drop_zero, List.drop_nil])
        refine wpT_nil ?_
        try dsimp only
        refine wpZ_two (cs := [2]) (by rfl) (by rfl) ?_
        refine all2 ?_
        refine ⟨?_, ?_⟩
        focus
          refine wpZ_pick (pend' := [2, 3, 4, 5, 6, 7, 8, 9]) (by rfl) (by rfl) ?_
          repeat ((first | refine v_someT 3 tab_ok hN H (by rfl) ctX ?_ | refine v_someT 2 tab_ok hN H (by rfl) ctX ?_ | refine v_someT 1 tab_ok hN H (by rfl) ctX ?_); clear H; intro a w H; replace H := ntf H; simp only [List.drop_succ_cons, List.drop_zero, List.drop_nil])
          refine wpT_nil ?_
          try dsimp only
          refine wpZ_two (cs := []) (by rfl) (by rfl) ?_
          refine all1 ?_
          refine wpZ_pick (pend' := [3, 4, 5, 6, 7, 8, 9]) (by rfl) (by rfl) ?_
          refine mCallT [1] [] (hbd) H ?_; clear H; intro a w H
          refine wpT_nil ?_
          try dsimp only
          refine wpZ_run 5 (i := 3) (n' := 2) (pend' := [8, 9]) (by rfl) (by rfl) (by rfl) (by rfl) (by rfl) ?_
          repeat ((first | refine v_someT 3 tab_ok hN H (by rfl) ctX ?_ | refine v_someT 2 tab_ok hN H (by rfl) ctX ?_ | refine v_someT 1 tab_ok hN H (by rfl) ctX ?_); clear H; intro a w H; replace H := ntf H; simp only [List.drop_succ_cons, List.drop_zero, List.drop_nil])
          refine wpT_nil ?_
          try dsimp only
          refine wpZ_two (cs := []) (by rfl) (by rfl) ?_
          refine all1 ?_
          refine wpZ_pick (pend' := [9]) (by rfl) (by rfl) ?_
          repeat ((first | refine v_someT 3 tab_ok hN H (by rfl) ctX ?_ | refine v_someT 2 tab_ok hN H (by rfl) ctX ?_ | refine v_someT 1 tab_ok hN H (by rfl) ctX ?_); clear H; intro a w H; replace H := ntf H; simp only [List.drop_succ_cons, List.drop_zero, List.drop_nil])
          refine wpT_nil ?_
          try dsimp only
          refine wpZ_run 1 (i := 9) (n' := 0) (pend' := []) (by rfl) (by rfl) (by rfl) (by rfl) (by rfl) ?_
          repeat ((first | refine v_someT 3 tab_ok hN H (by rfl) ctX ?_ | refine v_someT 2 tab_ok hN H (by rfl) ctX ?_ | refine v_someT 1 tab_ok hN H (by rfl) ctX ?_); clear H; intro a w H; replace H := ntf H; simp only [List.drop_succ_cons, List.drop_zero, List.drop_nil])
          refine wpT_nil ?_
          try dsimp only
          refine wpZ_nil ?_
          replace H := RelT.toRel H
        rotate_left 1
        focus
          refine wpZ_pick (pend' := [0, 3, 4, 5, 6, 7, 8, 9]) (by rfl) (by rfl) ?_
          refine mCallT [1] [] (hbd) H ?_; clear H; intro a w H
          refine wpT_nil ?_
          try dsimp only
          refine wpZ_two (cs := []) (by rfl) (by rfl) ?_
          refine all1 ?_
          refine wpZ_pick (pend' := [3, 4, 5, 6, 7, 8, 9]) (by rfl) (by rfl) ?_
          repeat ((first | refine v_someT 3 tab_ok hN H (by rfl) ctX ?_ | refine v_someT 2 tab_ok hN H (by rfl) ctX ?_ | refine v_someT 1 tab_ok hN H (by rfl) ctX ?_); clear H; intro a w H; replace H := ntf H; simp only [List.drop_succ_cons, List.drop_zero, List.drop_nil])
          refine wpT_nil ?_
          try dsimp only
          refine wpZ_run 5 (i := 3) (n' := 2) (pend' := [8, 9]) (by rfl) (by rfl) (by rfl) (by rfl) (by rfl) ?_
          repeat ((first | refine v_someT 3 tab_ok hN H (by rfl) ctX ?_ | refine v_someT 2 tab_ok hN H (by rfl) ctX ?_ | refine v_someT 1 tab_ok hN H (by rfl) ctX ?_); clear H; intro a w H; replace H := ntf H; simp only [List.drop_succ_cons, List.drop_zero, List.drop_nil])
          refine wpT_nil ?_
          try dsimp only
          refine wpZ_two (cs := []) (by rfl) (by rfl) ?_
          refine all1 ?_
          refine wpZ_pick (pend' := [9]) (by rfl) (by rfl) ?_
          repeat ((first | refine v_someT 3 tab_ok hN H (by rfl) ctX ?_ | refine v_someT 2 tab_ok hN H (by rfl) ctX ?_ | refine v_someT 1 tab_ok hN H (by rfl) ctX ?_); clear H; intro a w H; replace H := ntf H; simp only [List.drop_succ_cons, List.drop_zero, List.drop_nil])
          refine wpT_nil ?_
          try dsimp only
          refine wpZ_run 1 (i := 9) (n' := 0) (pend' := []) (by rfl) (by rfl) (by rfl) (by rfl) (by rfl) ?_
          repeat ((first | refine v_someT 3 tab_ok hN H (by rfl) ctX ?_ | refine v_someT 2 tab_ok hN H (by rfl) ctX ?_ | refine v_someT 1 tab_ok hN H (by rfl) ctX ?_); clear H; intro a w H; replace H := ntf H; simp only [List.drop_succ_cons, List.drop_zero, List.drop_nil])
          refine wpT_nil ?_
          try dsimp only
          refine wpZ_nil ?_
          replace H := RelT.toRel H
        all_goals
          simp only [Nd.av, ho, decide_true, decide_false]
          refine mS ?_
          refine wp_ret ?_; exact mEnd [] [1] [.cell 2 68, .tmp 3] [_, _] hN hR H
theorem readP_main (l : List UInt8) (hl : l.length ≤ 34359730000) (hs : ¬ l.length < 2) (hn : ¬ 256 < num 0 (l.take 2)) (hq : ¬ (l.drop 2).length < (num 0 (l.take 2) + 7) / 8) :
    VC Try.prog 183 [.bs l none] [] (.tup [(rdQ l).1.av, .v (.bool (rdQ l).2)]) := by
  refine (readPT_main l hl hs hn hq).lessT ⟨⟨⟨rfl, rfl⟩, sub_refl _ _, trivial⟩, sub_refl _ _, trivial⟩ ?_
  rfl
theorem readP_many (l : List UInt8) (hl : l.length ≤ 34359730000) (hs : ¬ l.length < 2) (hn : 256 < num 0 (l.take 2)) :
    VC Try.prog 183 [.bs l none] [] (.tup [(rdQ l).1.av, .v (.bool (rdQ l).2)]) := by
  rw [rdQ, if_neg hs, if_pos hn]
  have h1 := newRd_v l (by omega)
  have h2 := u16_ok l (by omega) (by omega)
  have hz2 := z32_len
  obtain ⟨n, hne⟩ : ∃ n, n = num 0 (l.take 2) := ⟨_, rfl⟩
  rw [← hne] at hn h2
  refine mE Try.func183 ?_; intro N w0 a w hN hR H
  simp only [rdv] at H h1 h2
  refine mW ?_; clear H; intro a w H
  refine mCall [] [] (h1) H ?_; clear H; intro a w H; try refine wpList_nil ?_
  refine mW ?_; clear H; intro a w H
  refine mCall [1] [] (h2) H ?_; clear H; intro a w H; try refine wpList_nil ?_
  refine mW ?_; clear H; intro a w H
  refine mC H (fun hb => ?_) (fun hb => ?_)
  · refine mW ?_; clear H; intro a w H
    simp only [Pf.av, Nd.av, Nd.zero, bas, List.map_nil]
    try simp only [hz] at H
    refine wp_ret ?_; exact mEnd [] [] [.cell 2 68, .tmp 3] [_, _] hN hR H
  · exfalso; simp at hb; omega
set_option maxRecDepth 20000 in
theorem readP_cut (l : List UInt8) (hl : l.length ≤ 34359730000) (hs : ¬ l.length < 2) (hn : ¬ 256 < num 0 (l.take 2)) (hq : (l.drop 2).length < (num 0 (l.take 2) + 7) / 8) :
    VC Try.prog 183 [.bs l none] [] (.tup [(rdQ l).1.av, .v (.bool (rdQ l).2)]) := by
  rw [rdQ, if_neg hs, if_neg hn, if_pos hq]
  have h1 := newRd_v l (by omega)
  have h2 := u16_ok l (by omega) (by omega)
  obtain ⟨n, hne⟩ : ∃ n, n = num 0 (l.take 2) := ⟨_, rfl⟩
  rw [← hne] at hn hq h2
  have h3 := take_bad (l.drop 2) ((n + 7) / 8) hq
  have hbt := bits_v n (by omega)
  have hsum := sum_length [0]
  have h4 := left_v true (l.drop 2)
  have h5 := take_was (l.drop 2) 0
  have hbd := bad_v true (l.drop 2)
  have hd := decode_v []
  have hdb : ¬ decOk [] := by simp [decOk]
  have hdl := z32_len
  rw [if_neg hdb, dec_bad hdb] at hd
  simp only [rdv, Nd.av, Nd.zero, if_true] at h1 h2 h3 h4 h5 hd hbd
  refine mE Try.func183 ?_; intro N w0 a w hN hR H
  refine mW ?_; clear H; intro a w H
  refine mCall [] [] (h1) H ?_; clear H; intro a w H; try refine wpList_nil ?_
  refine mW ?_; clear H; intro a w H
  refine mCall [1] [] (h2) H ?_; clear H; intro a w H; try refine wpList_nil ?_
  refine mW ?_; clear H; intro a w H
  refine mC H (fun hb => ?_) (fun hb => ?_)
  · exfalso; simp at hb; omega
  · refine mW ?_; clear H; intro a w H
    refine mCall [] [] (hbt) H ?_; clear H; intro a w H; try refine wpList_nil ?_
    refine mW ?_; clear H; intro a w H
    refine mCall [1] [] (h3) H ?_; clear H; intro a w H; try refine wpList_nil ?_
    refine mW ?_; clear H; intro a w H
    refine mCall [] [] (empty_v) H ?_; clear H; intro a w H; try refine wpList_nil ?_
    refine mW ?_; clear H; intro a w H
    replace H := mK [0, 2, 3, 4, 5, 6, 7, 8, 9] 4 0 hN hR H
    refine v_loop (fun _ : Nat => _) (fun _ => True) (fun _ => 0) 0 trivial H ?_
    clear H
    intro k a w hk H
    refine mW ?_; clear H; intro a w H
    refine mCallG [1] [] (hbd) H ?_; clear H; intro a w H; try refine wpList_nil ?_
    refine mW ?_; clear H; intro a w H
    refine mC H (fun hb => ?_) (fun hb => ?_)
    · simp at hb
    · refine mW ?_; clear H; intro a w H
      refine mCall [1] [] (h4) H ?_; clear H; intro a w H; try refine wpList_nil ?_
      refine mW ?_; clear H; intro a w H
      refine mCall [1] [] (h5) H ?_; clear H; intro a w H; try refine wpList_nil ?_
      refine mW ?_; clear H; intro a w H
      refine mCall [] [] (hd) H ?_; clear H; intro a w H; try refine wpList_nil ?_
      refine mW ?_; clear H; intro a w H
      replace H := mK [0, 2, 3, 4, 7, 12] 4 0 hN hR H
      have H := v_ref H 7 2 (Nat.le_trans hN (by decide)) rfl rfl rfl
      simp only [nilT, strip, List.map_cons, List.map_nil, reduceIte, Nat.reduceEqDiff] at H
      refine mS ?_; refine mD 0 [2, 8] [0, 5, 6, 7] H ?_; clear H; intro gS H; refine mT ?_; clear H; intro a w H
      refine mCallT [1] [] (hbd) H ?_; clear H; intro a w H
      refine mT ?_; clear H; intro a w H
      refine v_drawNil H ?_; clear H; intro H
      refine mW ?_; clear H; intro a w H
      simp only [Pf.av, Nd.av, Nd.zero, bas, List.map_nil]
      try simp only [hz] at H
      refine wp_ret ?_; exact mEnd [] [] [.cell 2 68, .tmp 3] [_, _] hN hR H
set_option maxRecDepth 20000 in
theorem readP_short (l : List UInt8) (hs : l.length < 2) :
    VC Try.prog 183 [.bs l none] [] (.tup [(rdQ l).1.av, .v (.bool (rdQ l).2)]) := by
  rw [rdQ, if_pos hs]
  have h1 := newRd_v l (by omega)
  have h2 := u16_bad l hs
  have h3 := take_was l 0
  have hbt := bits_v 0 (by decide)
  have hsum := sum_length [0]
  have h4 := left_v true l
  have hbd := bad_v true l
  have hd := decode_v []
  have hdb : ¬ decOk [] := by simp [decOk]
  have hdl := z32_len
  rw [if_neg hdb, dec_bad hdb] at hd
  simp only [rdv, Nd.av, Nd.zero, if_true] at h1 h2 h3 h4 hd hbd
  refine mE Try.func183 ?_; intro N w0 a w hN hR H
  refine mW ?_; clear H; intro a w H
  refine mCall [] [] (h1) H ?_; clear H; intro a w H; try refine wpList_nil ?_
  refine mW ?_; clear H; intro a w H
  refine mCall [1] [] (h2) H ?_; clear H; intro a w H; try refine wpList_nil ?_
  refine mW ?_; clear H; intro a w H
  refine mC H (fun hb => ?_) (fun hb => ?_)
  · simp at hb
  · refine mW ?_; clear H; intro a w H
    refine mCall [] [] (hbt) H ?_; clear H; intro a w H; try refine wpList_nil ?_
    refine mW ?_; clear H; intro a w H
    refine mCall [1] [] (h3) H ?_; clear H; intro a w H; try refine wpList_nil ?_
    refine mW ?_; clear H; intro a w H
    refine mCall [] [] (empty_v) H ?_; clear H; intro a w H; try refine wpList_nil ?_
    refine mW ?_; clear H; intro a w H
    replace H := mK [0, 2, 3, 4, 5, 6, 7, 8, 9] 4 0 hN hR H
    refine v_loop (fun _ : Nat => _) (fun _ => True) (fun _ => 0) 0 trivial H ?_
    clear H
    intro k a w hk H
    refine mW ?_; clear H; intro a w H
    refine mCallG [1] [] (hbd) H ?_; clear H; intro a w H; try refine wpList_nil ?_
    refine mW ?_; clear H; intro a w H
    refine mC H (fun hb => ?_) (fun hb => ?_)
    · simp at hb
    · refine mW ?_; clear H; intro a w H
      refine mCall [1] [] (h4) H ?_; clear H; intro a w H; try refine wpList_nil ?_
      refine mW ?_; clear H; intro a w H
      refine mCall [1] [] (h3) H ?_; clear H; intro a w H; try refine wpList_nil ?_
      refine mW ?_; clear H; intro a w H
      refine mCall [] [] (hd) H ?_; clear H; intro a w H; try refine wpList_nil ?_
      refine mW ?_; clear H; intro a w H
      replace H := mK [0, 2, 3, 4, 7, 12] 4 0 hN hR H
      have H := v_ref H 7 2 (Nat.le_trans hN (by decide)) rfl rfl rfl
      simp only [nilT, strip, List.map_cons, List.map_nil, reduceIte, Nat.reduceEqDiff] at H
      refine mS ?_; refine mD 0 [2, 8] [0, 5, 6, 7] H ?_; clear H; intro gS H; refine mT ?_; clear H; intro a w H
      refine mCallT [1] [] (hbd) H ?_; clear H; intro a w H
      refine mT ?_; clear H; intro a w H
      refine v_drawNil H ?_; clear H; intro H
      refine mW ?_; clear H; intro a w H
      simp only [Pf.av, Nd.av, Nd.zero, bas, List.map_nil]
      try simp only [hz] at H
      refine wp_ret ?_; exact mEnd [] [] [.cell 2 68, .tmp 3] [_, _] hN hR H
theorem readP_v (l : List UInt8) (hl : l.length ≤ 34359730000) : VC Try.prog 183 [.bs l none] [] (.tup [(rdQ l).1.av, .v (.bool (rdQ l).2)]) := by
  by_cases hs : l.length < 2
  · exact readP_short l hs
  · by_cases hn : 256 < num 0 (l.take 2)
    · exact readP_many l hl hs hn
    · by_cases hq : (l.drop 2).length < (num 0 (l.take 2) + 7) / 8
      · exact readP_cut l hl hs hn hq
      · exact readP_main l hl hs hn hq
end Go.Proofs.Ytigmpdhnhkdeiaa
/- Proofs as bytes: read, and told again. -/
namespace Go.Proofs.Ytigmpdhnhkdeiaa
open Go Go.RowKit
theorem cmp_zero : ∀ x y : List UInt8, Lib.compareBytes x y = 0 ↔ x = y
  | [], [] => by simp [Lib.compareBytes]
  | [], _ :: _ => by simp [Lib.compareBytes]
  | _ :: _, [] => by simp [Lib.compareBytes]
  | x :: l, y :: m => by
    have ih := cmp_zero l m
    simp only [Lib.compareBytes]
    split
    · rename_i h; simp only [List.cons.injEq]; constructor
      · intro e; cases e
      · rintro ⟨rfl, _⟩; exact absurd h (by simp)
    · split
      · rename_i h; simp only [List.cons.injEq]; constructor
        · intro e; cases e
        · rintro ⟨rfl, _⟩; exact absurd h (by simp)
      · rename_i h1 h2
        have : x = y := by
          apply UInt8.toNat_inj.1
          have h1 := h1; have h2 := h2
          simp [UInt8.lt_iff_toNat_lt] at h1 h2
          omega
        subst this; simpa using ih
def Pf.zero : Pf := ⟨[], .zero⟩
theorem pzero_wf : Pf.zero.wf := ⟨fun h hh => (by cases hh), zero_wf⟩
theorem rdQ_wf (l : List UInt8) : (rdQ l).1.wf := by
  unfold rdQ
  split
  · exact pzero_wf
  · split
    · exact pzero_wf
    · split
      · exact pzero_wf
      · dsimp only
        split
        · exact ⟨runS_w _ _, zero_wf⟩
        · exact ⟨runS_w _ _, dec_wf _⟩
def pOk (l : List UInt8) : Prop := (rdQ l).2 = true ∧ (rdQ l).1.chk = 0 ∧ (rdQ l).1.text = l
instance (l : List UInt8) : Decidable (pOk l) := inferInstanceAs (Decidable (_ ∧ _))
def pDec (l : List UInt8) : Pf := if pOk l then (rdQ l).1 else .zero
set_option maxRecDepth 20000 in
theorem decodeP_aux (l : List UInt8) (hl : l.length ≤ 34359730000) (q : Pf) (ok : Bool) (hw : q.wf) (h1 : VC Try.prog 183 [.bs l none] [] (.tup [q.av, .v (.bool ok)])) (r : Pf) (e : Int)
    (hr1 : ok = true ∧ q.chk = 0 ∧ q.text = l → r = q ∧ e = 0) (hr2 : ¬ (ok = true ∧ q.chk = 0 ∧ q.text = l) → r = .zero ∧ e = 10) : VC Try.prog 120 [.bs l none] [] (.tup [r.av, errv e]) := by
  have hz2 := z32_len
  obtain ⟨g1, g2, g3, g4⟩ := id hw.e
  refine mE Try.func120 ?_; intro N w0 a w hN hR H
  refine mW ?_; clear H; intro a w H
  simp only [Pf.av, Nd.av] at h1
  refine mCall [] [] (h1) H ?_; clear H; intro a w H; try refine wpList_nil ?_
  refine mW ?_; clear H; intro a w H
  cases ok
  · refine mC H (fun hb => ?_) (fun hb => ?_)
    · refine mW ?_; clear H; intro a w H
      obtain ⟨rfl, rfl⟩ := hr2 (fun h => by cases h.1)
      simp only [Pf.zero, Pf.av, Nd.av, Nd.zero, bas, List.map_nil]
      try simp only [hz] at H
      refine wp_ret ?_; exact mEnd [] [] [.cell 2 68, .tmp 3] [_, _] hN hR H
    · simp at hb
  · refine mC H (fun hb => ?_) (fun hb => ?_)
    · simp at hb
    · by_cases hc : q.chk = 0
      · have h2 := encodeP_ok q hw hc
        have h3 := compare_v q.text l
        have hz' := cmp_zero q.text l
        simp only [Pf.av, Nd.av] at h2
        refine mW ?_; clear H; intro a w H
        refine mCall [] [] (h2) H ?_; clear H; intro a w H; try refine wpList_nil ?_
        refine mW ?_; clear H; intro a w H
        refine mCallG [] [] (h3) H ?_; clear H; intro a w H; try refine wpList_nil ?_
        refine mW ?_; clear H; intro a w H
        refine mC H (fun hb => ?_) (fun hb => ?_)
        · obtain ⟨rfl, rfl⟩ := hr2 (fun h => by simp at hb; exact hb (hz'.2 h.2.2))
          refine mW ?_; clear H; intro a w H
          simp only [Pf.zero, Pf.av, Nd.av, Nd.zero, bas, List.map_nil]
          try simp only [hz] at H
          refine wp_ret ?_; exact mEnd [] [] [.cell 2 68, .tmp 3] [_, _] hN hR H
        · obtain ⟨rfl, rfl⟩ := hr1 ⟨rfl, hc, hz'.1 (by simpa using hb)⟩
          refine mW ?_; clear H; intro a w H
          simp only [Pf.av, Nd.av]
          refine wp_ret ?_; exact mEnd [] [] [.cell 2 68, .tmp 3] [_, _] hN hR H
      · have h2 := encodeP_bad q hw hc
        obtain ⟨rfl, rfl⟩ := hr2 (fun h => hc h.2.1)
        have h3 := compare_v [] l
        simp only [Pf.av, Nd.av] at h2
        refine mW ?_; clear H; intro a w H
        refine mCall [] [] (h2) H ?_; clear H; intro a w H; try refine wpList_nil ?_
        refine mW ?_; clear H; intro a w H
        refine mCallG [] [] (h3) H ?_; clear H; intro a w H; try refine wpList_nil ?_
        refine mW ?_; clear H; intro a w H
        refine mC H (fun hb => ?_) (fun hb => ?_)
        · refine mW ?_; clear H; intro a w H
          simp only [Pf.zero, Pf.av, Nd.av, Nd.zero, bas, List.map_nil]
          try simp only [hz] at H
          refine wp_ret ?_; exact mEnd [] [] [.cell 2 68, .tmp 3] [_, _] hN hR H
        · simp [hc] at hb
theorem decodeP_v (l : List UInt8) (hl : l.length ≤ 34359730000) : VC Try.prog 120 [.bs l none] [] (.tup [(pDec l).av, errv (if pOk l then 0 else 10)]) :=
  decodeP_aux l hl _ _ (rdQ_wf l) (readP_v l hl) _ _ (fun h => by have h : pOk l := h; rw [pDec, if_pos h, if_pos h]; exact ⟨rfl, rfl⟩) (fun h => by have h : ¬ pOk l := h; rw [pDec, if_neg h, if_neg h]; exact ⟨rfl, rfl⟩)
end Go.Proofs.Ytigmpdhnhkdeiaa
/- The digest at the top of a way: node.Up, and the document's. -/
namespace Go.Proofs.Ytigmpdhnhkdeiaa
open Go Go.RowKit
/-- One step up. -/
def stepH (key : List UInt8) (d : Nat) (x h : List UInt8) : List UInt8 := if bitN key d then innerH x h else innerH h x
/-- From the sides from the depth d on. -/
def upL (key : List UInt8) : Nat → List (List UInt8) → List UInt8 → List UInt8
  | _, [], h => h
  | d, x :: r, h => stepH key d x (upL key (d + 1) r h)
theorem stepH_len (key : List UInt8) (d : Nat) (x h : List UInt8) : (stepH key d x h).length = 32 := by unfold stepH; split <;> exact innerH_len _ _
theorem upL_len (key : List UInt8) (h : List UInt8) (hh : h.length = 32) : ∀ d s, (upL key d s h).length = 32
  | _, [] => hh
  | _, _ :: _ => stepH_len _ _ _ _
theorem upL_drop (key : List UInt8) (s : List (List UInt8)) (h : List UInt8) (k : Nat) (hk : k < s.length) : upL key k (s.drop k) h = stepH key k (s.getD k []) (upL key (k + 1) (s.drop (k + 1)) h) := by
  rw [List.drop_eq_getElem_cons hk, List.getElem_eq_getD []]; rfl
theorem chk_all {p : Pf} (h : p.chk = 0) : p.s.length ≤ 256 ∧ p.e.ok ∧ p.e.k ≠ 2 := by
  unfold Pf.chk at h
  split at h
  · cases h
  · split at h
    · rename_i h1 h2; exact ⟨by omega, h2⟩
    · cases h
end Go.Proofs.Ytigmpdhnhkdeiaa
/- Proofs as bytes: the document's. -/
namespace Go.Proofs.Ytigmpdhnhkdeiaa
open Go Go.RowKit
set_option maxHeartbeats 1000000 in
theorem pcheckR_v (p : Pf) (hw : p.wf) : VC Try.prog 244 [p.av] [] (.v (.int .i64 p.chk)) := by
  obtain ⟨s, n⟩ := p
  have hsl := bas_len s
  have hc := checkR_v n hw.e
  obtain ⟨h1, h2, h3, h4⟩ := id hw.e
  have hk2 : ((n.k.toNat : Int) = 2) ↔ n.k = 2 := ⟨fun h => UInt8.toNat_inj.1 (by simp; omega), fun h => by rw [h]; rfl⟩
  dsimp only at hc h1 h2 h3 h4 hk2
  refine mE Try.func244 ?_; intro N w0 a w hN hR H
  simp only [Pf.av, Nd.av] at H hc
  refine mW ?_; clear H; intro a w H
  refine mC H (fun hb => ?_) (fun hb => ?_)
  · have hb : 256 < s.length := by simp at hb; omega
    simp only [Pf.chk, if_pos hb]
    refine mW ?_; clear H; intro a w H
    refine wp_ret ?_; exact mEnd [] [] [.tmp 2] [_] hN hR H
  · have hb : ¬ 256 < s.length := by simp at hb; omega
    simp only [Pf.chk, if_neg hb]
    by_cases ho : n.ok
    · rw [if_pos ho] at hc
      refine mW ?_; clear H; intro a w H
      refine mCall [] [] (hc) H ?_; clear H; intro a w H; try refine wpList_nil ?_
      refine mW ?_; clear H; intro a w H
      refine mC H (fun hb => ?_) (fun hb => ?_)
      · have hb : n.k = 2 := hk2.1 (by simpa using hb)
        rw [if_neg (fun h => h.2 hb)]
        refine mW ?_; clear H; intro a w H
        refine wp_ret ?_; exact mEnd [] [] [.tmp 2] [_] hN hR H
      · have hb : ¬ n.k = 2 := fun e => by rw [hk2.2 e] at hb; simp at hb
        rw [if_pos ⟨ho, hb⟩]
        refine mW ?_; clear H; intro a w H
        refine wp_ret ?_; exact mEnd [] [] [.tmp 2] [_] hN hR H
    · rw [if_neg ho] at hc
      refine mW ?_; clear H; intro a w H
      refine mCall [] [] (hc) H ?_; clear H; intro a w H; try refine wpList_nil ?_
      refine mW ?_; clear H; intro a w H
      refine mC H (fun hb => ?_) (fun hb => ?_)
      · rw [if_neg (fun h => ho h.1)]
        refine mW ?_; clear H; intro a w H
        refine wp_ret ?_; exact mEnd [] [] [.tmp 2] [_] hN hR H
      · simp at hb
/-- A number out of its first bits. -/
def upB (f : Nat → Bool) : Nat → Nat
  | 0 => 0
  | k + 1 => 2 * upB f k + (if f k then 1 else 0)
theorem upB_lt (f : Nat → Bool) : ∀ k, upB f k < 2 ^ k
  | 0 => by simp [upB]
  | k + 1 => by
    have := upB_lt f k
    simp only [upB, Nat.pow_succ]
    split <;> omega
set_option maxRecDepth 100000 in
theorem b8x_up : ∀ x0 x1 x2 x3 x4 x5 x6 x7 : Bool, (b8x x0 x1 x2 x3 x4 x5 x6 x7).toNat = 2 * (2 * (2 * (2 * (2 * (2 * (2 * (2 * 0 + (if x0 then 1 else 0)) + (if x1 then 1 else 0)) + (if x2 then 1 else 0)) + (if x3 then 1 else 0)) + (if x4 then 1 else 0)) + (if x5 then 1 else 0)) + (if x6 then 1 else 0)) + (if x7 then 1 else 0) := by decide +kernel
theorem b8_up (f : Nat → Bool) : UInt8.ofNat (upB f 8) = b8 f := by
  apply UInt8.toNat_inj.1
  have h := upB_lt f 8
  rw [UInt8.toNat_ofNat', Nat.mod_eq_of_lt h, b8_x, b8x_up]
  rfl
/-- The marks of the first 8 m sides. -/
def marksB (s : List (List UInt8)) (m : Nat) : List UInt8 := (List.range m).map fun j => b8 fun k => hidesB s (8 * j + k)
theorem marksB_next (s : List (List UInt8)) (m : Nat) : marksB s (m + 1) = marksB s m ++ [b8 fun k => hidesB s (8 * m + k)] := by
  unfold marksB; rw [List.range_succ, List.map_append]; rfl
theorem marksB_len (s : List (List UInt8)) (m : Nat) : (marksB s m).length = m := by simp [marksB]
theorem hides_lt (s : List (List UInt8)) (t : Nat) (h : t < s.length) : hidesB s t = (s.getD t [] != E0) := by
  unfold hidesB; rw [List.getElem?_eq_getElem h, List.getElem_eq_getD []]
theorem hides_ge (s : List (List UInt8)) (t : Nat) (h : ¬ t < s.length) : hidesB s t = false := by
  unfold hidesB; rw [List.getElem?_eq_none (by omega)]
theorem Pf.chk_and {p : Pf} (h : p.chk = 0) : p.s.length ≤ 256 ∧ p.e.ok := by
  unfold Pf.chk at h
  split at h
  · cases h
  · split at h
    · rename_i h1 h2; exact ⟨by omega, h2.1⟩
    · cases h
theorem bne_dec (x y : List UInt8) : (x != y) = !decide (x = y) := by by_cases h : x = y <;> simp [h]
theorem encR_bad (p : Pf) (hw : p.wf) (h : p.chk ≠ 0) : VC Try.prog 193 [p.av] [] (.tup [.bs [] none, errv p.chk]) := by
  have hc := pcheckR_v p hw
  have hsl := bas_len p.s
  obtain ⟨h1, h2, h3, h4⟩ := id hw.e
  refine mE Try.func193 ?_; intro N w0 a w hN hR H
  simp only [Pf.av, Nd.av] at H hc
  refine mW ?_; clear H; intro a w H
  refine mCall [] [] (hc) H ?_; clear H; intro a w H; try refine wpList_nil ?_
  refine mW ?_; clear H; intro a w H
  refine mC H (fun hb => ?_) (fun hb => ?_)
  · refine mW ?_; clear H; intro a w H
    refine wp_ret ?_; exact mEnd [] [] [.tmp 2, .tmp 3] [_, _] hN hR H
  · simp at hb; exact absurd hb h
set_option maxRecDepth 20000 in
set_option maxHeartbeats 2000000 in
theorem encR_ok (p : Pf) (hw : p.wf) (h : p.chk = 0) : VC Try.prog 193 [p.av] [(5, p.text.length)] (.tup [.bs p.text (some 0), errv 0]) := by
  obtain ⟨hle, hok⟩ := Pf.chk_and h
  have hc := pcheckR_v p hw
  rw [h] at hc
  obtain ⟨s, n⟩ := p
  have hsl := bas_len s
  have hen := encodeR_ok n hw.e hok
  obtain ⟨h1, h2, h3, h4⟩ := id hw.e
  have hsum := sum_length [0]
  have eE : sum [0] = E0 := rfl
  rw [eE] at hsum
  have hem := emptyR_v
  rw [eE] at hem
  dsimp only at h1 h2 h3 h4 hle
  have hs := hw.s
  dsimp only at hs
  clear hok h
  refine mE Try.func193 ?_; intro N w0 a w hN hR H
  simp only [Pf.av, Nd.av] at H hc hen
  refine mW ?_; clear H; intro a w H
  refine mCall [] [] (hc) H ?_; clear H; intro a w H; try refine wpList_nil ?_
  refine mW ?_; clear H; intro a w H
  refine mC H (fun hb => ?_) (fun hb => ?_)
  · simp at hb
  · have e3 : UInt8.ofNat ((s.length : Int) / 256 % 256).toNat = UInt8.ofNat (s.length / 256) := by have := u8n s.length 256; simpa using this
    have e4 : UInt8.ofNat ((s.length : Int) % 256 % 256).toNat = UInt8.ofNat s.length := by
      rw [Int.emod_emod_of_dvd _ (Int.dvd_refl 256)]; exact u8m s.length
    have hX := @hsl
    refine mW ?_; clear H; intro a w H
    rw [e3, e4] at H
    refine mCall [] [] (hem) H ?_; clear H; intro a w H; try refine wpList_nil ?_
    refine mW ?_; clear H; intro a w H
    obtain ⟨hd, hhd⟩ : ∃ hd, hd = [UInt8.ofNat (s.length / 256), UInt8.ofNat s.length] := ⟨_, rfl⟩
    have hhl : hd.length = 2 := by rw [hhd]; rfl
    rw [← hhd] at H
    replace H := mK [1, 2, 3, 5, 6, 7, 8] 2 1 hN hR H
    refine v_loop (fun m : Nat => ⟨[(8, none, .v (.int .i64 ((8 * m : Nat) : Int))), (7, none, .ptr 1 []), (6, none, .bs (hd ++ marksB s m) (some 0)), (5, none, .v (.int .i64 (s.length : Int))), (3, none, .v (.int .i64 0)), (2, none, .v (.slice none 0 0)), (1, none, .ptr 0 [])],
      [(ti68.ty, .st [.sl (.ba 32) (bas s) none, .st [.v (B8 n.k), .ba n.key, .ba n.v, .ba n.l, .ba n.r]]), (.ba 32, .ba E0)], [], [(5, 2 + m)]⟩)
      (fun m => m ≤ (s.length + 7) / 8) (fun m => (s.length + 7) / 8 - m) 0 (Nat.zero_le _) (H.to 2 1 ⟨Nat.le_trans hN (by decide), Nat.le_trans hR (by decide)⟩ ⟨rfl, rfl, by rw [show marksB s 0 = [] from rfl, List.append_nil]; rfl, rfl, rfl, rfl, rfl, trivial⟩ rfl rfl rfl rfl rfl) ?_
    clear H
    intro m a w hm H
    have hml := marksB_len s m
    refine mW ?_; clear H; intro a w H
    refine mC H (fun hb => ?_) (fun hb => ?_)
    · have hlt : 8 * m < s.length := by rw [decide_eq_true_eq] at hb; omega
      clear hb
      have hm32 : m ≤ 31 := by omega
      refine mW ?_; clear H; intro a w H
      refine v_loop (fun k : Nat => ⟨[(10, none, .v (.int .i64 (k : Int))), (9, none, .v (.int .i64 (upB (fun k => hidesB s (8 * m + k)) k : Int))), (8, none, .v (.int .i64 ((8 * m : Nat) : Int))), (7, none, .ptr 1 []), (6, none, .bs (hd ++ marksB s m) (some 0)), (5, none, .v (.int .i64 (s.length : Int))), (3, none, .v (.int .i64 0)), (2, none, .v (.slice none 0 0)), (1, none, .ptr 0 [])],
        [(ti68.ty, .st [.sl (.ba 32) (bas s) none, .st [.v (B8 n.k), .ba n.key, .ba n.v, .ba n.l, .ba n.r]]), (.ba 32, .ba E0)], [], [(5, 2 + m)]⟩)
        (fun k => k ≤ 8) (fun k => 8 - k) 0 (Nat.zero_le _) (H.to 2 1 ⟨Nat.le_trans hN (by decide), Nat.le_trans hR (by decide)⟩ ⟨rfl, rfl, rfl, rfl, rfl, rfl, rfl, rfl, rfl, trivial⟩ rfl rfl rfl rfl rfl) ?_
      clear H
      intro k a w hk H
      have hup : upB (fun k => hidesB s (8 * m + k)) k ≤ 256 := by
        have h5 := upB_lt (fun k => hidesB s (8 * m + k)) k
        have h6 : 2 ^ k ≤ 2 ^ 8 := Nat.pow_le_pow_right (by decide) hk
        omega
      have hnx : upB (fun k => hidesB s (8 * m + k)) (k + 1) = 2 * upB (fun k => hidesB s (8 * m + k)) k + (if hidesB s (8 * m + k) then 1 else 0) := rfl
      have hb8 := b8_up (fun k => hidesB s (8 * m + k))
      refine mW ?_; clear H; intro a w H
      refine mC H (fun hb => ?_) (fun hb => ?_)
      · have hk8 : k < 8 := by rw [decide_eq_true_eq] at hb; omega
        clear hb hb8
        generalize upB (fun k => hidesB s (8 * m + k)) k = v at *
        have e1 : (((8 * m : Nat) : Int) + (k : Int)).toNat = 8 * m + k := by omega
        by_cases hin : 8 * m + k < s.length
        · have hg := bas_get s (8 * m + k) hin
          rw [List.getElem_eq_getD []] at hg
          have l1 : (s.getD (8 * m + k) []).length = 32 := by rw [← List.getElem_eq_getD (h := hin) []]; exact hs _ (List.getElem_mem _)
          have hh := hides_lt s (8 * m + k) hin
          refine mW ?_; clear H; intro a w H
          clear hX; have hX := And.intro @hsl (And.intro @e1 (@hg))
          have hY := And.intro @hsl (And.intro @e1 (And.intro @l1 (@hsum)))
          refine mS ?_; refine mD 2 [] [] H ?_; clear H; intro gS H
          refine mTN 3 hN H ?_; clear H; intro a w H; simp only [List.drop_succ_cons, List.drop_zero, List.drop_nil]
          refine mTN 3 hN H ?_; clear H; intro a w H; simp only [List.drop_succ_cons, List.drop_zero, List.drop_nil]
          refine mTN 2 hN H ?_; clear H; intro a w H; simp only [List.drop_succ_cons, List.drop_zero, List.drop_nil]
          refine mTN 4 hN H ?_; clear H; intro a w H; simp only [List.drop_succ_cons, List.drop_zero, List.drop_nil]
          refine mTN 2 hN H ?_; clear H; intro a w H; simp only [List.drop_succ_cons, List.drop_zero, List.drop_nil]
          refine mT ?_; clear H; intro a w H
          refine v_drawNil H ?_; clear H; intro H
          have hbb : (bif decide (((8 * m : Nat) : Int) + (k : Int) < (s.length : Int)) then !decide (s.getD (8 * m + k) [] = E0) else false) = hidesB s (8 * m + k) := by
            rw [decide_eq_true (by omega), hh, cond_true, bne_dec]
          refine mC H (fun hb => ?_) (fun hb => ?_)
          · rw [hbb] at hb
            rw [hb] at hnx
            clear hX; have hX := @hsl
            clear hY
            refine mW ?_; clear H; intro a w H
            exact ⟨k + 1, hk8, by omega, H.to 2 1 ⟨Nat.le_trans hN (by decide), Nat.le_trans hR (by decide)⟩ ⟨rfl, by rw [hnx]; rfl, rfl, rfl, rfl, rfl, rfl, rfl, rfl, trivial⟩ rfl rfl rfl rfl rfl⟩
          · rw [hbb] at hb
            rw [hb] at hnx
            clear hX; have hX := @hsl
            clear hY
            refine mW ?_; clear H; intro a w H
            exact ⟨k + 1, hk8, by omega, H.to 2 1 ⟨Nat.le_trans hN (by decide), Nat.le_trans hR (by decide)⟩ ⟨rfl, by rw [hnx]; rfl, rfl, rfl, rfl, rfl, rfl, rfl, rfl, trivial⟩ rfl rfl rfl rfl rfl⟩
        · have hh := hides_ge s (8 * m + k) hin
          rw [hh] at hnx
          refine mW ?_; clear H; intro a w H
          refine mS ?_; refine mD 2 [] [] H ?_; clear H; intro gS H
          refine mTN 3 hN H ?_; clear H; intro a w H; simp only [List.drop_succ_cons, List.drop_zero, List.drop_nil]
          refine mTN 3 hN H ?_; clear H; intro a w H; simp only [List.drop_succ_cons, List.drop_zero, List.drop_nil]
          have hdd : decide (((8 * m : Nat) : Int) + (k : Int) < (s.length : Int)) = false := decide_eq_false (by omega)
          simp only [hdd] at H
          refine mSkT (.v (.bool false)) H ?_; clear H; intro a w H
          refine mSkT (.v (.bool false)) H ?_; clear H; intro a w H
          refine mSkT (.v (.bool false)) H ?_; clear H; intro a w H
          refine mSkT (.v (.bool false)) H ?_; clear H; intro a w H
          refine mSkT (.v (.bool false)) H ?_; clear H; intro a w H
          refine mSkT (.v (.bool false)) H ?_; clear H; intro a w H
          refine mSkT (.v (.bool false)) H ?_; clear H; intro a w H
          refine mSkT (.v (.bool false)) H ?_; clear H; intro a w H
          refine mSkT (.v (.bool false)) H ?_; clear H; intro a w H
          refine mT ?_; clear H; intro a w H
          refine v_drawNil H ?_; clear H; intro H
          refine mC H (fun hb => ?_) (fun hb => ?_)
          · simp at hb
          · refine mW ?_; clear H; intro a w H
            exact ⟨k + 1, hk8, by omega, H.to 2 1 ⟨Nat.le_trans hN (by decide), Nat.le_trans hR (by decide)⟩ ⟨rfl, by rw [hnx]; rfl, rfl, rfl, rfl, rfl, rfl, rfl, rfl, trivial⟩ rfl rfl rfl rfl rfl⟩
      · have hge : k = 8 := by rw [decide_eq_false_iff_not] at hb; omega
        subst hge
        clear hb hnx
        obtain ⟨v, hv⟩ : ∃ v, v = upB (fun k => hidesB s (8 * m + k)) 8 := ⟨_, rfl⟩
        rw [← hv] at H hb8 hup
        clear hv
        have hmn := marksB_next s m
        rw [← hb8] at hmn
        have e5 : UInt8.ofNat ((v : Int) % 256).toNat = UInt8.ofNat v := u8m v
        have hcl : (hd ++ marksB s m).length = 2 + m := by rw [List.length_append, hhl, hml]
        clear hX; have hX := And.intro @hsl (And.intro @hhl (@hml))
        have hY := And.intro @hhl (@hml)
        refine mW ?_; clear H; intro a w H
        rw [e5] at H
        exact ⟨m + 1, by omega, by omega, H.to 2 1 ⟨Nat.le_trans hN (by decide), Nat.le_trans hR (by decide)⟩ ⟨rfl, rfl, by rw [hmn, ← List.append_assoc]; rfl, rfl, rfl, rfl, rfl, trivial⟩ rfl rfl rfl rfl rfl⟩
    · have hge : m = (s.length + 7) / 8 := by rw [decide_eq_false_iff_not] at hb; omega
      clear hb
      have hbits : marksB s m = (Pf.mk s n).bits := by rw [hge]; rfl
      rw [hbits] at H hml
      obtain ⟨pre, hpre⟩ : ∃ pre, pre = hd ++ (Pf.mk s n).bits := ⟨_, rfl⟩
      have hpl : pre.length = 2 + m := by rw [hpre, List.length_append, hhl, hml]
      rw [← hpre] at H
      have hm33 : m ≤ 32 := by omega
      clear hge hml hm hbits
      refine mW ?_; clear H; intro a w H
      refine v_loop (fun k : Nat => ⟨[(11, none, .v (.int .i64 (k : Int))), (7, none, .ptr 1 []), (6, none, .bs (pre ++ hashes (s.take k)) (some 0)), (5, none, .v (.int .i64 (s.length : Int))), (3, none, .v (.int .i64 0)), (2, none, .v (.slice none 0 0)), (1, none, .ptr 0 [])],
        [(ti68.ty, .st [.sl (.ba 32) (bas s) none, .st [.v (B8 n.k), .ba n.key, .ba n.v, .ba n.l, .ba n.r]]), (.ba 32, .ba E0)], [], [(5, pre.length + (hashes (s.take k)).length)]⟩)
        (fun k => k ≤ s.length) (fun k => s.length - k) 0 (Nat.zero_le _) (H.to 2 1 ⟨Nat.le_trans hN (by decide), Nat.le_trans hR (by decide)⟩ ⟨rfl, rfl, by rw [show hashes (s.take 0) = [] from rfl, List.append_nil]; rfl, rfl, rfl, rfl, rfl, trivial⟩ rfl (by rw [hpl]; rfl) rfl rfl rfl) ?_
      clear H
      intro k a w hk H
      have hhl2 : (hashes (s.take k)).length ≤ 8192 := by
        have := hashes_len (s.take k) fun x hx => hs _ (List.mem_of_mem_take hx)
        rw [List.length_take] at this; omega
      have hal : (pre ++ hashes (s.take k)).length = 2 + m + (hashes (s.take k)).length := by rw [List.length_append, hpl]
      refine mW ?_; clear H; intro a w H
      refine mC H (fun hb => ?_) (fun hb => ?_)
      · have hlt : k < s.length := by rw [decide_eq_true_eq] at hb; omega
        have hg := bas_get s k hlt
        have h32 : s[k].length = 32 := hs _ (List.getElem_mem hlt)
        have htk : s.take (k + 1) = s.take k ++ [s[k]] := List.take_succ_eq_append_getElem hlt
        have ht32 : s[k].take 32 = s[k] := List.take_of_length_le (by omega)
        clear hb
        refine mW ?_; clear H; intro a w H
        clear hX; have hX := And.intro @hsl (And.intro @hg (@ht32))
        have hY := And.intro @hsl (And.intro @hg (And.intro @h32 (@hsum)))
        refine mS ?_; refine mD 2 [] [] H ?_; clear H; intro gS H
        refine mTN 2 hN H ?_; clear H; intro a w H; simp only [List.drop_succ_cons, List.drop_zero, List.drop_nil]
        refine mTN 2 hN H ?_; clear H; intro a w H; simp only [List.drop_succ_cons, List.drop_zero, List.drop_nil]
        refine mTN 2 hN H ?_; clear H; intro a w H; simp only [List.drop_succ_cons, List.drop_zero, List.drop_nil]
        refine mT ?_; clear H; intro a w H
        refine v_drawNil H ?_; clear H; intro H
        refine mC H (fun hb => ?_) (fun hb => ?_)
        · have hne : (s[k] != E0) = true := by rw [bne_dec]; exact hb
          have hs1 : hashes (s.take (k + 1)) = hashes (s.take k) ++ s[k] := by
            unfold hashes; rw [htk, List.filter_append, List.filter_cons_of_pos (p := (· != E0)) hne, List.filter_nil, List.flatten_append]; simp
          refine mS ?_
          (try refine wp_region_lit ?_); refine mN 4 hN H ?_; clear H; intro a w H
          refine mW ?_; clear H; intro a w H
          replace H := mK [1, 2, 3, 5, 6, 7, 11] 2 1 hN hR H
          have H := v_fz H
          simp only [List.filter_cons, List.filter_nil, List.length_cons, List.length_nil, Nat.reduceAdd, Nat.reduceLT, Nat.lt_irrefl, decide_false, Bool.false_eq_true, reduceIte] at H
          exact ⟨k + 1, hlt, by omega, H.to 2 1 ⟨Nat.le_trans hN (by decide), Nat.le_trans hR (by decide)⟩ ⟨rfl, rfl, by rw [hs1, ← List.append_assoc]; rfl, rfl, rfl, rfl, rfl, trivial⟩ rfl (by rw [hs1, List.length_append, ← Nat.add_assoc]; rfl) rfl rfl rfl⟩
        · have hne : (s[k] != E0) = false := by rw [bne_dec]; exact hb
          have hs1 : hashes (s.take (k + 1)) = hashes (s.take k) := by
            unfold hashes; rw [htk, List.filter_append, List.filter_cons_of_neg (p := (· != E0)) (by rw [hne]; decide), List.filter_nil, List.append_nil]
          refine mW ?_; clear H; intro a w H
          exact ⟨k + 1, hlt, by omega, H.to 2 1 ⟨Nat.le_trans hN (by decide), Nat.le_trans hR (by decide)⟩ ⟨rfl, rfl, by rw [hs1]; rfl, rfl, rfl, rfl, rfl, trivial⟩ rfl (by rw [hs1]; rfl) rfl rfl rfl⟩
      · have hge : k = s.length := by rw [decide_eq_false_iff_not] at hb; omega
        subst hge
        rw [List.take_length] at H hhl2 hal
        have htl := text_len hw.e
        dsimp only at htl
        have htx : pre ++ hashes s ++ n.text = (Pf.mk s n).text := by rw [hpre, hhd]; simp [Pf.text]
        have hY := @hal
        refine mW ?_; clear H; intro a w H
        refine mCall [] [] (hen) H ?_; clear H; intro a w H; try refine wpList_nil ?_
        refine mW ?_; clear H; intro a w H
        rw [← List.length_append, ← List.length_append, htx] at H
        refine wp_ret ?_; exact mEnd [] [0] [.tmp 2, .tmp 3] [_, _] hN hR H
/-- What the document's reading yields. -/
def rdR (l : List UInt8) : Pf :=
  if l.length < 2 then Pf.zero else
  if 256 < num 0 (l.take 2) then Pf.zero else
  if (l.drop 2).length < (num 0 (l.take 2) + 7) / 8 then Pf.zero else
  let x := runS (marksOf ((l.drop 2).take ((num 0 (l.take 2) + 7) / 8)) (num 0 (l.take 2))) ((l.drop 2).drop ((num 0 (l.take 2) + 7) / 8))
  if x.2.2 then ⟨x.1.dropLast, .zero⟩ else ⟨x.1, dec x.2.1⟩
theorem rdR_ok (l : List UInt8) (h : (rdQ l).2 = true) : rdR l = (rdQ l).1 := by
  unfold rdQ at *
  unfold rdR
  by_cases h1 : l.length < 2
  · rw [if_pos h1, if_pos h1]; rfl
  · rw [if_neg h1] at h; rw [if_neg h1, if_neg h1]
    by_cases h2 : 256 < num 0 (l.take 2)
    · rw [if_pos h2, if_pos h2]; rfl
    · rw [if_neg h2] at h; rw [if_neg h2, if_neg h2]
      by_cases h3 : (l.drop 2).length < (num 0 (l.take 2) + 7) / 8
      · rw [if_pos h3, if_pos h3]; rfl
      · rw [if_neg h3] at h; rw [if_neg h3, if_neg h3]
        dsimp only at h ⊢
        split
        · rename_i h4; rw [if_pos h4] at h; cases h
        · rfl
theorem rdR_wf (l : List UInt8) : (rdR l).wf := by
  unfold rdR
  split
  · exact pzero_wf
  · split
    · exact pzero_wf
    · split
      · exact pzero_wf
      · dsimp only
        split
        · exact ⟨fun h hh => runS_w _ _ h ((List.dropLast_sublist _).subset hh), zero_wf⟩
        · exact ⟨runS_w _ _, dec_wf _⟩
theorem num_two' (l : List UInt8) (h : 2 ≤ l.length) : (256 * ((l.getD 0 0).toNat : Int) + ((l.getD 1 0).toNat : Int)) = ((num 0 (l.take 2) : Nat) : Int) := by
  match l, h with
  | a :: b :: r, _ =>
    simp only [List.take_succ_cons, List.take_zero, num, List.getD_cons_zero, List.getD_cons_succ]
    omega
theorem fill_over (r e : List UInt8) (k : Nat) (hr : k < r.length) (he : k < e.length) (hl : e.length = 32) (hk : k < 32) : (r.take k ++ e.drop k).set k (r.getD k 0) = r.take (k + 1) ++ e.drop (k + 1) := by
  have h1 : (r.take k).length = k := by rw [List.length_take]; omega
  rw [List.drop_eq_getElem_cons he, List.set_append_right _ _ (by omega), h1, Nat.sub_self, List.set_cons_zero, List.take_succ_eq_append_getElem hr, List.append_assoc, List.getElem_eq_getD (0 : UInt8)]
  rfl
theorem getD_drop (l : List UInt8) (i j : Nat) : (l.drop i).getD j 0 = l.getD (i + j) 0 := by
  simp [List.getD, List.getElem?_drop]
set_option maxRecDepth 20000 in
theorem readR_small (l : List UInt8) (hl : l.length ≤ 34359730000) (h : l.length < 2 ∨ 256 < num 0 (l.take 2) ∨ (l.drop 2).length < (num 0 (l.take 2) + 7) / 8) : VC Try.prog 192 [.bs l none] [] (.tup [Pf.zero.av, .v (.bool false)]) := by
  have hz2 := z32_len
  simp only [Pf.zero, Pf.av, Nd.av, Nd.zero, bas, List.map_nil]
  by_cases hs : l.length < 2
  · refine mE Try.func192 ?_; intro N w0 a w hN hR H
    refine mW ?_; clear H; intro a w H
    refine mC H (fun hb => ?_) (fun hb => ?_)
    · refine mW ?_; clear H; intro a w H
      try simp only [hz] at H
      refine wp_ret ?_; exact mEnd [] [] [.cell 2 68, .tmp 3] [_, _] hN hR H
    · exfalso; rw [decide_eq_false_iff_not] at hb; omega
  · have h12 : (l.drop 2).length = l.length - 2 := List.length_drop
    have hb2 := num2_lt (l.take 2) (by rw [List.length_take]; omega)
    have hn2 := num_two' l (by omega)
    have hx0 := (l.getD 0 0).toNat_lt
    have hx1 := (l.getD 1 0).toNat_lt
    have hge : 2 ≤ l.length := by omega
    refine mE Try.func192 ?_; intro N w0 a w hN hR H
    refine mW ?_; clear H; intro a w H
    refine mC H (fun hb => ?_) (fun hb => ?_)
    · exfalso; rw [decide_eq_true_eq] at hb; omega
    · refine mW ?_; clear H; intro a w H
      refine mS ?_; refine mD 2 [] [] H ?_; clear H; intro gS H; refine mT ?_; clear H; intro a w H
      refine v_drawNil H ?_; clear H; intro H
      rw [hn2] at H
      generalize num 0 (l.take 2) = n at *
      clear hn2 hx0 hx1
      refine mW ?_; clear H; intro a w H
      refine mC H (fun hb => ?_) (fun hb => ?_)
      · refine mW ?_; clear H; intro a w H
        try simp only [hz] at H
        refine wp_ret ?_; exact mEnd [] [] [.cell 2 68, .tmp 3] [_, _] hN hR H
      · exfalso
        have h' : 256 < n ∨ l.length < 2 + (n + 7) / 8 := by omega
        rcases h' with h' | h'
        · rw [decide_eq_true (show (256 : Int) < (n : Int) by omega)] at hb; simp at hb
        · by_cases h6 : 256 < n
          · rw [decide_eq_true (show (256 : Int) < (n : Int) by omega)] at hb; simp at hb
          · rw [decide_eq_false (show ¬ (256 : Int) < (n : Int) by omega), decide_eq_true (show (l.length : Int) < 2 + ((n : Int) + 7) / 8 by omega)] at hb; simp at hb
set_option maxRecDepth 20000 in
set_option maxHeartbeats 2000000 in
theorem readR_main (l : List UInt8) (hl : l.length ≤ 34359730000) (hs : ¬ l.length < 2) (hn : ¬ 256 < num 0 (l.take 2)) (hq : ¬ (l.drop 2).length < (num 0 (l.take 2) + 7) / 8) :
    VC Try.prog 192 [.bs l none] [] (.tup [(rdR l).av, .v (.bool (rdQ l).2)]) := by
  have h12 : (l.drop 2).length = l.length - 2 := List.length_drop
  rw [h12] at hq
  have hge2 : 2 ≤ l.length := by omega
  rw [rdQ, if_neg hs, if_neg hn, if_neg (by rw [h12]; exact hq), rdR, if_neg hs, if_neg hn, if_neg (by rw [h12]; exact hq)]
  have hn2 := num_two' l hge2
  have hx0 := (l.getD 0 0).toNat_lt
  have hx1 := (l.getD 1 0).toNat_lt
  obtain ⟨n, hne⟩ : ∃ n, n = num 0 (l.take 2) := ⟨_, rfl⟩
  rw [← hne] at hn hq hn2 ⊢
  clear hne
  dsimp only
  obtain ⟨bits, hbits⟩ : ∃ bits, bits = (l.drop 2).take ((n + 7) / 8) := ⟨_, rfl⟩
  obtain ⟨l3, hl3⟩ : ∃ l3, l3 = (l.drop 2).drop ((n + 7) / 8) := ⟨_, rfl⟩
  rw [← hbits, ← hl3]
  have hl3d : l3 = l.drop (2 + (n + 7) / 8) := by rw [hl3, List.drop_drop]
  clear hl3
  obtain ⟨ms, hms⟩ : ∃ ms, ms = marksOf bits n := ⟨_, rfl⟩
  rw [← hms]
  have hml : ms.length = n := by rw [hms, pmarks_len]
  have hsum := sum_length [0]
  have eE : sum [0] = E0 := rfl
  rw [eE] at hsum
  have hem := emptyR_v
  rw [eE] at hem
  have hz2 := z32_len
  refine mE Try.func192 ?_; intro N w0 a w hN hR H
  refine mW ?_; clear H; intro a w H
  refine mC H (fun hb => ?_) (fun hb => ?_)
  · exfalso; rw [decide_eq_true_eq] at hb; omega
  · clear hb
    refine mW ?_; clear H; intro a w H
    refine mS ?_; refine mD 2 [] [] H ?_; clear H; intro gS H; refine mT ?_; clear H; intro a w H
    refine v_drawNil H ?_; clear H; intro H
    rw [hn2] at H
    clear hn2 hx0 hx1
    refine mW ?_; clear H; intro a w H
    have e6 : (2 : Int) + ((n : Int) + 7) / 8 = ((2 + (n + 7) / 8 : Nat) : Int) := by omega
    rw [e6] at H
    clear e6
    refine mC H (fun hb => ?_) (fun hb => ?_)
    · exfalso
      rw [decide_eq_false (show ¬ (256 : Int) < (n : Int) by omega), decide_eq_false (show ¬ (l.length : Int) < ((2 + (n + 7) / 8 : Nat) : Int) by omega)] at hb
      simp at hb
    · clear hb
      refine mW ?_; clear H; intro a w H
      have H := v_nilX tab_ok H 1 0 50 (j := ti50) (.ba 32) rfl (by decide) rfl rfl
      simp only [List.set_cons_succ, List.set_cons_zero, List.length_cons, List.length_nil, Nat.reduceAdd, List.cons_append, List.nil_append, hz] at H
      refine v_loop (fun i : Nat × List (List UInt8) × Nat => ⟨[(7, none, .v (.int .i64 (i.1 : Int))), (6, none, .v (.int .i64 (i.2.2 : Int))), (5, none, .v (.int .i64 (n : Int))), (4, none, .ptr 1 []), (3, none, .v (.bool false)), (2, none, .ptr 0 []), (0, none, .bs l none)],
        [(ti68.ty, .st [.v (.slice none 0 0), .st [.v (.int .u8 0), .ba z32, .ba z32, .ba z32, .ba z32]]), (ti68.ty, .st [.sl (.ba 32) (bas i.2.1) (some 0), .st [.v (.int .u8 0), .ba z32, .ba z32, .ba z32, .ba z32]])], [], [(50, i.2.1.length)]⟩)
        (fun i => At ms l3 (i.1, i.2.1, l.drop i.2.2, false) ∧ i.2.2 ≤ l.length) (fun i => n - i.1) (0, [], 2 + (n + 7) / 8) ⟨by dsimp only; rw [← hl3d]; exact at_start ms l3, by dsimp only; omega⟩ (H.to 2 1 ⟨Nat.le_trans hN (by decide), Nat.le_trans hR (by decide)⟩ ⟨rfl, rfl, rfl, rfl, rfl, rfl, rfl, trivial⟩ rfl rfl rfl rfl rfl) ?_
      clear H
      rintro ⟨k, ss, at_⟩ a w ⟨hat, hal⟩ H
      dsimp only at H hat hal
      have hk := hat.k
      have hsl := hat.len
      dsimp only at hk hsl
      have hbl' := bas_len ss
      refine mW ?_; clear H; intro a w H
      refine mC H (fun hb => ?_) (fun hb => ?_)
      · have hkn : k < n := by rw [decide_eq_true_eq] at hb; omega
        clear hb
        have e8 : ((2 : Int) + (k : Int) / 8).toNat = 2 + k / 8 := by omega
        have hdr := marks_drop bits n k hkn
        rw [← hms] at hdr
        have hkm : k < ms.length := by omega
        have hbc : bits.getD (k / 8) 0 = l.getD (2 + k / 8) 0 := by
          rw [hbits, ← getD_drop]
          simp only [List.getD, List.getElem?_take]
          rw [if_pos (by omega)]
        rw [hbc] at hdr
        obtain ⟨c, hc⟩ : ∃ c, c = l.getD (2 + k / 8) 0 := ⟨_, rfl⟩
        rw [← hc] at hdr
        have hc8 := c.toNat_lt
        have hX := And.intro @e8 (Eq.symm (hc))
        have hY := @e8
        refine mW ?_; clear H; intro a w H
        refine v_loop (fun j : Nat => ⟨[(9, none, .v (.int .i64 (j : Int))), (8, none, .v (.int .i64 ((c.toNat / 2 ^ j : Nat) : Int))), (7, none, .v (.int .i64 (k : Int))), (6, none, .v (.int .i64 (at_ : Int))), (5, none, .v (.int .i64 (n : Int))), (4, none, .ptr 1 []), (3, none, .v (.bool false)), (2, none, .ptr 0 []), (0, none, .bs l none)],
          [(ti68.ty, .st [.v (.slice none 0 0), .st [.v (.int .u8 0), .ba z32, .ba z32, .ba z32, .ba z32]]), (ti68.ty, .st [.sl (.ba 32) (bas ss) (some 0), .st [.v (.int .u8 0), .ba z32, .ba z32, .ba z32, .ba z32]])], [], [(50, ss.length)]⟩)
          (fun j => j ≤ 7 - k % 8) (fun j => 8 - j) 0 (Nat.zero_le _) (H.to 2 1 ⟨Nat.le_trans hN (by decide), Nat.le_trans hR (by decide)⟩ ⟨rfl, by rw [Nat.pow_zero, Nat.div_one]; rfl, rfl, rfl, rfl, rfl, rfl, rfl, rfl, trivial⟩ rfl rfl rfl rfl rfl) ?_
        clear H
        intro j a w hj H
        have hlt2 : c.toNat / 2 ^ j < 256 := Nat.lt_of_le_of_lt (Nat.div_le_self _ _) hc8
        obtain ⟨v, hv⟩ : ∃ v, v = c.toNat / 2 ^ j := ⟨_, rfl⟩
        rw [← hv] at H hlt2
        have hv' : PLift (v = c.toNat / 2 ^ j) := ⟨hv⟩
        clear hv
        clear hX
        clear hY
        refine mW ?_; clear H; intro a w H
        refine mC H (fun hb => ?_) (fun hb => ?_)
        · have hlt : j < 7 - k % 8 := by rw [decide_eq_true_eq] at hb; omega
          clear hb
          refine mW ?_; clear H; intro a w H
          have e2 : (v : Int) / 2 = ((c.toNat / 2 ^ (j + 1) : Nat) : Int) := by
            have hv : v = c.toNat / 2 ^ j := hv'.down
            rw [Nat.pow_succ, ← Nat.div_div_eq_div_mul, ← hv]; omega
          rw [e2] at H
          exact ⟨j + 1, hlt, by omega, H.to 2 1 ⟨Nat.le_trans hN (by decide), Nat.le_trans hR (by decide)⟩ ⟨rfl, rfl, rfl, rfl, rfl, rfl, rfl, rfl, rfl, trivial⟩ rfl rfl rfl rfl rfl⟩
        · have hge : j = 7 - k % 8 := by rw [decide_eq_false_iff_not] at hb; omega
          clear hb
          have hb2 : v % 2 = if bitAt c (k % 8) then 1 else 0 := by
            have hv : v = c.toNat / 2 ^ j := hv'.down
            rw [hv, hge]; exact half_bit c (k % 8) (by omega)
          clear hge hv' hj
          have hE33 : E0.drop 32 = [] := List.drop_eq_nil_of_le (by omega)
          refine mW ?_; clear H; intro a w H
          refine mCall [] [] (hem) H ?_; clear H; intro a w H; try refine wpList_nil ?_
          refine mW ?_; clear H; intro a w H
          refine mC H (fun hb => ?_) (fun hb => ?_)
          · have hbt : bitAt c (k % 8) = true := by
              cases h : bitAt c (k % 8)
              · rw [h] at hb2; rw [decide_eq_true_eq] at hb; simp at hb2; omega
              · rfl
            rw [hbt] at hdr
            clear hb hb2
            refine mW ?_; clear H; intro a w H
            have hrl : (l.drop at_).length = l.length - at_ := List.length_drop
            refine mC H (fun hb => ?_) (fun hb => ?_)
            · have hr : (l.drop at_).length < 32 := by rw [decide_eq_true_eq] at hb; omega
              have hbad := (at_bad (ms' := ms) hat hdr hkm hr).no rfl
              dsimp only at hbad
              rw [hbad]
              simp only [if_true, List.dropLast_concat]
              refine mW ?_; clear H; intro a w H
              simp only [Pf.av, Nd.av, Nd.zero]
              try simp only [hz] at H
              refine wp_ret ?_; exact mEnd [] [] [.cell 2 68, .tmp 3] [_, _] hN hR H
            · have hr : ¬ (l.drop at_).length < 32 := by rw [decide_eq_false_iff_not] at hb; omega
              clear hb
              refine mW ?_; clear H; intro a w H
              refine v_loop (fun j : Nat => ⟨[(11, none, .v (.int .i64 (j : Int))), (10, none, .ptr 2 []), (7, none, .v (.int .i64 (k : Int))), (6, none, .v (.int .i64 (at_ : Int))), (5, none, .v (.int .i64 (n : Int))), (4, none, .ptr 1 []), (3, none, .v (.bool false)), (2, none, .ptr 0 []), (0, none, .bs l none)],
                [(ti68.ty, .st [.v (.slice none 0 0), .st [.v (.int .u8 0), .ba z32, .ba z32, .ba z32, .ba z32]]), (ti68.ty, .st [.sl (.ba 32) (bas ss) (some 0), .st [.v (.int .u8 0), .ba z32, .ba z32, .ba z32, .ba z32]]), (.ba 32, .ba ((l.drop at_).take j ++ E0.drop j))], [], [(50, ss.length)]⟩)
                (fun j => j ≤ 32) (fun j => 32 - j) 0 (Nat.zero_le _) (H.to 3 1 ⟨Nat.le_trans hN (by decide), Nat.le_trans hR (by decide)⟩ ⟨rfl, rfl, rfl, rfl, rfl, rfl, rfl, rfl, rfl, trivial⟩ rfl rfl rfl rfl rfl) ?_
              clear H
              intro j a w hj H
              have hcl : ((l.drop at_).take j ++ E0.drop j).length = 32 := by rw [List.length_append, List.length_take, List.length_drop, List.length_drop, hsum]; omega
              refine mW ?_; clear H; intro a w H
              refine mC H (fun hb => ?_) (fun hb => ?_)
              · have hlt : j < 32 := by rw [decide_eq_true_eq] at hb; omega
                clear hb
                have e9 : ((at_ : Int) + (j : Int)).toNat = at_ + j := by omega
                have hx := (l.getD (at_ + j) 0).toNat_lt
                have hf := fill_over (l.drop at_) E0 j (by omega) (by omega) hsum hlt
                rw [getD_drop] at hf
                have hX := @e9
                have hY := And.intro @e9 (@hcl)
                refine mW ?_; clear H; intro a w H
                rw [hf] at H
                exact ⟨j + 1, hlt, by omega, H.to 3 1 ⟨Nat.le_trans hN (by decide), Nat.le_trans hR (by decide)⟩ ⟨rfl, rfl, rfl, rfl, rfl, rfl, rfl, rfl, rfl, trivial⟩ rfl rfl rfl rfl rfl⟩
              · have hge : j = 32 := by rw [decide_eq_false_iff_not] at hb; omega
                subst hge
                clear hb
                rw [hE33, List.append_nil] at H
                have h32 : ((l.drop at_).take 32).length = 32 := by rw [List.length_take]; omega
                have hnx := at_next (ms' := ms) (m := true) hat hdr hkm (fun h => hr h.2)
                simp only [if_true] at hnx
                rw [List.drop_drop] at hnx
                have hbs2 : bas (ss ++ [(l.drop at_).take 32]) = bas ss ++ [.ba ((l.drop at_).take 32)] := by simp [bas]
                generalize (l.drop at_).take 32 = h9 at *
                have hX := @hbl'
                have hY := @h32
                refine mW ?_; clear H; intro a w H
                exact ⟨(k + 1, ss ++ [h9], at_ + 32), ⟨hnx, by dsimp only; omega⟩, by dsimp only; omega, H.to 2 1 ⟨Nat.le_trans hN (by decide), Nat.le_trans hR (by decide)⟩ ⟨rfl, rfl, rfl, rfl, rfl, rfl, rfl, trivial⟩ (by dsimp only; rw [hbs2]; rfl) (by dsimp only; rw [List.length_append]; rfl) rfl rfl rfl⟩
          · have hbt : bitAt c (k % 8) = false := by
              cases h : bitAt c (k % 8)
              · rfl
              · rw [h] at hb2; rw [decide_eq_false_iff_not] at hb; simp at hb2; omega
            rw [hbt] at hdr
            clear hb hb2
            have hnx := at_next (ms' := ms) (m := false) hat hdr hkm (fun h => by cases h.1)
            simp only [Bool.false_eq_true, if_false] at hnx
            have hbs : bas (ss ++ [E0]) = bas ss ++ [.ba E0] := by simp [bas]
            have hX := @hbl'
            refine mW ?_; clear H; intro a w H
            exact ⟨(k + 1, ss ++ [E0], at_), ⟨hnx, hal⟩, by dsimp only; omega, H.to 2 1 ⟨Nat.le_trans hN (by decide), Nat.le_trans hR (by decide)⟩ ⟨rfl, rfl, rfl, rfl, rfl, rfl, rfl, trivial⟩ (by dsimp only; rw [hbs]; rfl) (by dsimp only; rw [List.length_append]; rfl) rfl rfl rfl⟩
      · have hge : k = n := by rw [decide_eq_false_iff_not] at hb; omega
        subst hge
        clear hb
        have hrun := hat.ok rfl
        dsimp only at hrun
        rw [← hml, List.drop_length] at hrun
        simp only [runS, List.append_nil] at hrun
        rw [hrun]
        simp only [Bool.false_eq_true, if_false]
        have hd := decodeR_v (l.drop at_)
        obtain ⟨k1, k2, k3, k4⟩ := id (dec_wf (l.drop at_))
        simp only [Nd.av] at hd
        refine mW ?_; clear H; intro a w H
        refine mCall [] [] (hd) H ?_; clear H; intro a w H; try refine wpList_nil ?_
        refine mW ?_; clear H; intro a w H
        by_cases hdo : decOk (l.drop at_)
        · rw [if_pos hdo] at H
          rw [decide_eq_true hdo]
          simp only [Pf.av, Nd.av]
          refine mW ?_; clear H; intro a w H
          refine wp_ret ?_; exact mEnd [] [] [.cell 2 68, .tmp 3] [_, _] hN hR H
        · rw [if_neg hdo] at H
          rw [decide_eq_false hdo]
          simp only [Pf.av, Nd.av]
          refine mW ?_; clear H; intro a w H
          refine wp_ret ?_; exact mEnd [] [] [.cell 2 68, .tmp 3] [_, _] hN hR H
theorem readR_v (l : List UInt8) (hl : l.length ≤ 34359730000) : VC Try.prog 192 [.bs l none] [] (.tup [(rdR l).av, .v (.bool (rdQ l).2)]) := by
  by_cases h : l.length < 2 ∨ 256 < num 0 (l.take 2) ∨ (l.drop 2).length < (num 0 (l.take 2) + 7) / 8
  · have h0 := readR_small l hl h
    have e : rdR l = Pf.zero ∧ (rdQ l).2 = false := by
      unfold rdR rdQ
      rcases h with h | h | h
      · rw [if_pos h, if_pos h]; exact ⟨rfl, rfl⟩
      · by_cases h1 : l.length < 2
        · rw [if_pos h1, if_pos h1]; exact ⟨rfl, rfl⟩
        · rw [if_neg h1, if_neg h1, if_pos h, if_pos h]; exact ⟨rfl, rfl⟩
      · by_cases h1 : l.length < 2
        · rw [if_pos h1, if_pos h1]; exact ⟨rfl, rfl⟩
        · by_cases h2 : 256 < num 0 (l.take 2)
          · rw [if_neg h1, if_neg h1, if_pos h2, if_pos h2]; exact ⟨rfl, rfl⟩
          · rw [if_neg h1, if_neg h1, if_neg h2, if_neg h2, if_pos h, if_pos h]; exact ⟨rfl, rfl⟩
    rw [e.1, e.2]; exact h0
  · exact readR_main l hl (fun e => h (.inl e)) (fun e => h (.inr (.inl e))) (fun e => h (.inr (.inr e)))
set_option maxRecDepth 20000 in
set_option maxHeartbeats 1000000 in
theorem decPR_v (l : List UInt8) (hl : l.length ≤ 34359730000) : VC Try.prog 125 [.bs l none] [] (.tup [(pDec l).av, errv (if pOk l then 0 else 10)]) := by
  have hz2 := z32_len
  have hrd := readR_v l hl
  have hrk := rdR_ok l
  have hrw := rdR_wf l
  have hp : pOk l ↔ (rdQ l).2 = true ∧ (rdQ l).1.chk = 0 ∧ (rdQ l).1.text = l := Iff.rfl
  obtain ⟨q, hq⟩ : ∃ q, q = rdR l := ⟨_, rfl⟩
  rw [← hq] at hrd hrk hrw
  clear hq
  obtain ⟨g1, g2, g3, g4⟩ := id hrw.e
  cases hok : (rdQ l).2
  · rw [hok] at hrd
    have hno : ¬ pOk l := fun h => by rw [hp, hok] at h; cases h.1
    rw [if_neg hno, pDec, if_neg hno]
    refine mE Try.func125 ?_; intro N w0 a w hN hR H
    refine mW ?_; clear H; intro a w H
    simp only [Pf.av, Nd.av] at hrd
    refine mCall [] [] (hrd) H ?_; clear H; intro a w H; try refine wpList_nil ?_
    refine mW ?_; clear H; intro a w H
    refine mC H (fun hb => ?_) (fun hb => ?_)
    · refine mW ?_; clear H; intro a w H
      simp only [Pf.zero, Pf.av, Nd.av, Nd.zero, bas, List.map_nil]
      try simp only [hz] at H
      refine wp_ret ?_; exact mEnd [] [] [.cell 2 68, .tmp 3] [_, _] hN hR H
    · simp at hb
  · rw [hok] at hrd
    have hqe := hrk hok
    by_cases hc : q.chk = 0
    · have h2 := encR_ok q hrw hc
      by_cases ht : q.text = l
      · have hyes : pOk l := hp.2 ⟨hok, by rw [← hqe]; exact hc, by rw [← hqe]; exact ht⟩
        rw [if_pos hyes, pDec, if_pos hyes, ← hqe]
        refine mE Try.func125 ?_; intro N w0 a w hN hR H
        refine mW ?_; clear H; intro a w H
        simp only [Pf.av, Nd.av] at hrd h2
        refine mCall [] [] (hrd) H ?_; clear H; intro a w H; try refine wpList_nil ?_
        refine mW ?_; clear H; intro a w H
        refine mC H (fun hb => ?_) (fun hb => ?_)
        · simp at hb
        · refine mW ?_; clear H; intro a w H
          refine mCall [] [] (h2) H ?_; clear H; intro a w H; try refine wpList_nil ?_
          refine mW ?_; clear H; intro a w H
          refine mC H (fun hb => ?_) (fun hb => ?_)
          · exfalso; rw [ht] at hb; simp at hb
          · refine mW ?_; clear H; intro a w H
            simp only [Pf.av, Nd.av]
            refine wp_ret ?_; exact mEnd [] [] [.cell 2 68, .tmp 3] [_, _] hN hR H
      · have hno : ¬ pOk l := fun h => ht (by rw [hqe]; exact h.2.2)
        rw [if_neg hno, pDec, if_neg hno]
        refine mE Try.func125 ?_; intro N w0 a w hN hR H
        refine mW ?_; clear H; intro a w H
        simp only [Pf.av, Nd.av] at hrd h2
        refine mCall [] [] (hrd) H ?_; clear H; intro a w H; try refine wpList_nil ?_
        refine mW ?_; clear H; intro a w H
        refine mC H (fun hb => ?_) (fun hb => ?_)
        · simp at hb
        · refine mW ?_; clear H; intro a w H
          refine mCall [] [] (h2) H ?_; clear H; intro a w H; try refine wpList_nil ?_
          refine mW ?_; clear H; intro a w H
          refine mC H (fun hb => ?_) (fun hb => ?_)
          · refine mW ?_; clear H; intro a w H
            simp only [Pf.zero, Pf.av, Nd.av, Nd.zero, bas, List.map_nil]
            try simp only [hz] at H
            refine wp_ret ?_; exact mEnd [] [] [.cell 2 68, .tmp 3] [_, _] hN hR H
          · exfalso; simp [strOf_list] at hb; exact ht hb
    · have h2 := encR_bad q hrw hc
      have hno : ¬ pOk l := fun h => hc (by rw [hqe]; exact h.2.1)
      rw [if_neg hno, pDec, if_neg hno]
      refine mE Try.func125 ?_; intro N w0 a w hN hR H
      refine mW ?_; clear H; intro a w H
      simp only [Pf.av, Nd.av] at hrd h2
      refine mCall [] [] (hrd) H ?_; clear H; intro a w H; try refine wpList_nil ?_
      refine mW ?_; clear H; intro a w H
      refine mC H (fun hb => ?_) (fun hb => ?_)
      · simp at hb
      · refine mW ?_; clear H; intro a w H
        refine mCall [] [] (h2) H ?_; clear H; intro a w H; try refine wpList_nil ?_
        refine mW ?_; clear H; intro a w H
        refine mC H (fun hb => ?_) (fun hb => ?_)
        · refine mW ?_; clear H; intro a w H
          simp only [Pf.zero, Pf.av, Nd.av, Nd.zero, bas, List.map_nil]
          try simp only [hz] at H
          refine wp_ret ?_; exact mEnd [] [] [.cell 2 68, .tmp 3] [_, _] hN hR H
        · exfalso; simp [hc] at hb
end Go.Proofs.Ytigmpdhnhkdeiaa
/- A region at a function's end in which the named results are loaded and stored again: nothing changes. -/
namespace Go.Proofs.Ytigmpdhnhkdeiaa
open Go Go.RowKit
section
variable {P : Program} {τ : Tab} {w0 w : World} {N : Gh} {st : St} {nt : Nat} {a : Act}
end
end Go.Proofs.Ytigmpdhnhkdeiaa
/- What bytes say to whoever knows the root: verify, and the document's. -/
namespace Go.Proofs.Ytigmpdhnhkdeiaa
open Go Go.RowKit
def vErr (l : List UInt8) : Int := if pOk l then 0 else 10
theorem pDec_wf (l : List UInt8) : (pDec l).wf := by unfold pDec; split; exact rdQ_wf l; exact pzero_wf
theorem pDec_chk {l : List UInt8} (h : pOk l) : (pDec l).chk = 0 := by rw [pDec, if_pos h]; exact h.2.1
end Go.Proofs.Ytigmpdhnhkdeiaa
/- The texts of a proof, from the top on (plain). -/
namespace Go.Proofs.Ytigmpdhnhkdeiaa
open Go Go.RowKit
def textD (key : List UInt8) (d : Nat) (x below : List UInt8) : List UInt8 := 2 :: (if bitN key d then x ++ sum below else sum below ++ x)
def tx (key : List UInt8) : Nat → List (List UInt8) → List UInt8 → List (List UInt8)
  | _, [], e => [e]
  | d, x :: r, e => textD key d x ((tx key (d + 1) r e).headD []) :: tx key (d + 1) r e
theorem tx_len (key e : List UInt8) : ∀ d s, (tx key d s e).length = s.length + 1
  | _, [] => rfl
  | d, _ :: r => by simp [tx, tx_len key e (d + 1) r]
theorem textD_len (key : List UInt8) (d : Nat) (x b : List UInt8) (hx : x.length = 32) : (textD key d x b).length = 65 := by
  unfold textD
  have := sum_length b
  split <;> simp <;> omega
theorem tx_head (key e : List UInt8) (he : e.length ≤ 65) : ∀ d s, (∀ h ∈ s, h.length = 32) → ((tx key d s e).headD []).length ≤ 65
  | _, [], _ => he
  | d, x :: r, hs => by simp only [tx, List.headD_cons]; rw [textD_len _ _ _ _ (hs x List.mem_cons_self)]; exact Nat.le_refl _
theorem tx_drop (key e : List UInt8) (s : List (List UInt8)) (k : Nat) (hk : k < s.length) : tx key k (s.drop k) e = textD key k (s.getD k []) ((tx key (k + 1) (s.drop (k + 1)) e).headD []) :: tx key (k + 1) (s.drop (k + 1)) e := by
  rw [List.drop_eq_getElem_cons hk, List.getElem_eq_getD []]; rfl
def txs (key l : List UInt8) : List (List UInt8) := if pOk l then tx key 0 (pDec l).s (pDec l).e.text else []
theorem bss_snoc (ls : List (List UInt8)) (x : List UInt8) : bss (ls ++ [x]) = bss ls ++ [.bs x none] := by simp [bss]
theorem cutG {B R : Act → World → Prop} {G : Prop} (h : (∀ a w, R a w → B a w) → G) (k : ∀ a w, R a w → B a w) : G := h k
end Go.Proofs.Ytigmpdhnhkdeiaa
/- The arguments of a statement, as values; what a statement's form asks for, out of a contract in values. -/
namespace Go.Proofs.Ytigmpdhnhkdeiaa
open Go Go.RowKit
theorem bulk_part {H : Type} {d : DataW H} : ∀ {l : List (DataW H)}, d ∈ l → Rows.uptoBulk d ≤ Rows.uptoBulkAll l
  | x :: l, h => by
    rcases List.mem_cons.1 h with e | e
    · subst e; simp only [Rows.uptoBulkAll]; omega
    · have := bulk_part e; simp only [Rows.uptoBulkAll]; omega
theorem bulk_one {H : Type} (d : DataW H) : 1 ≤ Rows.uptoBulk d := by
  cases d with
  | lit l => cases l <;> simp [Rows.uptoBulk]
  | _ => simp [Rows.uptoBulk]
theorem bulk_len {H : Type} : ∀ l : List (DataW H), l.length ≤ Rows.uptoBulkAll l
  | [] => by simp
  | x :: l => by have := bulk_one x; have := bulk_len l; simp only [Rows.uptoBulkAll, List.length_cons]; omega
def isU8 (τ : Tab) (e : Nat) : Bool := match Tab.get e τ with
  | some j => (match j.d with | .int .u8 => true | _ => false)
  | none => false
def tyOf (τ : Tab) (e : Nat) : Ty := match Tab.get e τ with
  | some j => j.ty
  | none => .sc
def ShL (f : Nat → AV → Prop) : List Nat → List AV → Prop
  | [], [] => True
  | t :: ts, a :: az => f t a ∧ ShL f ts az
  | _, _ => False
/-- The values that a type may have: each stretch no longer than M. -/
def Sh (τ : Tab) (M : Nat) : Nat → Nat → AV → Prop
  | 0, _, _ => False
  | d + 1, t, a => match (Tab.get t τ).map TI.d with
    | some (.int k) => ∃ n, a = .v (.int k n) ∧ ilo k ≤ n ∧ n ≤ ihi k
    | some .bool => ∃ b, a = .v (.bool b)
    | some .str => ∃ s : ByteArray, a = .v (.string s) ∧ s.size ≤ M
    | some (.slc e) => if isU8 τ e then ∃ l, a = .bs l none ∧ l.length ≤ M else ∃ es, a = .sl (tyOf τ e) es none ∧ es.length ≤ M ∧ ∀ x ∈ es, Sh τ M d e x
    | some (.arr n _) => ∃ l, a = .ba l ∧ l.length = n
    | some (.rcd fs) => ∃ az, a = .st az ∧ ShL (Sh τ M d) (fs.map (·.2)) az
    | _ => False
def lay (τ : Tab) : List (Nat × Nat) → Nat → Ty → Bool
  | [], _, .nl => true
  | (o, t) :: fs, off, .cn T Ts => o == off && (Tab.get t τ).isSome && tyOf τ t == T && lay τ fs (off + T.size) Ts
  | _, _, _ => false
def okT (τ : Tab) : Nat → Nat → Bool
  | 0, _ => false
  | d + 1, t => match Tab.get t τ with
    | some i => (match i.d with
      | .int _ => i.ty == .sc
      | .bool => i.ty == .sc
      | .str => i.ty == .sc
      | .slc e => i.ty == .sc && (Tab.get e τ).isSome && decide (0 < (tyOf τ e).size) && (isU8 τ e && tyOf τ e == .sc || !isU8 τ e && okT τ d e)
      | .arr n e => isU8 τ e && i.ty == .ba n && tyOf τ e == .sc
      | .rcd fs => lay τ fs 0 i.ty && i.ty.agg && fs.all fun f => okT τ d f.2
      | _ => false)
    | none => false
section
variable {τ : Tab} {M d t : Nat} {a : AV} {i : TI}
theorem Sh.int {k : IntKind} (ht : Tab.get t τ = some i) (hd : i.d = .int k) (h : Sh τ M (d + 1) t a) : ∃ n, a = .v (.int k n) ∧ ilo k ≤ n ∧ n ≤ ihi k := by
  unfold Sh at h; simp only [ht, Option.map_some, hd] at h; exact h
theorem Sh.bool (ht : Tab.get t τ = some i) (hd : i.d = .bool) (h : Sh τ M (d + 1) t a) : ∃ b, a = .v (.bool b) := by
  unfold Sh at h; simp only [ht, Option.map_some, hd] at h; exact h
theorem Sh.str (ht : Tab.get t τ = some i) (hd : i.d = .str) (h : Sh τ M (d + 1) t a) : ∃ s : ByteArray, a = .v (.string s) ∧ s.size ≤ M := by
  unfold Sh at h; simp only [ht, Option.map_some, hd] at h; exact h
theorem Sh.bytes {e : Nat} (ht : Tab.get t τ = some i) (hd : i.d = .slc e) (hu : isU8 τ e = true) (h : Sh τ M (d + 1) t a) : ∃ l, a = .bs l none ∧ l.length ≤ M := by
  unfold Sh at h; simp only [ht, Option.map_some, hd, hu, if_true] at h; exact h
theorem Sh.slc {e : Nat} (ht : Tab.get t τ = some i) (hd : i.d = .slc e) (hu : isU8 τ e = false) (h : Sh τ M (d + 1) t a) : ∃ es, a = .sl (tyOf τ e) es none ∧ es.length ≤ M ∧ ∀ x ∈ es, Sh τ M d e x := by
  unfold Sh at h; simp only [ht, Option.map_some, hd, hu, Bool.false_eq_true, if_false] at h; exact h
theorem Sh.arr {n e : Nat} (ht : Tab.get t τ = some i) (hd : i.d = .arr n e) (h : Sh τ M (d + 1) t a) : ∃ l, a = .ba l ∧ l.length = n := by
  unfold Sh at h; simp only [ht, Option.map_some, hd] at h; exact h
theorem Sh.rcd {fs : List (Nat × Nat)} (ht : Tab.get t τ = some i) (hd : i.d = .rcd fs) (h : Sh τ M (d + 1) t a) : ∃ az, a = .st az ∧ ShL (Sh τ M d) (fs.map (·.2)) az := by
  unfold Sh at h; simp only [ht, Option.map_some, hd] at h; exact h
theorem shl_nil {f : Nat → AV → Prop} {az : List AV} (h : ShL f [] az) : az = [] := by
  cases az with
  | nil => rfl
  | cons _ _ => exact h.elim
theorem shl_cons {f : Nat → AV → Prop} {t : Nat} {ts : List Nat} {az : List AV} (h : ShL f (t :: ts) az) : ∃ a r, az = a :: r ∧ f t a ∧ ShL f ts r := by
  cases az with
  | nil => exact h.elim
  | cons a r => exact ⟨a, r, rfl, h.1, h.2⟩
end
/-- All cells of a memory. -/
def allOf (w : World) : Gh := ⟨fun b o => w.cell? ⟨b, o, none⟩, [], []⟩
section
variable {H : Type} {enc : TypeId × Value → H} {P : Program} {τ : Tab} {w : World} {sp : Nat → Bool} {held : Bool} {M : Nat}
theorem wf_lohi {k : IntKind} {n : Int} (h : (Lit.int k n).wf = true) : ilo k ≤ n ∧ n ≤ ihi k := by
  cases k <;> simp [Lit.wf, IntKind.min, IntKind.max, IntKind.signed, IntKind.bits] at h <;> simp only [ilo, ihi] <;> omega
theorem isU8_ok (hτ : τ.ok P) {e : Nat} (h : isU8 τ e = true) : P.underlying e = some (.int .u8) := by
  unfold isU8 at h
  split at h
  · rename_i j hj
    have hok := (Tab.get_ok hτ hj).d
    split at h
    · rename_i hd; rw [hd] at hok; exact hok
    · cases h
  · cases h
theorem cells_ty (hτ : τ.ok P) {e : Nat} (h : (Tab.get e τ).isSome = true) : P.cellsOf e = (tyOf τ e).size := by
  unfold tyOf
  cases hj : Tab.get e τ with
  | none => rw [hj] at h; cases h
  | some j =>
    obtain ⟨inf, z, h1, h2, _⟩ := (Tab.get_ok hτ hj).info
    simp [Program.cellsOf, h1, h2]
theorem isU8_some {e : Nat} (h : isU8 τ e = true) : (Tab.get e τ).isSome = true := by
  unfold isU8 at h
  split at h
  · rename_i j hj; rw [hj]; rfl
  · cases h
theorem B8_of {n : Int} (h : 0 ≤ n ∧ n ≤ 255) : B8 (UInt8.ofNat n.toNat) = .int .u8 n := by
  simp only [B8, UInt8.toNat_ofNat']
  congr 1; omega
theorem trod_rc (hτ : τ.ok P) : ∀ (d : Nat) {t fuel : Nat} {cs : List Value} {x : DataW H × List MemPlace}, okT τ d t = true → DataW.trod enc P w 0 sp held fuel t cs = some x → Rows.uptoBulk x.1 ≤ M →
    ∃ a, Sh τ M d t a ∧ RC (allOf w) (tyOf τ t) a cs := by
  intro d
  induction d with
  | zero => intro t fuel cs x h; cases h
  | succ d ih =>
    intro t fuel cs x hok hx hM
    unfold okT at hok
    cases hg : Tab.get t τ with
    | none => rw [hg] at hok; cases hok
    | some i =>
    rw [hg] at hok
    have hi := Tab.get_ok hτ hg
    have hty : tyOf τ t = i.ty := by unfold tyOf; rw [hg]
    have hdd := hi.d
    have hsz : P.cellsOf t = i.ty.size := by rw [← hty]; exact cells_ty hτ (by rw [hg]; rfl)
    rw [hty]
    dsimp only at hok
    have sh : ∀ a, (match some i.d with
      | some (.int k) => ∃ n, a = AV.v (.int k n) ∧ ilo k ≤ n ∧ n ≤ ihi k
      | some .bool => ∃ b, a = .v (.bool b)
      | some .str => ∃ s : ByteArray, a = .v (.string s) ∧ s.size ≤ M
      | some (.slc e) => if isU8 τ e then ∃ l, a = .bs l none ∧ l.length ≤ M else ∃ es, a = .sl (tyOf τ e) es none ∧ es.length ≤ M ∧ ∀ x ∈ es, Sh τ M d e x
      | some (.arr n _) => ∃ l, a = .ba l ∧ l.length = n
      | some (.rcd fs) => ∃ az, a = .st az ∧ ShL (Sh τ M d) (fs.map (·.2)) az
      | _ => False) → Sh τ M (d + 1) t a := fun a h => by unfold Sh; rw [hg]; exact h
    generalize hdi : i.d = D' at hok hdd sh
    cases D' with
    | int k =>
      obtain ⟨n, rfl, rfl, hw⟩ := DataW.trod_int hdd hx
      rw [eq_of_beq hok]
      exact ⟨.v (.int k n), sh _ ⟨n, rfl, wf_lohi hw⟩, .v rfl⟩
    | bool =>
      obtain ⟨b, rfl, rfl⟩ := DataW.trod_bool hdd hx
      rw [eq_of_beq hok]
      exact ⟨.v (.bool b), sh _ ⟨b, rfl⟩, .v rfl⟩
    | str =>
      obtain ⟨s, rfl, rfl, hs⟩ := DataW.trod_string hdd hx
      rw [eq_of_beq hok]
      refine ⟨.v (.string s), sh _ ⟨s, rfl, ?_⟩, .v rfl⟩
      simp only [Rows.uptoBulk] at hM
      have : s.data.toList.length = s.size := by rw [Array.length_toList]; rfl
      omega
    | slc e =>
      simp only [Bool.and_eq_true, Bool.or_eq_true, Bool.not_eq_true', decide_eq_true_eq] at hok
      obtain ⟨⟨⟨h1, h2⟩, h3⟩, h4⟩ := hok
      have hce := cells_ty hτ h2
      rw [eq_of_beq h1]
      by_cases hu : isU8 τ e = true
      · have hu1 : tyOf τ e = .sc := by rcases h4 with h4 | h4; exact eq_of_beq h4.2; rw [h4.1] at hu; cases hu
        have hs0 : P.cellsOf e = 1 := by rw [hce, hu1]; rfl
        rcases ChangeShapes.open_ints hdd (isU8_ok hτ hu) hs0 hx with ⟨rfl, rfl⟩ | ⟨A, len, cap, zs, rfl, _, hl, hm, hz, rfl, hc, hw⟩
        · refine ⟨.bs [] none, sh _ ?_, RC.nil1 rfl⟩
          show ite _ _ _
          rw [if_pos hu]; exact ⟨[], rfl, Nat.zero_le _⟩
        · have hlz : len ≤ zs.length := by rw [hz]; split <;> omega
          have hll : ((zs.take len).map fun n => UInt8.ofNat n.toNat).length = len := by simp [hlz]
          refine ⟨.bs ((zs.take len).map fun n => UInt8.ofNat n.toNat) none, sh _ ?_, ?_⟩
          · show ite _ _ _
            rw [if_pos hu]
            refine ⟨_, rfl, ?_⟩
            rw [hll]
            simp only [Rows.uptoBulk] at hM
            have h5 := bulk_len (ChangeShapes.lits (H := H) .u8 (zs.take len))
            have h6 : (ChangeShapes.lits (H := H) .u8 (zs.take len)).length = len := by simp [ChangeShapes.lits, hlz]
            omega
          · have := RC.bs (g := allOf w) (l := (zs.take len).map fun n => UInt8.ofNat n.toNat) (tok := none) (A := some A) (c := cap) (by rw [hll]; exact hl) hm ?_ (fun i hi => by cases hi)
            · rw [hll] at this; exact this
            · rcases Nat.eq_zero_or_pos len with h0 | h0
              · left; rw [h0]; rfl
              · right
                obtain ⟨b, o, rfl, hcc⟩ := ints_at hc (by omega)
                refine ⟨b, o, rfl, fun j hj => ?_⟩
                rw [hll] at hj
                have h7 := hcc j (by omega)
                show w.cell? _ = _
                rw [h7]
                have h8 : zs.getD j 0 = zs[j]'(by omega) := by simp [List.getD, show j < zs.length by omega]
                have h9 := wf_lohi (hw _ (List.getElem_mem (show j < zs.length by omega)))
                simp only [ilo, ihi] at h9
                rw [h8]
                simp only [List.getElem_map, List.getElem_take]
                rw [B8_of h9]
      · have h4' : okT τ d e = true := by rcases h4 with h4 | h4; exact absurd h4.1 hu; exact h4.2
        rcases DataW.trod_slice hdd hx with ⟨rfl, rfl⟩ | ⟨A, len, cap, elems, rest, n, _, rfl, rfl, _, hl, hm, hlen, hel, _, _⟩
        · refine ⟨.sl (tyOf τ e) [] none, sh _ ?_, RC.nil2 rfl⟩
          show ite _ _ _
          rw [if_neg hu]; exact ⟨[], rfl, Nat.zero_le _, fun x hx => by cases hx⟩
        · simp only [Rows.uptoBulk] at hM
          have hb1 := bulk_len (elems.map (·.1))
          rw [List.length_map, hlen] at hb1
          have each : ∀ k, ∃ p : List Value × AV, k < len → w.cells? 0 (A.add (k * P.cellsOf e)) (P.cellsOf e) = some p.1 ∧ Sh τ M d e p.2 ∧ RC (allOf w) (tyOf τ e) p.2 p.1 := fun k => by
            by_cases hk : k < len
            · have h5 := hel k hk
              rw [List.getElem?_eq_getElem (by omega)] at h5
              obtain ⟨cs', h6, h7⟩ := Option.bind_eq_some_iff.1 h5
              have h8 : Rows.uptoBulk (elems[k]'(by omega)).1 ≤ M := by
                have := bulk_part (List.mem_map_of_mem (f := (·.1)) (List.getElem_mem (show k < elems.length by omega)))
                omega
              obtain ⟨a, ha1, ha2⟩ := ih h4' h7 h8
              exact ⟨(cs', a), fun _ => ⟨h6, ha1, ha2⟩⟩
            · exact ⟨([], .any), fun h => absurd h hk⟩
          obtain ⟨f, hf⟩ := Classical.axiomOfChoice each
          have hll : ((List.range len).map fun k => (f k).2).length = len := by simp
          refine ⟨.sl (tyOf τ e) ((List.range len).map fun k => (f k).2) none, sh _ ?_, ?_⟩
          · show ite _ _ _
            rw [if_neg hu]
            refine ⟨_, rfl, by rw [hll]; omega, fun x hx => ?_⟩
            obtain ⟨k, hk, rfl⟩ := List.mem_map.1 hx
            exact (hf k (List.mem_range.1 hk)).2.1
          · have := RC.sl (g := allOf w) (T := tyOf τ e) (es := (List.range len).map fun k => (f k).2) (tok := none) (A := some A) (c := cap) (by rw [hll]; exact hl) hm (fun k => (f k).1) ?_ (fun k hk => ?_) (fun i hi => by cases hi)
            · rw [hll] at this; exact this
            · rcases Nat.eq_zero_or_pos len with h0 | h0
              · left; rw [h0]; rfl
              · right
                obtain ⟨b, o, spot⟩ := A
                have hs0 : spot = none := by
                  obtain ⟨_, h6, h7⟩ := World.cells?_some (hf 0 h0).1
                  have h8 := h7 0 (by omega)
                  have : 0 < (f 0).1.length := by omega
                  rw [List.getElem?_eq_getElem this] at h8
                  have := World.cell?_spot h8
                  simpa [Addr.add] using this
                subst hs0
                refine ⟨b, o, rfl, fun k hk j u hu => ?_⟩
                rw [hll] at hk
                obtain ⟨_, h6, h7⟩ := World.cells?_some (hf k hk).1
                have hj := (List.getElem?_eq_some_iff.1 hu).1
                have h8 := h7 j (by omega)
                rw [hu, addr_add, addr_add, hce] at h8
                exact h8
            · have hk' : k < len := by rw [hll] at hk; exact hk
              simp only [List.getElem_map, List.getElem_range]
              exact (hf k hk').2.2
    | arr n e =>
      simp only [Bool.and_eq_true] at hok
      obtain ⟨⟨h1, h2⟩, h3⟩ := hok
      have hce : P.cellsOf e = 1 := by rw [cells_ty hτ (isU8_some h1), eq_of_beq h3]; rfl
      obtain ⟨xs, m, _, rfl, hcl, hxl, hx1⟩ := DataW.trod_array hdd.1 hx
      rw [eq_of_beq h2]
      have hn : cs.length = n := by rw [hcl, hsz, eq_of_beq h2]; rfl
      have key : ∀ k (hk : k < cs.length), ∃ q : Int, cs[k] = .int .u8 q ∧ 0 ≤ q ∧ q ≤ 255 := fun k hk => by
        have h5 := hx1 k (by omega)
        rw [List.getElem?_eq_getElem (by omega)] at h5
        obtain ⟨q, h6, _, h7⟩ := DataW.trod_int (isU8_ok hτ h1) h5
        rw [hce, Nat.mul_one] at h6
        have h8 : ((cs.drop k).take 1)[0]? = some (.int .u8 q) := by rw [h6]; rfl
        rw [List.getElem?_take, if_pos (by decide), List.getElem?_drop, Nat.add_zero, List.getElem?_eq_getElem hk] at h8
        injection h8 with h8
        have := wf_lohi h7
        exact ⟨q, h8, this⟩
      have hcs : cs = (cs.map fun v => match v with | .int _ q => UInt8.ofNat q.toNat | _ => 0).map B8 := by
        apply List.ext_getElem
        · simp
        · intro k hk _
          obtain ⟨q, h5, h6⟩ := key k hk
          simp only [List.getElem_map, h5]
          exact (B8_of h6).symm
      obtain ⟨l, hl⟩ : ∃ l : List UInt8, cs = l.map B8 := ⟨_, hcs⟩
      subst hl
      exact ⟨.ba l, sh _ ⟨l, rfl, by simpa using hn⟩, .ba (by simpa using hn)⟩
    | rcd fs =>
      simp only [Bool.and_eq_true, List.all_eq_true] at hok
      obtain ⟨⟨h1, h2⟩, h3⟩ := hok
      obtain ⟨F, hu, hF, _⟩ := hdd
      obtain ⟨xs, m, _, rfl, hcl, hxl, hx1⟩ := DataW.trod_struct hu hx
      simp only [Rows.uptoBulk] at hM
      rw [hsz] at hcl
      have key : ∀ (L : List (Nat × Nat)) (off : Nat) (T : Ty) (k : Nat), fs.drop k = L → lay τ L off T = true → cs.length = off + T.size → ∃ az, ShL (Sh τ M d) (L.map (·.2)) az ∧ RC (allOf w) T (.st az) (cs.drop off) := by
        intro L
        induction L with
        | nil =>
          intro off T k _ hlay hc
          cases T with
          | nl => rw [show cs.drop off = [] from List.drop_eq_nil_of_le (by rw [hc]; exact Nat.le_refl _)]; exact ⟨[], trivial, .nl⟩
          | _ => cases hlay
        | cons p L ihL =>
          intro off T k hk hlay hc
          cases T with
          | cn T Ts =>
            obtain ⟨o, ft⟩ := p
            simp only [lay, Bool.and_eq_true] at hlay
            obtain ⟨⟨⟨h4, h5⟩, h6⟩, h7⟩ := hlay
            obtain rfl := eq_of_beq h4
            obtain rfl := eq_of_beq h6
            have hfk : fs[k]? = some (o, ft) := by
              have : (fs.drop k)[0]? = some (o, ft) := by rw [hk]; rfl
              rw [List.getElem?_drop, Nat.add_zero] at this; exact this
            have hFk : ∃ fl, F[k]? = some fl ∧ fl.offset = o ∧ fl.type = ft := by
              rw [← hF, List.getElem?_map] at hfk
              obtain ⟨fl, h8, h9⟩ := Option.map_eq_some_iff.1 hfk
              simp only [Prod.mk.injEq] at h9
              exact ⟨fl, by simpa using h8, h9.1, h9.2⟩
            obtain ⟨fl, hfl, rfl, rfl⟩ := hFk
            have h8 := hx1 k fl hfl
            have hkx : k < xs.length := by rw [hxl]; have := (Array.getElem?_eq_some_iff.1 hfl).1; exact this
            rw [List.getElem?_eq_getElem hkx] at h8
            have h9 : Rows.uptoBulk xs[k].1 ≤ M := by
              have := bulk_part (List.mem_map_of_mem (f := (·.1)) (List.getElem_mem hkx))
              omega
            obtain ⟨a, ha1, ha2⟩ := ih (h3 _ (List.mem_of_getElem? hfk)) h8 h9
            obtain ⟨az, hz1, hz2⟩ := ihL (fl.offset + (tyOf τ fl.type).size) Ts (k + 1) (by rw [← List.drop_drop, hk]; rfl) h7 (by rw [hc]; simp only [Ty.size]; omega)
            refine ⟨a :: az, ⟨ha1, hz1⟩, ?_⟩
            have := RC.cn ha2 hz2
            rw [cells_ty hτ h5, ← List.drop_drop, List.take_append_drop] at this
            exact this
          | _ => cases hlay
      obtain ⟨az, hz1, hz2⟩ := key fs 0 i.ty 0 rfl h1 (by rw [hcl]; omega)
      exact ⟨.st az, sh _ ⟨az, rfl, hz1⟩, hz2⟩
    | _ => cases hok
theorem arg_rv (hτ : τ.ok P) {d t b0 : Nat} {r : Reach} {v : Value} {x : DataW H} {ps : List MemPlace} (hok : okT τ d t = true) (hval : Value.okWide P w r b0 t v) (hx : DataW.Trod enc P w 0 sp held t v x ps) (hM : Rows.uptoBulk x ≤ M) :
    ∃ a, Sh τ M d t a ∧ RV (allOf w) a v := by
  obtain ⟨fuel, hf⟩ := hx
  obtain ⟨a, h1, h2⟩ := trod_rc hτ d hok hf hM
  refine ⟨a, h1, ?_⟩
  cases d with
  | zero => cases hok
  | succ d =>
  unfold okT at hok
  cases hg : Tab.get t τ with
  | none => rw [hg] at hok; cases hok
  | some i =>
  rw [hg] at hok
  have hdd := (Tab.get_ok hτ hg).d
  have hty : tyOf τ t = i.ty := by unfold tyOf; rw [hg]
  rw [hty] at h2
  dsimp only at hok
  have hag : i.ty.agg = true → (∃ cs, v = .agg cs) → RV (allOf w) a v := fun h3 ⟨cs, hv⟩ => by
    subst hv
    refine (show RV1 (allOf w) a (.agg cs) from .inl ⟨i.ty, cs.toList, h3, h2, rfl⟩).rv
  have hsc : i.ty = .sc → v.cells.toList = [v] → RV (allOf w) a v := fun h3 hv => by
    rw [h3, hv] at h2; exact h2.rvp
  generalize i.d = D' at hok hdd
  cases D' with
  | int k => obtain ⟨n, rfl⟩ := WideShapes.okWide_int hdd hval; exact hsc (eq_of_beq hok) rfl
  | bool => obtain ⟨n, rfl⟩ := WideShapes.okWide_bool hdd hval; exact hsc (eq_of_beq hok) rfl
  | str => obtain ⟨n, rfl⟩ := WideShapes.okWide_string hdd hval; exact hsc (eq_of_beq hok) rfl
  | slc e =>
    obtain ⟨A, len, cap, rfl⟩ := WideShapes.okWide_slice hdd hval
    simp only [Bool.and_eq_true] at hok
    exact hsc (eq_of_beq hok.1.1.1) rfl
  | arr n e =>
    simp only [Bool.and_eq_true] at hok
    have hu := hdd.1
    simp only [Value.okWide, hu] at hval
    obtain ⟨cs, rfl, _⟩ := hval
    exact hag (by rw [eq_of_beq hok.1.2]; rfl) ⟨cs, rfl⟩
  | rcd fs =>
    simp only [Bool.and_eq_true] at hok
    obtain ⟨F, hu, _⟩ := hdd
    obtain ⟨cs, rfl, _⟩ := WideShapes.okWide_struct hu hval
    exact hag hok.1.2 ⟨cs, rfl⟩
  | _ => cases hok
/-- All arguments. -/
theorem args_rv (hτ : τ.ok P) {d b0 : Nat} {r : Reach} : ∀ {ts : List TypeId} {vs : List Value} {ds : List (DataW H)} {ps : List MemPlace}, (ts.all fun t => okT τ d t) = true → DataW.TrodAll enc P w 0 sp held ts vs ds ps →
    (∀ (j : Nat) t v, ts[j]? = some t → vs[j]? = some v → Value.okWide P w r b0 t v) → Rows.uptoBulkAll ds ≤ M →
    ∃ az, ShL (Sh τ M d) ts az ∧ vs.length = az.length ∧ ∀ (i : Nat) x v, az[i]? = some x → vs[i]? = some v → RV (allOf w) x v
  | [], [], [], _, _, _, _, _ => ⟨[], trivial, rfl, fun i x v h => by simp at h⟩
  | t :: ts, v :: vs, x :: ds, _, hok, h, hval, hM => by
    obtain ⟨p, q, h1, h2, _⟩ := h
    simp only [List.all_cons, Bool.and_eq_true] at hok
    simp only [Rows.uptoBulkAll] at hM
    obtain ⟨a, ha1, ha2⟩ := arg_rv (M := M) hτ hok.1 (hval 0 t v rfl rfl) h1 (by omega)
    obtain ⟨az, hz1, hz2, hz3⟩ := args_rv hτ hok.2 h2 (fun j t v hj hv => hval (j + 1) t v hj hv) (by omega)
    refine ⟨a :: az, ⟨ha1, hz1⟩, by simp [hz2], fun i y u hy hu => ?_⟩
    cases i with
    | zero =>
      simp only [List.getElem?_cons_zero, Option.some.injEq] at hy hu
      subst hy hu; exact ha2
    | succ i => exact hz3 i y u (by simpa using hy) (by simpa using hu)
  | [], _ :: _, _, _, _, h, _, _ => by cases h
  | [], [], _ :: _, _, _, h, _, _ => by cases h
  | _ :: _, [], _, _, _, h, _, _ => by cases h
  | _ :: _, _ :: _, [], _, _, h, _, _ => by cases h
theorem allOf_inv (P : Program) (w : World) : Inv P w (allOf w) (allOf w) [] [] [] w := by
  have nb : ∀ (i : Nat) (x : Bx), (allOf w).bx[i]? = some x → False := fun i x h => by simp [allOf] at h
  have nr : ∀ (i : Nat) (x : Rw), (allOf w).rw[i]? = some x → False := fun i x h => by simp [allOf] at h
  refine ⟨⟨fun b o u h => h, fun i x hx => (nb i x hx).elim, fun i x hx => (nb i x hx).elim, fun i x hx => (nb i x hx).elim, fun i r hr => (nr i r hr).elim, fun i x hx => (nb i x hx).elim, fun i x hx => (nb i x hx).elim, fun i j x y hx => (nb i x hx).elim, fun i r k hr => (nr i r hr).elim, fun i r k hr => (nr i r hr).elim, fun i j x r hx => (nb i x hx).elim, fun i j r s k hr => (nr i r hr).elim⟩,
    ⟨Kept.refl _ _, fun i x hx => (nb i x hx).elim, fun i r k hr => (nr i r hr).elim, fun b _ _ o => rfl, Gh.le.refl _⟩, ⟨rfl, fun i T a h => by simp at h⟩, fun i x hx => (nb i x hx).elim, rfl, fun r hr => by simp [allOf] at hr⟩
/-- A law's function, called: true, and nothing old has turned. -/
theorem law_calls (hτ : τ.ok P) {f : FuncId} {fn : Func} {d b0 : Nat} {r : Reach} {args : Array Value} {ds : List (DataW H)} {ps : List MemPlace} (hok : (fn.params.toList.all fun t => okT τ d t) = true)
    (hT : DataW.TrodAll enc P w 0 sp held fn.params.toList args.toList ds ps) (hval : ∀ (j : Nat) t v, fn.params[j]? = some t → args[j]? = some v → Value.okWide P w r b0 t v) (hM : Rows.uptoBulkAll ds ≤ M)
    (h : ∀ az, ShL (Sh τ M d) fn.params.toList az → VC P f az [] (.v (.bool true))) : Calls P f args w fun e w' => e = .returned (.bool true) ∧ Below w.heap.size w w' := by
  obtain ⟨az, h1, h2, h3⟩ := args_rv (M := M) hτ hok hT (fun j t v hj hv => hval j t v (by simpa using hj) (by simpa using hv)) hM
  have := (h az h1).2 w (allOf w) args.toList (allOf_inv P w) h2 h3
  refine this.mono fun e w' hp => ?_
  obtain ⟨g, v, rfl, hi, hv⟩ := hp
  refine ⟨by rw [hv.v_inv], hi.fr.kept.below (Nat.le_refl _) fun k _ hk => ?_⟩
  rcases hk with ⟨x, hx, _⟩ | ⟨x, hx, _⟩ <;> simp [allOf] at hx
theorem trodAll_below (hl : laidOutB P = true) {W W' : World} (hb : Below W.heap.size W W') : ∀ {ts : List TypeId} {vs : List Value} {ds : List (DataW H)} {ps : List MemPlace}, (ts.all fun t => P.readableRec t && decide (t < P.types.size)) = true →
    DataW.TrodAll enc P W 0 (fun _ => true) true ts vs ds ps → (∀ x ∈ ps, x.block < W.heap.size) → DataW.TrodAll enc P W' 0 (fun b => decide (b < W.heap.size)) true ts vs ds ps
  | [], [], [], _, _, h, _ => h
  | t :: ts, v :: vs, x :: ds, _, hr, h, hlt => by
    obtain ⟨p, q, h1, h2, rfl⟩ := h
    simp only [List.all_cons, Bool.and_eq_true, decide_eq_true_eq] at hr
    exact ⟨p, q, Below.trod hl hr.1.1 hr.1.2 h1 hb (fun x hx => hlt x (List.mem_append_left _ hx)), trodAll_below hl hb hr.2 h2 (fun x hx => hlt x (List.mem_append_right _ hx)), rfl⟩
  | [], _ :: _, _, _, _, h, _ => by cases h
  | [], [], _ :: _, _, _, h, _ => by cases h
  | _ :: _, [], _, _, _, h, _ => by cases h
  | _ :: _, _ :: _, [], _, _, h, _ => by cases h
/-- What a statement's form asks for: true is handed back, the arguments are as they were. -/
theorem post_true (hl : laidOutB P = true) {fn : Func} {s : ChangeSpec} {W W' : World} {args : Array Value} {ds gs : List (DataW H)} {before : List MemPlace} {bt : TypeId}
    (hW : DataW.Whole enc P fn.params.toList s.vars false W args.toList ds gs before) (hb : Below W.heap.size W W') (hr : (fn.params.toList.all fun t => P.readableRec t && decide (t < P.types.size)) = true) (hv : s.vars = []) (hrt : fn.resultTypes = #[bt]) (hbt : P.underlying bt = some .bool)
    (hs : s.fn H (ds ++ gs) = ⟨[.lit (.bool true)], ds, []⟩) : s.post enc P fn false true false false W args (.bool true) W' := by
  have hlt := fun x hx => hW.lt x hx
  obtain ⟨p, q, hA, hV, rfl, hfz, hnd⟩ := id hW
  refine ⟨ds, gs, p ++ q, [], p, [], hW, ?_, ?_, ?_, hb.frame _, fun h => by cases h⟩
  · rw [hrt, hs]
    exact ⟨[], [], ⟨1, by simp [DataW.trod, hbt, Value.cells]⟩, rfl, rfl⟩
  · rw [hs]
    exact trodAll_below hl hb hr hA fun x hx => by simpa using hlt x (List.mem_append_left _ hx)
  · rw [hs, hv]; rfl
end
end Go.Proofs.Ytigmpdhnhkdeiaa
/- What grows, lent to a call that only reads it. -/
namespace Go.Proofs.Ytigmpdhnhkdeiaa
open Go Go.RowKit
section
variable {P : Program} {τ : Tab} {w0 w : World} {N : Gh} {g gS : Gh} {st st' sq sq' : St} {nt : Nat} {a : Act}
/-- What was known under a guard that is known to hold, is known. -/
def gdEq (t : Nat) : Bool → Gd → Bool
  | true, some (k, true) => k == t
  | false, some (k, false) => k == t
  | _, _ => false
theorem gdEq_ok {t : Nat} {b : Bool} {c : Gd} (h : gdEq t b c = true) : c = some (t, b) := by
  unfold gdEq at h
  split at h
  · rw [beq_iff_eq.1 h]
  · rw [beq_iff_eq.1 h]
  · cases h
def unG (t : Nat) (b : Bool) : List (Nat × Gd × AV) → List (Nat × Gd × AV)
  | [] => []
  | (k, c, x) :: l => (k, bif gdEq t b c then none else c, x) :: unG t b l
theorem unG_mem {t : Nat} {b : Bool} {p : Nat × Gd × AV} : ∀ {l : List (Nat × Gd × AV)}, p ∈ unG t b l → ∃ q ∈ l, p = (q.1, bif gdEq t b q.2.1 then none else q.2.1, q.2.2)
  | (k, c, x) :: l, h => by
    rcases List.mem_cons.1 h with h | h
    · exact ⟨_, List.mem_cons_self, h⟩
    · obtain ⟨q, hq, e⟩ := unG_mem h
      exact ⟨q, List.mem_cons_of_mem _ hq, e⟩
theorem FR.unG (hF : FR g nt st a) {t : Nat} {b : Bool} (h : a.tmps.getD t undef = .bool b) : FR g nt ⟨unG t b st.t, st.bx, st.fz, st.rw⟩ a := by
  refine ⟨hF.sz, hF.df, fun p hp hg => ?_, fun p hp hg => ?_⟩
  · obtain ⟨q, hq, rfl⟩ := unG_mem hp
    cases e : gdEq t b q.2.1 with
    | true => exact hF.t q hq (by rw [gdEq_ok e]; exact h)
    | false => exact hF.t q hq (by simpa [e] using hg)
  · obtain ⟨q, hq, rfl⟩ := unG_mem hp
    cases e : gdEq t b q.2.1 with
    | true => exact absurd (by rw [e]; exact trivial) hg
    | false => exact hF.u q hq (by simpa [e] using hg)
theorem v_known (H : Rel P w0 N nt st a w) (t : Nat) (b : Bool) (hk : st.tmp none t = .v (.bool b)) : Rel P w0 N nt ⟨unG t b st.t, st.bx, st.fz, st.rw⟩ a w := by
  obtain ⟨g, HI, hF⟩ := H
  have h1 := tmp_sound hF (c := none) trivial t
  rw [hk] at h1
  exact ⟨g, HI, hF.unG h1.v_inv⟩
end
section
variable {P : Program} {τ : Tab} {w0 w : World} {N : Gh} {g gS : Gh} {st st' sq sq' : St} {nt : Nat} {a : Act} {r : AV} {cd : Prop}
end
end Go.Proofs.Ytigmpdhnhkdeiaa
