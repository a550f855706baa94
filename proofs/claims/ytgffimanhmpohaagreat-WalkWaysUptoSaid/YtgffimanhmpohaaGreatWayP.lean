/- Rows of slices turned round in place; regions in every order of their loud operations. -/
import Derived.Test.YtgffimanhmpohaaGreatLess
import Derived.Shelf.SlicesE.Reverse
import Derived.Test.YtgffimanhmpohaaGreatA1
import Derived.BigQuiet
import Derived.BigRegion
import Derived.Deep.Draws
import Derived.Deep.LoopGhost
import Derived.Outline
import Derived.Lib.Hide
import Derived.Test.YtgffimanhmpohaaGreatA4
import Derived.Laws.BitsAllLaws
import Derived.Lib.BitFns
import Derived.Lib.Bytealg
set_option linter.unusedSimpArgs false
set_option linter.unusedVariables false
namespace Go.Proofs.YtgffimanhmpohaaGreat
open Go Go.RowKit
abbrev OneV := { v : Value // v.oneCell' = true }
instance : Inhabited OneV := ⟨⟨.bool false, rfl⟩⟩
end Go.Proofs.YtgffimanhmpohaaGreat
namespace Go.Proofs.YtgffimanhmpohaaGreat
open Go Go.RowKit
/-- Values that lean on no cell but bytes. -/
def leafA : AV → Bool
  | .v _ => true
  | .ba _ => true
  | .bs _ none => true
  | .bc _ _ none => true
  | .ptr _ _ => true
  | .pti _ _ _ => true
  | .win _ _ _ _ => true
  | .vw _ _ _ => true
  | .pv _ _ _ _ => true
  | .mr _ => true
  | .ref (.ba _) (.ba _) => true
  | .any => true
  | _ => false
def plainA : Nat → AV → Bool
  | d + 1, .st fs => fs.all (plainA d)
  | d + 1, .tup fs => fs.all (plainA d)
  | _, a => leafA a
theorem RC.plain {g g2 : Gh} (hro : ∀ b o c, g.ro b o = some (B8 c) → g2.ro b o = some (B8 c)) (hbx : g2.bx = g.bx) : ∀ {d : Nat} {T : Ty} {a : AV} {cs : List Value}, RC g T a cs → plainA d a = true → RC g2 T a cs := by
  intro d
  have leaf : ∀ {T : Ty} {a : AV} {cs : List Value}, RC g T a cs → leafA a = true → RC g2 T a cs := by
    intro T a cs h hp
    cases h with
    | v h => exact .v h
    | ba h => exact .ba h
    | nl => simp [leafA] at hp
    | cn h hs => simp [leafA] at hp
    | bs hc hm hr ht =>
      rename_i l tok A c
      cases tok with
      | some j => simp [leafA] at hp
      | none =>
        refine .bs hc hm ?_ fun i hi => by cases hi
        rcases hr with h | ⟨b, o, hA, hj⟩
        · exact .inl h
        · exact .inr ⟨b, o, hA, fun j hj' => hro _ _ _ (hj j hj')⟩
    | sl hc hm F hr hv ht => simp [leafA] at hp
    | ptr h ho => exact .ptr (by rw [hbx]; exact h) ho
    | pti h ho hk => exact .pti (by rw [hbx]; exact h) ho hk
    | win h ho hn hc hm hA => exact .win (by rw [hbx]; exact h) ho hn hc hm hA
    | vw h hT hg hn hm hx => exact .vw (by rw [hbx]; exact h) hT hg hn hm hx
    | pv h hT hg ho hx => exact .pv (by rw [hbx]; exact h) hT hg ho hx
    | mr h hT => exact .mr (by rw [hbx]; exact h) hT
    | slc hn hm F hr hv => simp [leafA] at hp
    | vwc h hk => simp [leafA] at hp
    | bc hn hm hr ht =>
      rename_i l n tok A
      cases tok with
      | some j => simp [leafA] at hp
      | none =>
        refine .bc hn hm ?_ fun i hi => by cases hi
        rcases hr with h | ⟨b, o, hA, hj⟩
        · exact .inl h
        · exact .inr ⟨b, o, hA, fun j hj' => hro _ _ _ (hj j hj')⟩
    | ref cs h hr =>
      cases h with
      | ba h =>
        rename_i n l
        refine .ref (l.map B8) (.ba h) fun j u hu => ?_
        have := hr j u hu
        simp only [List.getElem?_map, Option.map_eq_some_iff] at hu
        obtain ⟨c, _, rfl⟩ := hu
        exact hro _ _ _ this
      | _ => simp [leafA] at hp
  induction d with
  | zero => exact fun {T a cs} h hp => leaf h (by cases a <;> exact hp)
  | succ d ih =>
    intro T a cs h hp
    have key : ∀ {T : Ty} {cs : List Value} {fs : List AV}, RC g T (.st fs) cs → fs.all (plainA d) = true → RC g2 T (.st fs) cs := by
      intro T
      induction T with
      | cn T Ts _ ihs =>
        intro cs fs h hp
        cases h with
        | cn h hs =>
          simp only [List.all_cons, Bool.and_eq_true] at hp
          exact .cn (ih h hp.1) (ihs hs hp.2)
      | nl => intro cs fs h hp; cases h; exact .nl
      | _ => intro cs fs h hp; cases h
    cases a with
    | st fs => exact key h hp
    | tup fs => cases h
    | _ =>
      exact leaf h hp
theorem BC.plain {g g2 : Gh} (hro : ∀ b o c, g.ro b o = some (B8 c) → g2.ro b o = some (B8 c)) (hbx : g2.bx = g.bx) {d : Nat} {T : Ty} {a : AV} {x : Bx} (h : BC g T a x) (hp : plainA d a = true) : BC g2 T a x := by
  obtain ⟨h1, h2, h3⟩ := h.rc_of (fun _ _ e => by subst e; cases d <;> simp [plainA, leafA] at hp) (fun _ _ e => by subst e; cases d <;> simp [plainA, leafA] at hp) (fun _ _ e => by subst e; cases d <;> simp [plainA, leafA] at hp)
  exact .pl (h3.plain hro hbx hp) h1 h2
theorem RV.plain {g g2 : Gh} (hro : ∀ b o c, g.ro b o = some (B8 c) → g2.ro b o = some (B8 c)) (hbx : g2.bx = g.bx) {d : Nat} {a : AV} {u : Value} (h : RV g a u) (hp : plainA (d + 1) a = true) : RV g2 a u := by
  have one : ∀ {d : Nat} {a : AV} {u : Value}, RV1 g a u → plainA d a = true → RV1 g2 a u := fun {d a u} h hp => by
    rcases h with ⟨T, cs, h1, h2, h3⟩ | h
    · exact .inl ⟨T, cs, h1, h2.plain hro hbx hp, h3⟩
    · exact .inr (h.plain hro hbx hp)
  cases a with
  | any => trivial
  | tup az =>
    obtain ⟨vs, h1, h2, h3⟩ := h
    exact ⟨vs, h1, h2, fun i a u ha hu => one (h3 i a u ha hu) (List.all_eq_true.1 hp a (List.mem_of_getElem? ha))⟩
  | _ => exact (one (show RV1 g _ u from h) hp).rv
end Go.Proofs.YtgffimanhmpohaaGreat
namespace Go.Proofs.YtgffimanhmpohaaGreat
open Go
section
variable {P : Program} {ops : Array Oper} {Q : Exit → Act → World → Prop} {S : World → Prop} {L A : List Nat}
/-- Where an operation stands in an order of one's own. -/
def rk (ord : List Nat) (i : Nat) : Nat := ord.idxOf i
def chkO (ops : Array Oper) (ord : List Nat) : Bool :=
  ord.length == ops.size && ord.all (fun i => decide (i < ops.size)) && (List.range ops.size).all (fun i => ord.contains i) && (List.range ord.length).all (fun p => match ord[p]? with | some x => rk ord x == p | none => false) &&
    (List.range ops.size).all fun j => (match ops[j]? with | some o => o.after.all fun e => !Region.binds .any e || decide (rk ord e.on < rk ord j) | none => true)
structure OrdOk (ops : Array Oper) (ord : List Nat) : Prop where
  len : ord.length = ops.size
  lt : ∀ i ∈ ord, i < ops.size
  mem : ∀ i, i < ops.size → i ∈ ord
  pos : ∀ p (h : p < ord.length), rk ord ord[p] = p
  edge : ∀ j o, ops[j]? = some o → ∀ e ∈ o.after, Region.binds .any e = true → rk ord e.on < rk ord j
theorem chkO_ok {ops : Array Oper} {ord : List Nat} (h : chkO ops ord = true) : OrdOk ops ord := by
  simp only [chkO, Bool.and_eq_true, beq_iff_eq, List.all_eq_true, decide_eq_true_eq, List.mem_range, List.contains_eq_mem] at h
  obtain ⟨⟨⟨⟨h1, h2⟩, h3⟩, h4⟩, h5⟩ := h
  refine ⟨h1, h2, h3, fun p hp => ?_, fun j o hj e he hb => ?_⟩
  · have := h4 p hp; rw [List.getElem?_eq_getElem hp] at this; simpa using this
  · have := h5 j (Array.getElem?_eq_some_iff.1 hj).1
    rw [hj] at this
    have := (Array.all_eq_true_iff_forall_mem.1 this) e he
    simpa [hb] using this
theorem OrdOk.inj {ops : Array Oper} {ord : List Nat} (h : OrdOk ops ord) {i j : Nat} (hi : i < ops.size) (hj : j < ops.size) (e : rk ord i = rk ord j) : i = j := by
  have h1 := List.getElem_idxOf (List.idxOf_lt_length_of_mem (h.mem i hi))
  have h2 := List.getElem_idxOf (List.idxOf_lt_length_of_mem (h.mem j hj))
  unfold rk at e
  rw [← h1, ← h2]
  simp only [e]
def chkZ (ops : Array Oper) (pre : Array Nat) (ord L A : List Nat) : Bool :=
  (List.range ops.size).all fun j => (List.range ops.size).all fun i => !decide (rk ord i < rk ord j) || ((pre.getD j 0).testBit i || (!(L.contains i && L.contains j) && (!L.contains j || A.contains i) && (!L.contains i || A.contains j)) ||
    (L.contains i && L.contains j && (match ops[j]? with | some o => o.after.all fun e => !Region.binds .any e || (decide (rk ord e.on < rk ord i) || L.contains e.on) | none => true)))
/-- Two that wait for nothing: they change places, or both are loud and the later one waits for nothing but what stands ahead of the other. -/
theorem pair_Z {pre : Array Nat} {ord : List Nat} (hf : Fine ops pre [] []) (hz : chkZ ops pre ord L A = true) {listed : Array Bool} (hd : Down ops listed) {i j : Nat} (hi : i ∈ Region.ready .any ops listed) (hj : j ∈ Region.ready .any ops listed) (hij : rk ord i < rk ord j) :
    ∃ oi oj, ops[i]? = some oi ∧ ops[j]? = some oj ∧ oi.apart ops oj = true ∧ oj.apart ops oi = true ∧
      ((¬ (L.contains i = true ∧ L.contains j = true) ∧ (L.contains j = true → A.contains i = true) ∧ (L.contains i = true → A.contains j = true)) ∨
       (L.contains i = true ∧ L.contains j = true ∧ ∀ e ∈ oj.after, Region.binds .any e = true → rk ord e.on < rk ord i ∨ L.contains e.on = true)) := by
  obtain ⟨oi, oj, hoi, hoj, g1, g2, _⟩ := pair_of_ready hf hd hi hj (by rintro rfl; omega)
  refine ⟨oi, oj, hoi, hoj, g1, g2, ?_⟩
  have unl : ∀ k, listed.getD k true = false → listed.getD k false = true → False := by
    intro k h1 h2
    rcases Nat.lt_or_ge k listed.size with h' | h'
    · simp [h'] at h1 h2; rw [h1] at h2; cases h2
    · simp [Array.getElem?_eq_none h'] at h1
  obtain ⟨hiu, _⟩ := mem_ready.1 hi
  obtain ⟨_, oj', hoj', hallj⟩ := mem_ready.1 hj
  rw [hoj] at hoj'; injection hoj' with hoj'; subst hoj'
  have nij : (pre.getD j 0).testBit i = false := by
    cases ht : (pre.getD j 0).testBit i
    · rfl
    · exact (unl i hiu (pre_listed hf hd j oj hoj hallj i ht)).elim
  simp only [chkZ, List.all_eq_true, List.mem_range] at hz
  have h1 := hz j (Array.getElem?_eq_some_iff.1 hoj).1 i (Array.getElem?_eq_some_iff.1 hoi).1
  rw [nij, hoj, decide_eq_true hij] at h1
  simp only [Bool.not_true, Bool.false_or, Bool.or_eq_true, Bool.and_eq_true] at h1
  rcases h1 with ⟨⟨g1, g2⟩, g3⟩ | ⟨⟨g1, g2⟩, g3⟩
  · refine .inl ⟨fun ⟨x, y⟩ => ?_, fun x => ?_, fun x => ?_⟩
    · rw [x, y] at g1; cases g1
    · rw [x] at g2; simpa using g2
    · rw [x] at g3; simpa using g3
  · refine .inr ⟨g1, g2, fun e he hb => ?_⟩
    have := (Array.all_eq_true_iff_forall_mem.1 g3) e he
    simpa [hb] using this
theorem tOp_all {ι : Type} {p : ι → Prop} {j : Nat} {oj : Oper} {a : Act} {w : World} {K : ι → Act → World → Prop} (hi : ops[j]? = some oj) (hL : ¬ L.contains j = true) (hA : A.contains j = true) (hS : S w) (m0 : ι) (h0 : p m0) (h : ∀ m, p m → tOp P ops S L A j (K m) a w) :
    tOp P ops S L A j (fun a w => ∀ m, p m → K m a w) a w := by
  have h1 := h m0 h0
  unfold tOp at h1 ⊢
  simp only [hi] at h1 ⊢
  by_cases hw : Region.wanted oj (yielded ops a.tmps) = true
  · rw [if_pos hw, if_neg hL] at h1 ⊢
    obtain ⟨v, e1, e2, _⟩ := h1
    refine ⟨v, e1, e2, fun m hm => ?_⟩
    have h2 := h m hm
    unfold tOp at h2
    simp only [hi] at h2
    rw [if_pos hw, if_neg hL] at h2
    obtain ⟨u, f1, f2, f3⟩ := h2
    have := Vr.uniq (e2 hA w hS) (f2 hA w hS)
    subst this
    exact f3
  · rw [if_neg hw] at h1 ⊢
    intro m hm
    have h2 := h m hm
    unfold tOp at h2
    simp only [hi] at h2
    rw [if_neg hw] at h2
    exact h2
/-- A quiet operation at the head: it may come up now. -/
theorem ready_lt {listed : Array Bool} {i : Nat} (h : i ∈ Region.ready .any ops listed) : i < ops.size := by
  obtain ⟨_, o, h, _⟩ := mem_ready.1 h; exact (Array.getElem?_eq_some_iff.1 h).1
theorem tAny_quiet {pre : Array Nat} {ord : List Nat} (ho : OrdOk ops ord) (hf : Fine ops pre [] []) (hz : chkZ ops pre ord L A = true) {i : Nat} (hL : ¬ L.contains i = true) : ∀ (fuel : Nat) (listed : Array Bool) (a : Act) (w : World), Down ops listed → i ∈ Region.ready .any ops listed → S w →
    tOp P ops S L A i (tAny P ops Q S L A fuel (listed.setIfInBounds i true)) a w → tAny P ops Q S L A (fuel + 1) listed a w := by
  intro fuel
  induction fuel with
  | zero =>
    intro listed a w hd hr hS H
    refine ⟨fun h => (by rw [h] at hr; cases hr), fun j hj => ?_⟩
    by_cases hji : j = i
    · subst hji; exact H
    · have := ready_mono hj hji
      obtain ⟨a', w', h⟩ := tOp_some H
      rw [h.1] at this
      cases this
  | succ fuel ih =>
    intro listed a w hd hr hS H
    refine ⟨fun h => (by rw [h] at hr; cases hr), fun j hj => ?_⟩
    by_cases hji : j = i
    · subst hji; exact H
    · have hp : ∃ oi oj, ops[i]? = some oi ∧ ops[j]? = some oj ∧ oi.apart ops oj = true ∧ oj.apart ops oi = true ∧ ¬ (L.contains i = true ∧ L.contains j = true) ∧ (L.contains j = true → A.contains i = true) ∧ (L.contains i = true → A.contains j = true) := by
        rcases Nat.lt_or_gt_of_ne (fun e => hji (ho.inj (ready_lt hj) (ready_lt hr) e)) with h | h
        · obtain ⟨oj, oi, hoj, hoi, g1, g2, g3⟩ := pair_Z hf hz hd hj hr h
          rcases g3 with ⟨k1, k2, k3⟩ | ⟨_, k, _⟩
          · exact ⟨oi, oj, hoi, hoj, g2, g1, fun ⟨x, y⟩ => k1 ⟨y, x⟩, k3, k2⟩
          · exact absurd k hL
        · obtain ⟨oi, oj, hoi, hoj, g1, g2, g3⟩ := pair_Z hf hz hd hr hj h
          rcases g3 with ⟨k1, k2, k3⟩ | ⟨k, _⟩
          · exact ⟨oi, oj, hoi, hoj, g1, g2, k1, k2, k3⟩
          · exact absurd k hL
      obtain ⟨oi, oj, hoi, hoj, g1, g2, g3, g4, g5⟩ := hp
      have H2 : tOp P ops S L A i (tOp P ops S L A j (tAny P ops Q S L A fuel ((listed.setIfInBounds i true).setIfInBounds j true))) a w :=
        tOp_mono hS (fun a w _ h => h.2 j (ready_mono hj hji)) H
      have H3 := tOp_swap hoi hoj g1 g2 (fun cs b => hf.sel i oi cs b hoi) (fun cs b => hf.sel j oj cs b hoj) g3 g4 g5 hS H2
      refine tOp_mono hS (fun a' w' _ h => ?_) H3
      refine ih (listed.setIfInBounds j true) a' w' (down_set hd hj) (ready_mono hr (Ne.symm hji)) h.1 ?_
      rw [Array.setIfInBounds_comm _ _ hji]
      exact h.2
/-- A loud operation at the head: whichever loud one comes up first. -/
theorem tAny_loud {pre : Array Nat} {ord : List Nat} (ho : OrdOk ops ord) (hf : Fine ops pre [] []) (hz : chkZ ops pre ord L A = true) {i : Nat} (hL : L.contains i = true) : ∀ (fuel : Nat) (listed : Array Bool) (a : Act) (w : World), Down ops listed → (∀ j, j < ops.size → rk ord j < rk ord i → listed.getD j false = true) → i ∈ Region.ready .any ops listed → S w →
    (∀ m, (m ∈ Region.ready .any ops listed ∧ L.contains m = true) → tOp P ops S L A m (tAny P ops Q S L A fuel (listed.setIfInBounds m true)) a w) → tAny P ops Q S L A (fuel + 1) listed a w := by
  intro fuel
  induction fuel with
  | zero =>
    intro listed a w hd hlow hr hS H
    refine ⟨fun h => (by rw [h] at hr; cases hr), fun j hj => ?_⟩
    by_cases hji : j = i
    · subst hji; exact H j ⟨hj, hL⟩
    · have := ready_mono hj hji
      obtain ⟨a', w', h⟩ := tOp_some (H i ⟨hr, hL⟩)
      rw [h.1] at this
      cases this
  | succ fuel ih =>
    intro listed a w hd hlow hr hS H
    refine ⟨fun h => (by rw [h] at hr; cases hr), fun j hj => ?_⟩
    by_cases hLj : L.contains j = true
    · exact H j ⟨hj, hLj⟩
    · have hall : ∀ m, (m ∈ Region.ready .any ops listed ∧ L.contains m = true) → ∃ om oj, ops[m]? = some om ∧ ops[j]? = some oj ∧ om.apart ops oj = true ∧ oj.apart ops om = true ∧ A.contains j = true := fun m hm => by
        have hmj : m ≠ j := fun e => hLj (e ▸ hm.2)
        rcases Nat.lt_or_gt_of_ne (fun e => hmj (ho.inj (ready_lt hm.1) (ready_lt hj) e)) with h | h
        · obtain ⟨om, oj, k1, k2, k3, k4, k5⟩ := pair_Z hf hz hd hm.1 hj h
          rcases k5 with ⟨_, _, k7⟩ | ⟨_, k, _⟩
          · exact ⟨om, oj, k1, k2, k3, k4, k7 hm.2⟩
          · exact absurd k hLj
        · obtain ⟨oj, om, k1, k2, k3, k4, k5⟩ := pair_Z hf hz hd hj hm.1 h
          rcases k5 with ⟨_, k6, _⟩ | ⟨k, _⟩
          · exact ⟨om, oj, k2, k1, k4, k3, k6 hm.2⟩
          · exact absurd k hLj
      obtain ⟨_, oj, _, hoj, _, _, hAj⟩ := hall i ⟨hr, hL⟩
      have B : ∀ m, (m ∈ Region.ready .any ops listed ∧ L.contains m = true) → tOp P ops S L A j (fun a w => S w ∧ tOp P ops S L A m (tAny P ops Q S L A fuel ((listed.setIfInBounds m true).setIfInBounds j true)) a w) a w := fun m hm => by
        have hmj : j ≠ m := fun e => hLj (e ▸ hm.2)
        obtain ⟨om, oj', hom, hoj', g1, g2, _⟩ := hall m hm
        rw [hoj] at hoj'; injection hoj' with hoj'; subst hoj'
        have H2 : tOp P ops S L A m (tOp P ops S L A j (tAny P ops Q S L A fuel ((listed.setIfInBounds m true).setIfInBounds j true))) a w :=
          tOp_mono hS (fun a w _ h => h.2 j (ready_mono hj hmj)) (H m hm)
        exact tOp_swap hom hoj g1 g2 (fun cs b => hf.sel m om cs b hom) (fun cs b => hf.sel j oj cs b hoj) (fun ⟨_, y⟩ => hLj y) (fun y => absurd y hLj) (fun _ => hAj) hS H2
      refine tOp_mono hS (fun a' w' hS' h => ?_) (tOp_all hoj hLj hAj hS i ⟨hr, hL⟩ B)
      have hji : j ≠ i := fun e => hLj (e ▸ hL)
      refine ih (listed.setIfInBounds j true) a' w' (down_set hd hj) (fun k hks hk => by
        by_cases e : j = k
        · subst e; exact getD_set_true (hlow _ hks hk)
        · rw [getD_set_ne false e]; exact hlow k hks hk) (ready_mono hr (Ne.symm hji)) hS' fun m hm => ?_
      have hmj : j ≠ m := fun e => hLj (e ▸ hm.2)
      have hmr : m ∈ Region.ready .any ops listed := by
        by_cases hmi : m = i
        · subst hmi; exact hr
        · have hd' := down_set hd hj
          have hri := ready_mono hr (Ne.symm hji)
          rcases Nat.lt_or_gt_of_ne (fun e => hmi (ho.inj (ready_lt hm.1) (ready_lt hr) e)) with h | h
          · exfalso
            refine unlisted hm.1 ?_
            rw [getD_set_ne false hmj]
            exact hlow m (ready_lt hm.1) h
          · obtain ⟨_, om, _, hom, _, _, k5⟩ := pair_Z hf hz hd' hri hm.1 h
            rcases k5 with ⟨k, _⟩ | ⟨_, _, k⟩
            · exact absurd ⟨hL, hm.2⟩ k
            · obtain ⟨q1, om', q2, _⟩ := mem_ready.1 hm.1
              rw [hom] at q2; injection q2 with q2; subst q2
              rw [getD_set_ne true hmj] at q1
              obtain ⟨_, om', q3, q4⟩ := mem_ready.1 hm.1
              rw [hom] at q3; injection q3 with q3; subst q3
              refine mem_ready.2 ⟨q1, om, hom, fun e he hb => ?_⟩
              rcases k e he hb with k | k
              · exact hlow _ (Nat.lt_trans (hf.edge m _ hom e he hb) (ready_lt hm.1)) k
              · have q5 := q4 e he hb
                have hne : j ≠ e.on := fun hh => hLj (hh ▸ k)
                rwa [getD_set_ne _ hne] at q5
      rw [Array.setIfInBounds_comm _ _ hmj]
      exact (h m ⟨hmr, hm.2⟩).2
/-- Which loud operations may come up ahead of i: (i, m) in U; but not as long as one is open that m waits for: (m + 1000, j) in U. -/
def altZ (U : List (Nat × Nat)) (i : Nat) (rest : List Nat) : List Nat := rest.filter fun m => U.contains (i, m) && rest.all fun j => !U.contains (m + 1000, j)
/-- The walk in every order of the loud operations; U: those pairs that wait for nothing. -/
def wpZ (P : Program) (ops : Array Oper) (Q : Exit → Act → World → Prop) (S : World → Prop) (L A : List Nat) (U : List (Nat × Nat)) : Nat → List Nat → Act → World → Prop
  | 0, _, a, w => Q .normal a w
  | _ + 1, [], a, w => Q .normal a w
  | n + 1, i :: rest, a, w => if L.contains i then ∀ m ∈ i :: altZ U i rest, tOp P ops S L A m (wpZ P ops Q S L A U n ((i :: rest).erase m)) a w
      else tOp P ops S L A i (wpZ P ops Q S L A U n rest) a w
def chkU (ops : Array Oper) (pre : Array Nat) (ord L : List Nat) (U : List (Nat × Nat)) : Bool :=
  ((List.range ops.size).all fun j => (List.range ops.size).all fun i => !decide (rk ord i < rk ord j) || (pre.getD j 0).testBit i || !(L.contains i && L.contains j) || U.contains (i, j)) && U.all fun p => decide (p.1 < 1000) || (pre.getD (p.1 - 1000) 0).testBit p.2
theorem wpZ_any {pre : Array Nat} {ord : List Nat} {U : List (Nat × Nat)} (ho : OrdOk ops ord) (hf : Fine ops pre [] []) (hz : chkZ ops pre ord L A = true) (hu : chkU ops pre ord L U = true) : ∀ (n : Nat) (pend : List Nat) (listed : Array Bool) (a : Act) (w : World), pend.length = n → pend.Pairwise (rk ord · < rk ord ·) → (∀ m ∈ pend, m < ops.size) → listed.size = ops.size →
    (∀ i, i < ops.size → ∀ d, listed.getD i d = !pend.contains i) → Down ops listed → S w → wpZ P ops Q S L A U n pend a w → tAny P ops Q S L A n listed a w := by
  intro n
  induction n with
  | zero =>
    intro pend listed a w hl hp hb hsz hli hd hS h
    obtain rfl : pend = [] := List.length_eq_zero_iff.1 hl
    exact tAny_nil (fun i hi d => by rw [hli i hi d]; rfl) h
  | succ n ih =>
    intro pend listed a w hl hp hb hsz hli hd hS h
    match pend, hl with
    | i :: rest, hl =>
      have hl' : rest.length = n := by simpa using hl
      obtain ⟨hp1, hp2⟩ := List.pairwise_cons.1 hp
      have hilt := hb i List.mem_cons_self
      have hlow : ∀ j, j < ops.size → rk ord j < rk ord i → listed.getD j false = true := fun j hjs hj => by
        rw [hli j hjs false]
        simp only [Bool.not_eq_true', List.contains_eq_mem, decide_eq_false_iff_not, List.mem_cons, not_or]
        exact ⟨by rintro rfl; omega, fun e => by have := hp1 j e; omega⟩
      have hri : i ∈ Region.ready .any ops listed := by
        refine mem_ready.2 ⟨by rw [hli i hilt true]; simp, _, Array.getElem?_eq_getElem hilt, fun e he hb => hlow _ (Nat.lt_trans (hf.edge i _ (Array.getElem?_eq_getElem hilt) e he hb) hilt) (ho.edge i _ (Array.getElem?_eq_getElem hilt) e he hb)⟩
      have next : ∀ m, m ∈ Region.ready .any ops listed → m ∈ i :: rest → ∀ a w, S w → wpZ P ops Q S L A U n ((i :: rest).erase m) a w → tAny P ops Q S L A n (listed.setIfInBounds m true) a w := fun m hmr hm a w hS h => by
        refine ih _ _ a w (by rw [List.length_erase_of_mem hm, hl]; rfl) (hp.sublist List.erase_sublist) (fun x hx => hb x (List.mem_of_mem_erase hx)) (by simpa using hsz) (fun x hx d => ?_) (down_set hd hmr) hS h
        have hnd : (i :: rest).Nodup := hp.imp (fun {a b} h => by rintro rfl; omega)
        by_cases e : m = x
        · subst e
          have h1 : (listed.setIfInBounds m true).getD m d = true := by simp [hsz, hx]
          rw [h1]
          simp [List.contains_eq_mem, hnd.mem_erase_iff]
        · rw [getD_set_ne d e, hli x hx d]
          congr 1
          simp only [List.contains_eq_mem, hnd.mem_erase_iff]
          have : x ≠ m := fun h => e h.symm
          simp [this]
      unfold wpZ at h
      by_cases hL : L.contains i = true
      · rw [if_pos hL] at h
        refine tAny_loud ho hf hz hL n listed a w hd hlow hri hS fun m hm => ?_
        have hmp : m ∈ i :: rest := by
          obtain ⟨q1, om, q2, _⟩ := mem_ready.1 hm.1
          have := hli m (Array.getElem?_eq_some_iff.1 q2).1 true
          rw [q1] at this
          have hc : (i :: rest).contains m = true := by
            cases hq : (i :: rest).contains m
            · rw [hq] at this; cases this
            · rfl
          simpa [List.contains_eq_mem] using hc
        have hmc : m ∈ i :: altZ U i rest := by
          rcases List.mem_cons.1 hmp with rfl | hmr
          · exact List.mem_cons_self
          · refine List.mem_cons_of_mem _ (List.mem_filter.2 ⟨hmr, ?_⟩)
            have him := hp1 m hmr
            simp only [chkU, Bool.and_eq_true, List.all_eq_true, List.mem_range] at hu
            obtain ⟨hu, hu2⟩ := hu
            have h1 := hu m (hb m hmp) i hilt
            have h2 : (rest.all fun j => !U.contains (m + 1000, j)) = true := by
              refine List.all_eq_true.2 fun j hj => ?_
              cases hc : U.contains (m + 1000, j) with
              | false => rfl
              | true =>
                have h3 := hu2 (m + 1000, j) (by simpa [List.contains_eq_mem] using hc)
                have h4 : ¬ (m + 1000 < 1000) := by omega
                simp only [h4, decide_false, Bool.false_or, Nat.add_sub_cancel] at h3
                obtain ⟨_, om, hom, hall⟩ := mem_ready.1 hm.1
                have h5 := pre_listed hf hd m om hom hall j h3
                have hjb := hb j (List.mem_cons_of_mem _ hj)
                rw [hli j hjb false] at h5
                simp [List.contains_eq_mem, hj] at h5
            rw [decide_eq_true him] at h1
            obtain ⟨_, om, hom, hall⟩ := mem_ready.1 hm.1
            have hn : (pre.getD m 0).testBit i = false := by
              cases ht : (pre.getD m 0).testBit i
              · rfl
              · exact absurd (pre_listed hf hd m om hom hall i ht) (unlisted hri)
            rw [hn, hL, hm.2] at h1
            have h6 : U.contains (i, m) = true := by simpa using h1
            rw [h6, h2]; rfl
        exact tOp_mono hS (fun a' w' hS' hh => next m hm.1 hmp a' w' hS' hh) (h m hmc)
      · rw [if_neg hL] at h
        refine tAny_quiet ho hf hz hL n listed a w hd hri hS ?_
        refine tOp_mono hS (fun a' w' hS' hh => next i hri List.mem_cons_self a' w' hS' ?_) h
        rw [List.erase_cons_head]
        exact hh
theorem wp_region_Z {id : Nat} {a : Act} {w : World} {l : List Oper} (ord L A : List Nat) (U : List (Nat × Nat)) (S : World → Prop) (hm : P.follows .mixedOrders = true) (hc : chk l.toArray (Region.before l.toArray) [] [] = true) (hoc : chkO l.toArray ord = true) (hz : chkZ l.toArray (Region.before l.toArray) ord L A = true) (hu : chkU l.toArray (Region.before l.toArray) ord L U = true)
    (hS : S w.drew) (h : wpZ P l.toArray Q S L A U l.length ord a w.drew) : (Code.region id l.toArray true).wp P Q a w := by
  refine wp_region_any hm (wpAny_of_tAny (L := L) (A := A) (S := S) _ _ _ _ ?_)
  have hsz : l.toArray.size = l.length := by simp
  have ho := chkO_ok hoc
  have hol : ord.length = l.length := ho.len.trans hsz
  have := wpZ_any (P := P) (Q := Q) (S := S) ho (fine_of_chk hc) hz hu l.length ord (Array.replicate l.toArray.size false) a w.drew hol (List.pairwise_iff_getElem.2 fun i j hi hj hij => by rw [ho.pos i hi, ho.pos j hj]; exact hij) ho.lt (by simp)
    (fun i hi d => by
      have hm := ho.mem i hi
      simp only [Array.getD_eq_getD_getElem?, Array.getElem?_replicate, if_pos hi, List.contains_eq_mem]
      simp [hm])
    (fun j o hj hl => by
      have hjl := (Array.getElem?_eq_some_iff.1 hj).1
      simp only [Array.getD_eq_getD_getElem?, Array.getElem?_replicate, if_pos hjl] at hl
      simp at hl) hS h
  rw [hsz]
  exact this
/-- The next operations, in their order. -/
theorem wpZ_seg {U : List (Nat × Nat)} : ∀ (seg : List Oper) (i n : Nat) (rest : List Nat) (a : Act) (w : World), (∀ j, j < seg.length → L.contains (i + j) = false) → (∀ j, j < seg.length → ops[i + j]? = seg[j]?) → wpT P ops (fun _ a w => wpZ P ops Q S L A U n rest a w) S L A seg i a w →
    wpZ P ops Q S L A U (seg.length + n) (List.range' i seg.length ++ rest) a w
  | [], i, n, rest, a, w, _, _, h => by simpa [wpT] using h
  | o :: seg, i, n, rest, a, w, hL, ho, h => by
    have h0 := hL 0 (by simp)
    have o0 := ho 0 (by simp)
    rw [Nat.add_zero] at h0 o0
    have o0 : ops[i]? = some o := by simpa using o0
    rw [List.length_cons, show seg.length + 1 + n = (seg.length + n) + 1 by omega, List.range'_succ, List.cons_append]
    unfold wpZ
    rw [if_neg (by rw [h0]; exact Bool.false_ne_true)]
    have ih := fun a w hh => wpZ_seg (U := U) seg (i + 1) n rest a w (fun j hj => by have := hL (j + 1) (by simp; omega); rwa [show i + 1 + j = i + (j + 1) by omega]) (fun j hj => by have := ho (j + 1) (by simp; omega); rw [show i + 1 + j = i + (j + 1) by omega, this]; simp) hh
    unfold tOp
    simp only [o0]
    unfold wpT at h
    by_cases hw : Region.wanted o (yielded ops a.tmps) = true
    · rw [if_pos hw, if_neg (by rw [h0]; exact Bool.false_ne_true)] at h ⊢
      obtain ⟨v, e1, e2, e3⟩ := h
      exact ⟨v, e1, e2, ih _ _ e3⟩
    · rw [if_neg hw] at h ⊢
      exact ih _ _ h
theorem wpZ_run {U : List (Nat × Nat)} (k : Nat) {i n n' : Nat} {pend pend' : List Nat} {seg : List Oper} {a : Act} {w : World} (hp : pend = List.range' i k ++ pend') (hn : n = k + n') (hs : (ops.toList.drop i).take k = seg) (hk : seg.length = k) (hL : (List.range' i k).all (fun j => !L.contains j) = true)
    (h : wpT P ops (fun _ a w => wpZ P ops Q S L A U n' pend' a w) S L A seg i a w) : wpZ P ops Q S L A U n pend a w := by
  subst hp hn
  have := wpZ_seg (U := U) seg i n' pend' a w (fun j hj => by
    have := List.all_eq_true.1 hL (i + j) (List.mem_range'_1.2 ⟨by omega, by omega⟩)
    simpa using this) (fun j hj => by
    rw [← hs, List.getElem?_take, if_pos (by omega), List.getElem?_drop, Array.getElem?_toList]) h
  rw [hk] at this
  exact this
theorem wpZ_loud {U : List (Nat × Nat)} {i n : Nat} {rest : List Nat} {a : Act} {w : World} (hL : L.contains i = true) (h : ∀ m ∈ i :: altZ U i rest, tOp P ops S L A m (wpZ P ops Q S L A U n ((i :: rest).erase m)) a w) : wpZ P ops Q S L A U (n + 1) (i :: rest) a w := by
  unfold wpZ; rw [if_pos hL]; exact h
theorem wpZ_pick {U : List (Nat × Nat)} {m n : Nat} {pend pend' : List Nat} {o : Oper} {a : Act} {w : World} (he : pend.erase m = pend') (ho : (ops.toList.drop m).head? = some o) (h : wpT P ops (fun _ a w => wpZ P ops Q S L A U n pend' a w) S L A [o] m a w) : tOp P ops S L A m (wpZ P ops Q S L A U n (pend.erase m)) a w := by
  have ho : ops[m]? = some o := by rw [List.head?_drop, Array.getElem?_toList] at ho; exact ho
  rw [he]; unfold tOp; simp only [ho]; exact h
theorem all1 {p : Nat → Prop} {x : Nat} (h : p x) : ∀ m ∈ [x], p m := fun m hm => by simp at hm; subst hm; exact h
theorem wpZ_nil {U : List (Nat × Nat)} {p : List Nat} {a : Act} {w : World} (h : Q .normal a w) : wpZ P ops Q S L A U 0 p a w := h
theorem wpZ_two {U : List (Nat × Nat)} {i n : Nat} {rest cs : List Nat} {a : Act} {w : World} (hL : L.contains i = true) (hc : altZ U i rest = cs) (h : ∀ m ∈ i :: cs, tOp P ops S L A m (wpZ P ops Q S L A U n ((i :: rest).erase m)) a w) : wpZ P ops Q S L A U (n + 1) (i :: rest) a w := by
  subst hc; exact wpZ_loud hL h
theorem all2 {p : Nat → Prop} {x y : Nat} (h : p x ∧ p y) : ∀ m ∈ [x, y], p m := fun m hm => by
  simp at hm
  rcases hm with rfl | rfl
  · exact h.1
  · exact h.2
theorem all3 {p : Nat → Prop} {x y z : Nat} (h : p x ∧ p y ∧ p z) : ∀ m ∈ [x, y, z], p m := fun m hm => by
  simp at hm
  rcases hm with rfl | rfl | rfl
  · exact h.1
  · exact h.2.1
  · exact h.2.2
end
section
variable {P : Program} {w0 w : World} {N : Gh} {st : St} {nt : Nat} {a : Act}
/-- A region that draws its order, in every order of its loud operations. -/
theorem v_drawZ {id : Nat} {Q : Exit → Act → World → Prop} {l : List Oper} (nb : Nat) (ord L A : List Nat) (U : List (Nat × Nat)) (hm : P.follows .mixedOrders = true) (hchk : chk l.toArray (Region.before l.toArray) [] [] = true) (hoc : chkO l.toArray ord = true) (hz : chkZ l.toArray (Region.before l.toArray) ord L A = true) (hu : chkU l.toArray (Region.before l.toArray) ord L U = true) (H : Rel P w0 N nt st a w)
    (hb : (st.bx.take nb).all (fun x => low nb 0 4 x.2) = true)
    (k : ∀ gS, RelT P w0 N nt gS ⟨st.t.filter fun p => low nb 0 4 p.2.2, st.bx.take nb, st.fz, []⟩ st a w.drew → wpZ P l.toArray Q (Mem gS) L A U l.length ord a w.drew) : (Code.region id l.toArray true).wp P Q a w := by
  obtain ⟨g, HI, hF⟩ := H
  have HI' := HI.drew
  have hc := HI'.loose.cut (nr := 0) (Nat.zero_le _) (Nat.zero_le _) hb
  have hgb : ∀ (i : Nat) x, (g.cut nb 0).bx[i]? = some x → g.bx[i]? = some x := fun i x hx => by
    have : (g.bx.take nb)[i]? = some x := hx
    rw [List.getElem?_take] at this
    split at this
    · exact this
    · cases this
  have hle : (g.cut nb 0).le g := ⟨fun _ _ _ h => h, fun i x hx => ⟨x, hgb i x hx, x.same⟩, fun i r hr => by simp [Gh.cut] at hr⟩
  have hbs : Bs (g.cut nb 0) g := fun i x hx => ⟨x, hgb i x hx, rfl, rfl, rfl, rfl, rfl⟩
  have HT : RelT P w0 N nt (g.cut nb 0) ⟨st.t.filter fun p => low nb 0 4 p.2.2, st.bx.take nb, st.fz, []⟩ st a w.drew :=
    ⟨hc.mem, by simp [Gh.cut], ⟨hF.sz, hF.df, fun p hp hg => by
      simp only [List.mem_filter] at hp
      exact (hF.t p hp.1 hg).low_ (d := 3) hp.2, fun p hp hg => hF.u p (List.mem_filter.1 hp).1 hg⟩, hc.br, g, HI', hF, hle, hbs⟩
  exact wp_region_Z ord L A U (Mem (g.cut nb 0)) hm hchk hoc hz hu HT.mem (k _ HT)
end
end Go.Proofs.YtgffimanhmpohaaGreat
/- A region in every order of its loud operations: the steps as theorems that a tactic can try one after another. -/
namespace Go.Proofs.YtgffimanhmpohaaGreat
open Go Go.RowKit
section
variable {P : Program} {ops : Array Oper} {Q : Exit → Act → World → Prop} {S : World → Prop} {L A : List Nat} {U : List (Nat × Nat)}
theorem wpT_at {l : List Oper} {a : Act} {w : World} (i : Nat) (h : wpT P ops Q S L A l i a w) : wpT P ops Q S L A l i a w := h
theorem wpZ_q1 {i n : Nat} {rest : List Nat} {o : Oper} {a : Act} {w : World} (hL : L.contains i = false) (ho : (ops.toList.drop i).head? = some o)
    (h : wpT P ops (fun _ a w => wpZ P ops Q S L A U n rest a w) S L A [o] i a w) : wpZ P ops Q S L A U (n + 1) (i :: rest) a w := by
  have ho : ops[i]? = some o := by rw [List.head?_drop, Array.getElem?_toList] at ho; exact ho
  unfold wpZ; rw [if_neg (by rw [hL]; exact Bool.false_ne_true)]; unfold tOp; simp only [ho]; exact h
theorem wpZ_l1 {i n : Nat} {rest : List Nat} {o : Oper} {a : Act} {w : World} (hL : L.contains i = true) (hc : altZ U i rest = []) (ho : (ops.toList.drop i).head? = some o)
    (h : wpT P ops (fun _ a w => wpZ P ops Q S L A U n rest a w) S L A [o] i a w) : wpZ P ops Q S L A U (n + 1) (i :: rest) a w := by
  refine wpZ_two hL hc (all1 ?_)
  exact wpZ_pick (by simp) ho h
theorem wpZ_l2 {i m n : Nat} {rest r2 : List Nat} {o o2 : Oper} {a : Act} {w : World} (hL : L.contains i = true) (hc : altZ U i rest = [m]) (ho : (ops.toList.drop i).head? = some o) (ho2 : (ops.toList.drop m).head? = some o2) (hr2 : (i :: rest).erase m = r2)
    (h : wpT P ops (fun _ a w => wpZ P ops Q S L A U n rest a w) S L A [o] i a w) (h2 : wpT P ops (fun _ a w => wpZ P ops Q S L A U n r2 a w) S L A [o2] m a w) : wpZ P ops Q S L A U (n + 1) (i :: rest) a w := by
  refine wpZ_two hL hc (all2 ⟨?_, ?_⟩)
  · exact wpZ_pick (by simp) ho h
  · exact wpZ_pick hr2 ho2 h2
theorem wpZ_l3 {i m k n : Nat} {rest r2 r3 : List Nat} {o o2 o3 : Oper} {a : Act} {w : World} (hL : L.contains i = true) (hc : altZ U i rest = [m, k]) (ho : (ops.toList.drop i).head? = some o) (ho2 : (ops.toList.drop m).head? = some o2) (ho3 : (ops.toList.drop k).head? = some o3) (hr2 : (i :: rest).erase m = r2) (hr3 : (i :: rest).erase k = r3)
    (h : wpT P ops (fun _ a w => wpZ P ops Q S L A U n rest a w) S L A [o] i a w) (h2 : wpT P ops (fun _ a w => wpZ P ops Q S L A U n r2 a w) S L A [o2] m a w) (h3 : wpT P ops (fun _ a w => wpZ P ops Q S L A U n r3 a w) S L A [o3] k a w) : wpZ P ops Q S L A U (n + 1) (i :: rest) a w := by
  refine wpZ_two hL hc (all3 ⟨?_, ?_, ?_⟩)
  · exact wpZ_pick (by simp) ho h
  · exact wpZ_pick hr2 ho2 h2
  · exact wpZ_pick hr3 ho3 h3
theorem all4 {p : Nat → Prop} {x y z u : Nat} (h : p x ∧ p y ∧ p z ∧ p u) : ∀ m ∈ [x, y, z, u], p m := fun m hm => by
  simp at hm
  rcases hm with rfl | rfl | rfl | rfl
  · exact h.1
  · exact h.2.1
  · exact h.2.2.1
  · exact h.2.2.2
theorem wpZ_l4 {i m k j n : Nat} {rest r2 r3 r4 : List Nat} {o o2 o3 o4 : Oper} {a : Act} {w : World} (hL : L.contains i = true) (hc : altZ U i rest = [m, k, j]) (ho : (ops.toList.drop i).head? = some o) (ho2 : (ops.toList.drop m).head? = some o2) (ho3 : (ops.toList.drop k).head? = some o3) (ho4 : (ops.toList.drop j).head? = some o4) (hr2 : (i :: rest).erase m = r2) (hr3 : (i :: rest).erase k = r3) (hr4 : (i :: rest).erase j = r4)
    (h : wpT P ops (fun _ a w => wpZ P ops Q S L A U n rest a w) S L A [o] i a w) (h2 : wpT P ops (fun _ a w => wpZ P ops Q S L A U n r2 a w) S L A [o2] m a w) (h3 : wpT P ops (fun _ a w => wpZ P ops Q S L A U n r3 a w) S L A [o3] k a w) (h4 : wpT P ops (fun _ a w => wpZ P ops Q S L A U n r4 a w) S L A [o4] j a w) : wpZ P ops Q S L A U (n + 1) (i :: rest) a w := by
  refine wpZ_two hL hc (all4 ⟨?_, ?_, ?_, ?_⟩)
  · exact wpZ_pick (by simp) ho h
  · exact wpZ_pick hr2 ho2 h2
  · exact wpZ_pick hr3 ho3 h3
  · exact wpZ_pick hr4 ho4 h4
end
end Go.Proofs.YtgffimanhmpohaaGreat
/- The slab of a store's nodes: what lies in memory; none, at, Get, Set, Take, New. -/
namespace Go.Proofs.YtgffimanhmpohaaGreat
open Go Go.RowKit
/-- A node of a store. -/
structure SN where
  dg : List UInt8
  k : UInt8
  d : Int
  key : List UInt8
  val : List UInt8
  hs : List UInt8
  l : Int
  r : Int
  sz : Int
  hd : Int
structure SN.wf (n : SN) : Prop where
  dg : n.dg.length = 32
  key : n.key.length = 32
  hs : n.hs.length = 32
def SN.av (n : SN) : AV := .st [.st [.ba n.dg], .v (B8 n.k), .v (.int .i64 n.d), .ba n.key, .bs n.val none, .ba n.hs, .v (.int .i64 n.l), .v (.int .i64 n.r), .v (.int .i64 n.sz), .v (.int .i64 n.hd)]
def SN.zero : SN := ⟨List.replicate 32 0, 0, 0, List.replicate 32 0, [], List.replicate 32 0, 0, 0, 0, 0⟩
theorem SN.zero_wf : SN.zero.wf := ⟨List.length_replicate, List.length_replicate, List.length_replicate⟩
/-- A node as it is when nothing was stored. -/
def zNd : AV := .st [.st [.ba (List.replicate 32 0)], .v (.int .u8 0), .v (.int .i64 0), .ba (List.replicate 32 0), .v (.slice none 0 0), .ba (List.replicate 32 0), .v (.int .i64 0), .v (.int .i64 0), .v (.int .i64 0), .v (.int .i64 0)]
def slA : Option (SN × Nat) → AV
  | some (n, c) => .st [n.av, .v (.int .i64 (c : Int))]
  | none => .st [zNd, .v (.int .i64 0)]
def inA (n : Int) : AV := .v (.int .i64 n)
abbrev sltT : Ty := ti148.ty
abbrev slbT : Ty := ti124.ty
abbrev sndT : Ty := ti81.ty
/-- A slab: its slots, its free handles (the first m of fs), its room, how many are used. -/
structure Slb where
  γ : Nat
  δ : Nat
  sl : List (Option (SN × Nat))
  fs : List Int
  m : Nat
  room : Nat
  used : Nat
abbrev slbB (γ δ n m room used : Nat) (es fs : List AV) : List (Ty × AV) := [(slbT, .st [.vw 1 γ n, .vw 2 δ m, .v (.int .i64 (room : Int)), .v (.int .i64 (used : Int))]), (.vc 148 sltT, .vc γ es), (.vc 3 .sc, .vc δ fs)]
abbrev Slb.bx (s : Slb) : List (Ty × AV) := slbB s.γ s.δ s.sl.length s.m s.room s.used (s.sl.map slA) (s.fs.map inA)
structure Slb.wf (s : Slb) : Prop where
  room : 0 < s.room ∧ s.room ≤ 65536
  len : s.sl.length ≤ 65536
  pos : ∀ x c, some (x, c) ∈ s.sl → 0 < c ∧ c ≤ 1073741824 ∧ x.wf
/-- The slot of a handle. -/
def Slb.at_ (s : Slb) (h : Int) : Option (SN × Nat) := if 1 ≤ h then (s.sl[(h - 1).toNat]?).join else none
def Slb.get_ (s : Slb) (h : Int) : SN := match s.at_ h with
  | some (x, _) => x
  | none => SN.zero
def Slb.ok_ (s : Slb) (h : Int) : Bool := (s.at_ h).isSome
/-- A slot's thing is another one. -/
def Slb.set_ (s : Slb) (h : Int) (n : SN) : Slb := match s.at_ h with
  | some (_, c) => { s with sl := s.sl.set (h - 1).toNat (some (n, c)) }
  | none => s
/-- A new slot. -/
def Slb.push (s : Slb) (n : SN) : Slb := { s with γ := s.γ + 1, sl := s.sl ++ [some (n, 1)], used := s.used + 1 }
theorem Slb.at_some {s : Slb} {h : Int} {x : SN} {c : Nat} (hh : s.at_ h = some (x, c)) : ∃ i : Nat, h = (i : Int) + 1 ∧ i < s.sl.length ∧ s.sl[i]? = some (some (x, c)) := by
  unfold Slb.at_ at hh
  split at hh
  · refine ⟨(h - 1).toNat, by omega, ?_⟩
    cases hg : s.sl[(h - 1).toNat]? with
    | none => rw [hg] at hh; cases hh
    | some y => rw [hg] at hh; exact ⟨(List.getElem?_eq_some_iff.1 hg).1, congrArg some hh⟩
  · cases hh
theorem Slb.at_pos {s : Slb} (hs : s.wf) {h : Int} {x : SN} {c : Nat} (hh : s.at_ h = some (x, c)) : 0 < c ∧ c ≤ 1073741824 ∧ x.wf := by
  obtain ⟨i, _, _, hi⟩ := Slb.at_some hh
  exact hs.pos x c (List.mem_of_getElem? hi)
theorem Slb.at_none {s : Slb} {h : Int} (hh : s.at_ h = none) : h < 1 ∨ (s.sl.length : Int) < h ∨ ∃ i : Nat, h = (i : Int) + 1 ∧ i < s.sl.length ∧ s.sl[i]? = some none := by
  unfold Slb.at_ at hh
  split at hh
  · by_cases hl : (s.sl.length : Int) < h
    · exact .inr (.inl hl)
    · have hi : (h - 1).toNat < s.sl.length := by omega
      refine .inr (.inr ⟨(h - 1).toNat, by omega, hi, ?_⟩)
      rw [List.getElem?_eq_getElem hi] at hh ⊢
      exact congrArg some hh
  · exact .inl (by omega)
theorem sl_get (sl : List (Option (SN × Nat))) (i : Nat) (x : Option (SN × Nat)) (h : sl[i]? = some x) : (sl.map slA).getD i .any = slA x := by
  rw [List.getD_eq_getElem?_getD, List.getElem?_map, h]; rfl
theorem slbNone_v (γ δ n m room used : Nat) (es fs : List AV) (h : 0 < room) :
    VX Tryz.prog 73 (slbB γ δ n m room used es fs) [] [] [.ptr 0 []] (slbB γ δ n m room used es fs) [] [] (.v (.bool false)) := by
  have hr : decide ((room : Int) = 0) = false := decide_eq_false (by omega)
  refine mE Tryz.func73 ?_; intro N w0 a w hN hR H
  have hX := @hr
  refine mW ?_; clear H; intro a w H
  refine wp_ret ?_; exact mEnd [0, 1, 2] [] [.tmp 2] [_] hN hR H
set_option maxRecDepth 20000 in
set_option maxHeartbeats 4000000 in
theorem slbAt_ok (γ δ m room used : Nat) (sl : List (Option (SN × Nat))) (fs : List AV) (h : 0 < room) (i : Nat) (x : SN) (c : Nat) (hx : sl[i]? = some (some (x, c))) (hc : 0 < c) (hl : sl.length ≤ 65536) :
    VX Tryz.prog 85 (slbB γ δ sl.length m room used (sl.map slA) fs) [] [] [.ptr 0 [], .v (.int .i64 ((i : Int) + 1))] (slbB γ δ sl.length m room used (sl.map slA) fs) [] [] (.pv 1 γ i []) := by
  have hg := sl_get sl i _ hx
  simp only [slA, SN.av] at hg
  have hi : i < sl.length := (List.getElem?_eq_some_iff.1 hx).1
  have hn := slbNone_v γ δ sl.length m room used (sl.map slA) fs h
  have hml : (sl.map slA).length = sl.length := List.length_map ..
  have d1 : decide ((i : Int) + 1 < 1) = false := decide_eq_false (by omega)
  have d2 : decide ((sl.length : Int) < (i : Int) + 1) = false := decide_eq_false (by omega)
  have d3 : decide ((c : Int) = 0) = false := decide_eq_false (by omega)
  have e1 : ((i : Int) + 1 - 1).toNat = i := by omega
  generalize sl.map slA = es at *
  refine mE Tryz.func85 ?_; intro N w0 a w hN hR H
  refine mW ?_; clear H; intro a w H
  refine mCall [0, 1, 2] [] (hn) H ?_; clear H; intro a w H; try refine wpList_nil ?_
  have hX := And.intro @hml (And.intro @d1 (And.intro @d2 (And.intro @d3 (And.intro @e1 (@hg)))))
  (try refine wp_region_lit ?_); refine mN 3 hN H ?_; clear H; intro a w H
  (try refine wp_region_lit ?_); refine mN 9 hN H ?_; clear H; intro a w H
  (try refine wp_region_lit ?_); refine mN 9 hN H ?_; clear H; intro a w H
  (try refine wp_region_lit ?_); refine mN 2 hN H ?_; clear H; intro a w H
  refine mW ?_; clear H; intro a w H
  refine mC H (fun hb => ?_) (fun hb => ?_)
  · exact absurd hb (by decide)
  · clear hb
    refine mW ?_; clear H; intro a w H
    refine wp_ret ?_; exact mEnd [0, 1, 2] [] [.tmp 4] [_] hN hR H
set_option maxRecDepth 20000 in
set_option maxHeartbeats 4000000 in
theorem slbAt_no (γ δ m room used : Nat) (sl : List (Option (SN × Nat))) (fs : List AV) (hr : 0 < room) (h : Int) (hl : sl.length ≤ 65536) (hh : h < 1 ∨ (sl.length : Int) < h ∨ ∃ i : Nat, h = (i : Int) + 1 ∧ i < sl.length ∧ sl[i]? = some none) :
    VX Tryz.prog 85 (slbB γ δ sl.length m room used (sl.map slA) fs) [] [] [.ptr 0 [], .v (.int .i64 h)] (slbB γ δ sl.length m room used (sl.map slA) fs) [] [] (.v (.pointer none)) := by
  have hn := slbNone_v γ δ sl.length m room used (sl.map slA) fs hr
  have hml : (sl.map slA).length = sl.length := List.length_map ..
  by_cases h1 : h < 1
  · have d1 : decide (h < 1) = true := decide_eq_true h1
    clear hh
    generalize sl.map slA = es at *
    refine mE Tryz.func85 ?_; intro N w0 a w hN hR H
    refine mW ?_; clear H; intro a w H
    refine mCall [0, 1, 2] [] (hn) H ?_; clear H; intro a w H; try refine wpList_nil ?_
    have hX := And.intro @hml (@d1)
    (try refine wp_region_lit ?_); refine mN 3 hN H ?_; clear H; intro a w H
    (try refine wp_region_lit ?_); refine mN 9 hN H ?_; clear H; intro a w H
    (try refine wp_region_lit ?_); refine mN 8 hN H ?_; clear H; intro a w H
    refine mSk (.v (.int .i64 0)) H ?_; clear H; intro a w H
    refine mSk (.v (.int .i64 0)) H ?_; clear H; intro a w H
    refine mSk (.v (.int .i64 0)) H ?_; clear H; intro a w H
    refine mSk (.v (.bool false)) H ?_; clear H; intro a w H
    refine mW ?_; clear H; intro a w H
    refine mC H (fun hb => ?_) (fun hb => ?_)
    · refine mW ?_; clear H; intro a w H
      refine wp_ret ?_; exact mEnd [0, 1, 2] [] [.tmp 4] [_] hN hR H
    · exact absurd hb (by decide)
  · have d1 : decide (h < 1) = false := decide_eq_false h1
    by_cases h2 : (sl.length : Int) < h
    · have d2 : decide ((sl.length : Int) < h) = true := decide_eq_true h2
      clear hh
      generalize sl.map slA = es at *
      refine mE Tryz.func85 ?_; intro N w0 a w hN hR H
      have hX := And.intro @hml (@d1)
      refine mW ?_; clear H; intro a w H
      refine mCall [0, 1, 2] [] (hn) H ?_; clear H; intro a w H; try refine wpList_nil ?_
      clear hX; have hX := And.intro @hml (And.intro @d1 (@d2))
      (try refine wp_region_lit ?_); refine mN 3 hN H ?_; clear H; intro a w H
      (try refine wp_region_lit ?_); refine mN 9 hN H ?_; clear H; intro a w H
      (try refine wp_region_lit ?_); refine mN 8 hN H ?_; clear H; intro a w H
      refine mSk (.v (.int .i64 0)) H ?_; clear H; intro a w H
      refine mSk (.v (.int .i64 0)) H ?_; clear H; intro a w H
      refine mSk (.v (.int .i64 0)) H ?_; clear H; intro a w H
      refine mSk (.v (.bool false)) H ?_; clear H; intro a w H
      refine mW ?_; clear H; intro a w H
      refine mC H (fun hb => ?_) (fun hb => ?_)
      · refine mW ?_; clear H; intro a w H
        refine wp_ret ?_; exact mEnd [0, 1, 2] [] [.tmp 4] [_] hN hR H
      · exact absurd hb (by decide)
    · have d2 : decide ((sl.length : Int) < h) = false := decide_eq_false h2
      obtain ⟨i, rfl, hi, hx⟩ : ∃ i : Nat, h = (i : Int) + 1 ∧ i < sl.length ∧ sl[i]? = some none := by
        rcases hh with hh | hh | hh
        · exact absurd hh h1
        · exact absurd hh h2
        · exact hh
      have hg := sl_get sl i _ hx
      simp only [slA, zNd] at hg
      have e1 : ((i : Int) + 1 - 1).toNat = i := by omega
      generalize sl.map slA = es at *
      refine mE Tryz.func85 ?_; intro N w0 a w hN hR H
      have hX := And.intro @hml (And.intro @d1 (@d2))
      refine mW ?_; clear H; intro a w H
      refine mCall [0, 1, 2] [] (hn) H ?_; clear H; intro a w H; try refine wpList_nil ?_
      clear hX; have hX := And.intro @hml (And.intro @d1 (And.intro @d2 (And.intro @e1 (@hg))))
      (try refine wp_region_lit ?_); refine mN 3 hN H ?_; clear H; intro a w H
      (try refine wp_region_lit ?_); refine mN 9 hN H ?_; clear H; intro a w H
      (try refine wp_region_lit ?_); refine mN 9 hN H ?_; clear H; intro a w H
      (try refine wp_region_lit ?_); refine mN 2 hN H ?_; clear H; intro a w H
      refine mW ?_; clear H; intro a w H
      refine mC H (fun hb => ?_) (fun hb => ?_)
      · refine mW ?_; clear H; intro a w H
        refine wp_ret ?_; exact mEnd [0, 1, 2] [] [.tmp 4] [_] hN hR H
      · exact absurd hb (by decide)
end Go.Proofs.YtgffimanhmpohaaGreat
/- Bytes put one behind the other. -/
namespace Go.Proofs.YtgffimanhmpohaaGreat
open Go Go.RowKit
theorem bss_len (ls : List (List UInt8)) : (bss ls).length = ls.length := by simp [bss]
theorem bss_get (ls : List (List UInt8)) (k : Nat) (hk : k < ls.length) : (bss ls).getD k .any = .bs ls[k] none := by simp [bss, List.getD, hk]
theorem flat_take (ls : List (List UInt8)) (k : Nat) (hk : k < ls.length) : (ls.take (k + 1)).flatten = (ls.take k).flatten ++ ls[k] := by rw [List.take_succ_eq_append_getElem hk, List.flatten_append]; simp only [List.flatten_cons, List.flatten_nil, List.append_nil]
theorem flat_take_le (ls : List (List UInt8)) (k : Nat) : (ls.take k).flatten.length ≤ ls.flatten.length := by
  conv => rhs; rw [← List.take_append_drop k ls]
  rw [List.flatten_append, List.length_append]; omega
theorem join_v (ls : List (List UInt8)) (hb : ls.flatten.length ≤ 34359738368) (hl : ls.length ≤ 34359738368) :
    VC Tryz.prog 159 [.sl .sc (bss ls) none] [(5, ls.flatten.length)] (.bs ls.flatten (some 0)) := by
  have hbl := bss_len ls
  refine v_enter Tryz.func159 rfl (by kernel_rfl) (by show 1 ≤ 17; decide) ?_
  intro N w0 a w hN hR H
  refine mW ?_; clear H; intro a w H
  have H := v_nilB tab_ok H 3 5 (j := ti5) rfl (by decide) (by rfl)
  rw [hbl] at H
  refine v_loop (fun k : Nat => ⟨[(8, none, .v (.int .i64 (k : Int))), (3, none, .bs (ls.take k).flatten (some 0)), (7, none, .v (.int .i64 (ls.length : Int))), (6, none, .sl .sc (bss ls) none)], [], [], [(5, (ls.take k).flatten.length)]⟩) (fun k => k ≤ ls.length) (fun k => ls.length - k) 0 (Nat.zero_le _) (H.to 0 1 ⟨hN, Nat.le_trans hR (by decide)⟩ ⟨rfl, rfl, rfl, rfl, trivial⟩ rfl rfl rfl rfl rfl) ?_
  clear H
  intro k a w hk H
  refine mW ?_; clear H; intro a w H
  refine mC H (fun hb => ?_) (fun hb => ?_)
  · have hlt : k < ls.length := by simpa using hb
    have hf := flat_take_le ls (k + 1)
    rw [flat_take ls k hlt, List.length_append] at hf
    refine wp_skip ?_
    refine wp_seq ?_
    refine wp_block ?_
    refine wp_seq ?_
    (try refine wp_region_lit ?_); refine mN 2 hN H ?_; clear H; intro a w H
    rw [bss_get ls k hlt] at H
    refine mW ?_; clear H; intro a w H
    exact ⟨k + 1, hlt, by omega, H.to 0 1 ⟨hN, Nat.le_trans hR (by decide)⟩ ⟨rfl, by rw [flat_take ls k hlt]; rfl, rfl, rfl, trivial⟩ rfl (by rw [flat_take ls k hlt, List.length_append]; rfl) rfl rfl rfl⟩
  · have hge : k = ls.length := by simp at hb; omega
    subst hge
    refine mW ?_; clear H; intro a w H
    refine wp_ret ?_; exact mEnd [] [0] [.tmp 2] [_] hN hR H
end Go.Proofs.YtgffimanhmpohaaGreat
/- The texts of the digests. -/
namespace Go.Proofs.YtgffimanhmpohaaGreat
open Go Go.RowKit
set_option maxRecDepth 20000 in
theorem text_v (t : UInt8) (ls : List (List UInt8)) (hb : ls.flatten.length ≤ 34359738367) (hl : ls.length ≤ 34359738367) :
    VC Tryz.prog 137 [.v (B8 t), .sl .sc (bss ls) none] [(5, (t :: ls.flatten).length)] (.bs (t :: ls.flatten) (some 0)) := by
  have hbl := bss_len ls
  have ht := t.toNat_lt
  refine v_enter Tryz.func137 rfl (by kernel_rfl) (by show 2 ≤ 11; decide) ?_
  intro N w0 a w hN hR H
  refine mW ?_; clear H; intro a w H
  refine mCall [] [] (join_v ([t] :: ls) (by rw [List.flatten_cons, List.length_append]; simp only [List.length_cons, List.length_nil]; omega) (by simp only [List.length_cons]; omega)) H ?_; clear H; intro a w H; try refine wpList_nil ?_
  refine mW ?_; clear H; intro a w H
  refine wp_ret ?_; exact mEnd [] [2] [.tmp 4] [_] hN hR H
set_option maxRecDepth 20000 in
theorem leafText_v (k v : List UInt8) (hk : k.length = 32) (hv : v.length = 32) :
    VC Tryz.prog 112 [.ba k, .ba v] [(5, 65)] (.bs (1 :: (k ++ v)) (some 0)) := by
  refine v_enter Tryz.func112 rfl (by kernel_rfl) (by show 2 ≤ 9; decide) ?_
  intro N w0 a w hN hR H
  refine mW ?_; clear H; intro a w H
  have hX := And.intro (List.take_of_length_le (Nat.le_of_eq hk)) (List.take_of_length_le (Nat.le_of_eq hv))
  refine mS ?_; refine mD 2 [2, 3] [] H ?_; clear H; intro gS H; refine mT ?_; clear H; intro a w H
  refine mCallT [] [] (text_v 1 [k, v] (by simp; omega) (by simp)) H ?_; clear H; intro a w H
  refine mT ?_; clear H; intro a w H
  refine v_drawNil H ?_; clear H; intro H
  clear hX; have hX := And.intro @hk (@hv)
  refine wp_ret ?_; exact mEnd [] [1] [.tmp 4] [_] hN hR H
set_option maxRecDepth 20000 in
theorem innerText_v (k v : List UInt8) (hk : k.length = 32) (hv : v.length = 32) :
    VC Tryz.prog 113 [.ba k, .ba v] [(5, 65)] (.bs (2 :: (k ++ v)) (some 0)) := by
  refine v_enter Tryz.func113 rfl (by kernel_rfl) (by show 2 ≤ 9; decide) ?_
  intro N w0 a w hN hR H
  have hX := And.intro @hk (@hv)
  refine mW ?_; clear H; intro a w H
  clear hX; have hX := And.intro (List.take_of_length_le (Nat.le_of_eq hk)) (List.take_of_length_le (Nat.le_of_eq hv))
  refine mS ?_; refine mD 2 [2, 3] [] H ?_; clear H; intro gS H; refine mT ?_; clear H; intro a w H
  refine mCallT [] [] (text_v 2 [k, v] (by simp; omega) (by simp)) H ?_; clear H; intro a w H
  refine mT ?_; clear H; intro a w H
  refine v_drawNil H ?_; clear H; intro H
  clear hX; have hX := And.intro @hk (@hv)
  refine wp_ret ?_; exact mEnd [] [1] [.tmp 4] [_] hN hR H
set_option maxRecDepth 20000 in
theorem emptyText_v :
    VC Tryz.prog 114 [] [(5, 1)] (.bs [0] (some 0)) := by
  refine v_enter Tryz.func114 rfl (by kernel_rfl) (by decide) ?_
  intro N w0 a w hN hR H
  refine mW ?_; clear H; intro a w H
  refine mCall [] [] (text_v 0 [] (by simp) (by simp)) H ?_; clear H; intro a w H; try refine wpList_nil ?_
  refine mW ?_; clear H; intro a w H
  refine wp_ret ?_; exact mEnd [] [0] [.tmp 0] [_] hN hR H
end Go.Proofs.YtgffimanhmpohaaGreat
/- The walks of the program's SHA-256: the schedule. -/

namespace Go.Proofs.YtgffimanhmpohaaGreat
open Go Go.RowKit
abbrev W32 (x : BitVec 32) : Value := .int .u32 (n32 x)


theorem and31 : ∀ k : Fin 32, 0 < k.val → bits .and .u64 (IntKind.u64.wrap (-(k.val:Int))) 31 = 32 - (k.val : Int) := by decide +kernel
theorem rot_any (x : BitVec 32) (k : Nat) (hk : 0 < k) (hk2 : k < 32) (w : World) :
    Calls Tryz.prog 166 #[.int .u32 (n32 x), .int .i64 (-(k:Int))] w fun e w' => e = .returned (.int .u32 (n32 (ror x k))) ∧ w' = w := by
  have h1 : bits .and .u64 (IntKind.u64.wrap (-(k:Int))) 31 = (32 - (k : Int)) := and31 ⟨k, hk2⟩ hk
  have h2 : (0 : Int) ≤ 32 - (k:Int) := by omega
  have h3 : (32 - (k:Int)) ≤ 32 := by omega
  go_enter Tryz.func166, Tryz.ntmps166
  go_wp2
  go_ret
  refine ⟨?_, rfl⟩
  show Ending.returned (.int .u32 (bits BinOp.or IntKind.u32 (n32 x * 2 ^ (32 - k) % 4294967296) (n32 x / 2 ^ (32 - (32 - k))))) = _
  rw [u32_shl, u32_shr, u32_or, show 32 - (32 - k) = k by omega]; rfl
theorem right_any (x : BitVec 32) (k : Nat) (hk : 0 < k) (hk2 : k < 32) (w : World) :
    Calls Tryz.prog 152 #[.int .u32 (n32 x), .int .i64 k] w fun e w' => e = .returned (.int .u32 (n32 (ror x k))) ∧ w' = w := by
  go_enter Tryz.func152, Tryz.ntmps152
  go_wp2_with (go_at_call 166; refine (rot_any _ _ (by omega) (by omega) _).mono ?_; rintro e w' ⟨rfl, rfl⟩)
  go_ret
  exact ⟨rfl, rfl⟩

theorem right_int (x : BitVec 32) (n : Int) (h0 : 0 < n) (h1 : n < 32) (w : World) :
    Calls Tryz.prog 152 #[.int .u32 (n32 x), .int .i64 n] w fun e w' => e = .returned (.int .u32 (n32 (ror x n.toNat))) ∧ w' = w := by
  obtain ⟨k, rfl⟩ := Int.eq_ofNat_of_zero_le (Int.le_of_lt h0)
  exact right_any x k (by omega) (by omega) w
/-- The next cell of a row of words is filled. -/
theorem row_next (xs : List (BitVec 32)) (n : Nat) (x : BitVec 32) (hn : 0 < n) : ((xs ++ List.replicate n 0).map W32).toArray.setIfInBounds xs.length (W32 x) = ((xs ++ [x] ++ List.replicate (n - 1) 0).map W32).toArray := by
  obtain ⟨m, rfl⟩ : ∃ m, n = m + 1 := ⟨n - 1, by omega⟩
  simp [List.replicate_succ, List.set_append]

attribute [local go_sem] or_bytes u32_shr10 u32_shr3 u32_xor u32_and u32_or u32_add u32_add' u32_not
set_option maxRecDepth 100000 in
theorem schedule_any (bs : List UInt8) (hbs : bs.length = 64) (w : World) :
    Calls Tryz.prog 150 #[.agg (bs.map B8).toArray] w fun e w' => e = .returned (.agg ((sched (words bs 16) 48).map W32).toArray) ∧ Below w.heap.size w w' := by
  go_enter Tryz.func150, Tryz.ntmps150
  go_wp2
  go_loopw [4, 10] (fun _ i wr => ∃ k : Nat, k ≤ 16 ∧ i = .int .i64 k ∧ Blk wr w.heap.size 186 (bs.map B8).toArray ∧ (∃ c1 : Array Value, c1.size = 64 ∧ Blk wr (w.heap.size + 1) 210 c1) ∧
      Blk wr (w.heap.size + 1 + 1) 210 ((words bs k ++ List.replicate (64 - k) 0).map W32).toArray ∧ Below w.heap.size w wr) (fun _ i _ => 16 - (intOf i).toNat)
  case atStart =>
    refine ⟨0, by omega, rfl, ((Blk.new _ _ _).alloc _).alloc _, ⟨_, by rfl, (Blk.newAt _ _ _ (by simp)).alloc _⟩, by rw [words_zero]; exact Blk.newAt _ _ _ (by simp), ?_⟩
    exact (((Below.refl _ _).alloc (Nat.le_refl _) _).alloc (by simp) _).alloc (by simp; omega) _
  case round =>
    obtain ⟨k, hk, rfl, h1, ⟨c1, hc1, h2⟩, h3, hb⟩ := hrel
    by_cases hlt : k < 16
    · have a0 : wr.cell? ⟨w.heap.size, 4 * k, none⟩ = some (B8 (bs.getD (4 * k) 0)) := by rw [h1.cell]; simp [show 4 * k < bs.length by omega]
      have a1 : wr.cell? ⟨w.heap.size, 4 * k + 1, none⟩ = some (B8 (bs.getD (4 * k + 1) 0)) := by rw [h1.cell]; simp [show 4 * k + 1 < bs.length by omega]
      have a2 : wr.cell? ⟨w.heap.size, 4 * k + 2, none⟩ = some (B8 (bs.getD (4 * k + 2) 0)) := by rw [h1.cell]; simp [show 4 * k + 2 < bs.length by omega]
      have a3 : wr.cell? ⟨w.heap.size, 4 * k + 3, none⟩ = some (B8 (bs.getD (4 * k + 3) 0)) := by rw [h1.cell]; simp [show 4 * k + 3 < bs.length by omega]
      have a4 : wr.cell? ⟨w.heap.size + 1 + 1, k, none⟩ = some (W32 0) := by
        rw [h3.cell]; simp [List.getElem?_append, words_length, show 0 < 64 - k by omega]
      have a5 := h3.free k
      have b0 := (bs.getD (4 * k) 0).toNat_lt
      have b1 := (bs.getD (4 * k + 1) 0).toNat_lt
      have b2 := (bs.getD (4 * k + 2) 0).toNat_lt
      have b3 := (bs.getD (4 * k + 3) 0).toNat_lt
      have hn : ((words bs k ++ List.replicate (64 - k) 0).map W32).toArray.setIfInBounds k (W32 (wordAt bs k)) = ((words bs (k + 1) ++ List.replicate (64 - (k + 1)) 0).map W32).toArray := by
        have := row_next (words bs k) (64 - k) (wordAt bs k) (by omega)
        rw [words_length] at this; rw [this, words_succ, show 64 - k - 1 = 64 - (k + 1) by omega]
      have h3' : ∀ x, x = wordAt bs k → Blk (wr.setCell ⟨w.heap.size + 1 + 1, k, none⟩ (W32 x)) (w.heap.size + 1 + 1) 210 ((words bs (k + 1) ++ List.replicate (64 - (k + 1)) 0).map W32).toArray := by
        rintro x rfl; have := h3.put k (W32 (wordAt bs k)); rw [hn] at this; exact this
      have HX : Hid (wordAt bs k = word4 (bs.getD (4 * k) 0) (bs.getD (4 * k + 1) 0) (bs.getD (4 * k + 2) 0) (bs.getD (4 * k + 3) 0)) := wordAt_def _ _
      generalize bs.getD (4 * k) 0 = x0 at *
      generalize bs.getD (4 * k + 1) 0 = x1 at *
      generalize bs.getD (4 * k + 2) 0 = x2 at *
      generalize bs.getD (4 * k + 3) 0 = x3 at *
      have H1 := Lib.hid h1; have H2 := Lib.hid h2; have H3 := Lib.hid h3'; have HB := Lib.hid hb; have HC := Lib.hid hc1; clear h1 h2 h3 h3' hb hc1 hn
      go_wp2
      refine wp_region_T [31] [] (fun _ => True) (by kernel_rfl) (by kernel_rfl) trivial ?_
      repeat (first
        | (refine wpT_here (by rfl) (by rfl) (by rfl) (fun K hK => ?_); go_big_quiet_op; refine hK _ ?_; clear hK K)
        | (refine wpT_loud (by rfl) (by rfl) (fun K hK => ?_); go_big_op; refine hK _ _ trivial ?_; clear hK K))
      refine wpT_nil ?_
      go_wp2
      go_roundw
      case rel => exact ⟨k + 1, by omega, by go_num, (H1.out.far (by simp; omega) _).drew, ⟨c1, HC.out, (H2.out.far (by simp) _).drew⟩, (H3.out _ HX.out.symm).drew, (HB.out.setCell (by simp; omega) _).drew⟩
      case measure => simp [intOf]; omega
    · obtain rfl : k = 16 := by omega
      rw [show ((16 : Nat) : Int) = (16 : Int) from rfl]
      have H1 := Lib.hid h1; have H2 := Lib.hid h2; have H3 := Lib.hid h3; have HB := Lib.hid hb; have HC := Lib.hid hc1; clear h1 h2 h3 hb hc1
      go_wp2
      go_loopw [5, 6, 7, 8, 9] (fun i _ _ _ _ wr => ∃ t : Nat, 16 ≤ t ∧ t ≤ 64 ∧ i = .int .i64 t ∧ Blk wr w.heap.size 186 (bs.map B8).toArray ∧ (∃ c1 : Array Value, c1.size = 64 ∧ Blk wr (w.heap.size + 1) 210 c1) ∧
          Blk wr (w.heap.size + 1 + 1) 210 ((sched (words bs 16) (t - 16) ++ List.replicate (64 - t) 0).map W32).toArray ∧ Below w.heap.size w wr) (fun i _ _ _ _ _ => 64 - (intOf i).toNat)
      case atStart => exact ⟨16, by omega, by omega, rfl, H1.out, ⟨c1, HC.out, H2.out⟩, by rw [show 16 - 16 = 0 from rfl, sched_zero]; exact H3.out, HB.out⟩
      case round =>
        clear H1 H2 H3 HB HC hk hlt
        obtain ⟨t, ht1, ht2, rfl, h1, ⟨c1, hc1, h2⟩, h3, hb⟩ := hrel
        by_cases hlt : t < 64
        · have hl : (sched (words bs 16) (t - 16)).length = t := by rw [sched_length, words_length]; omega
          have HN : Hid (sched (words bs 16) (t + 1 - 16) = sched (words bs 16) (t - 16) ++ [nextWord (sched (words bs 16) (t - 16))]) := by
            rw [show t + 1 - 16 = (t - 16) + 1 by omega]; exact sched_succ _ _
          generalize sched (words bs 16) (t - 16) = s at *
          have cell : ∀ i, i < t → wr.cell? ⟨w.heap.size + 1 + 1, i, none⟩ = some (W32 (s.getD i 0)) := by
            intro i hi; rw [h3.cell]; simp [List.getElem?_append, hl, hi]
          have a2 := cell (t - 2) (by omega)
          have a7 := cell (t - 7) (by omega)
          have a15 := cell (t - 15) (by omega)
          have a16 := cell (t - 16) (by omega)
          have at_ : wr.cell? ⟨w.heap.size + 1 + 1, t, none⟩ = some (W32 0) := by
            rw [h3.cell]; simp [List.getElem?_append, hl, show 0 < 64 - t by omega]
          have af := h3.free t
          have HX : Hid (nextWord s = sg1 (s.getD (t - 2) 0) + s.getD (t - 7) 0 + sg0 (s.getD (t - 15) 0) + s.getD (t - 16) 0) := by unfold nextWord; rw [hl]; exact rfl
          have hn : ((s ++ List.replicate (64 - t) 0).map W32).toArray.setIfInBounds t (W32 (nextWord s)) = (((s ++ [nextWord s]) ++ List.replicate (64 - (t + 1)) 0).map W32).toArray := by
            have := row_next s (64 - t) (nextWord s) (by omega)
            rw [hl] at this; rw [this, show 64 - t - 1 = 64 - (t + 1) by omega]
          have h3' : ∀ x, x = nextWord s → Blk (wr.setCell ⟨w.heap.size + 1 + 1, t, none⟩ (W32 x)) (w.heap.size + 1 + 1) 210 (((s ++ [nextWord s]) ++ List.replicate (64 - (t + 1)) 0).map W32).toArray := by
            rintro x rfl; have := h3.put t (W32 (nextWord s)); rw [hn] at this; exact this
          have H1 := Lib.hid h1; have H2 := Lib.hid h2; have H3 := Lib.hid h3'; have HB := Lib.hid hb; have HC := Lib.hid hc1; have HL := Lib.hid hl
          clear h1 h2 h3 h3' hb hc1 hn cell hl
          generalize s.getD (t - 2) 0 = x2 at *
          generalize s.getD (t - 7) 0 = x7 at *
          generalize s.getD (t - 15) 0 = x15 at *
          generalize s.getD (t - 16) 0 = x16 at *
          go_wp2
          refine wp_region_T [] [] (fun _ => True) (by kernel_rfl) (by kernel_rfl) trivial ?_
          repeat (first
            | (refine wpT_here (by rfl) (by rfl) (by rfl) (fun K hK => ?_); go_big_quiet_op; refine hK _ ?_; clear hK K)
            | (refine wpT_loud (by rfl) (by rfl) (fun K hK => ?_); go_big_op; refine hK _ _ trivial ?_; clear hK K))
          refine wpT_nil ?_
          go_wp2_with (go_at_call 152; refine (right_int _ _ (by omega) (by omega) _).mono ?_; rintro e w' ⟨rfl, rfl⟩)
          refine wp_region_T [15] [] (fun _ => True) (by kernel_rfl) (by kernel_rfl) trivial ?_
          repeat (first
            | (refine wpT_here (by rfl) (by rfl) (by rfl) (fun K hK => ?_); go_big_quiet_op; refine hK _ ?_; clear hK K)
            | (refine wpT_loud (by rfl) (by rfl) (fun K hK => ?_); go_big_op; refine hK _ _ trivial ?_; clear hK K))
          refine wpT_nil ?_
          go_wp2
          go_roundw
          case rel =>
            refine ⟨t + 1, by omega, by omega, by go_num, (H1.out.far (by simp; omega) _).drew.drew, ⟨c1, HC.out, (H2.out.far (by simp) _).drew.drew⟩, ?_, (HB.out.setCell (by simp; omega) _).drew.drew⟩
            rw [HN.out]
            exact (H3.out _ HX.out.symm).drew.drew
          case measure => simp [intOf]; omega
        · obtain rfl : t = 64 := by omega
          rw [show ((64 : Nat) : Int) = (64 : Int) from rfl]
          have hl : ((sched (words bs 16) 48).map W32).length = 64 := by simp [sched_length, words_length]
          have h3' : Blk wr (w.heap.size + 1 + 1) 210 ((sched (words bs 16) 48).map W32).toArray := by simpa using h3
          have H1 := Lib.hid h1; have H2 := Lib.hid h2; have H3 := Lib.hid h3'; have HB := Lib.hid hb; have HC := Lib.hid hc1; have HL := Lib.hid hl
          clear h1 h2 h3 h3' hb hc1 hl
          go_wp2_with (first
            | (refine wpList_ldAll rfl 210 _ rfl H3.out rfl (by kernel_rfl) (by rw [HL.out]; kernel_rfl) ?_)
            | (refine wpList_stAll rfl 210 _ _ rfl H2.out rfl rfl (by rw [HL.out]; kernel_rfl) (by rw [HL.out, HC.out]) (one_map _ _ fun _ => rfl) ?_))
          refine bodyPost_ret (results_ldAll (mid := (sched (words bs 16) 48).map W32) rfl _ (H2.out.row _) rfl (by kernel_rfl) (by rw [HL.out]; kernel_rfl)) rfl ⟨rfl, Below.row HB.out (by omega) _⟩
end Go.Proofs.YtgffimanhmpohaaGreat
/- The walks of the program's SHA-256: the block step. -/
namespace Go.Proofs.YtgffimanhmpohaaGreat
open Go Go.RowKit
abbrev S8.arr (s : S8) : Array Value := #[W32 s.a, W32 s.b, W32 s.c, W32 s.d, W32 s.e, W32 s.f, W32 s.g, W32 s.h]
set_option maxRecDepth 100000 in
theorem constants_any (w : World) : Calls Tryz.prog 151 #[] w fun e w' => e = .returned (.agg (kList.map W32).toArray) ∧ Below w.heap.size w w' := by
  go_enter Tryz.func151, Tryz.ntmps151
  go_wp2_with (first
    | (refine wpList_build rfl 210 _ rfl (.agg (kList.map W32).toArray) (fun _ => by kernel_rfl) ?_)
    | (refine wpList_stAll rfl 210 _ _ rfl (Blk.new _ _ _) rfl rfl (by kernel_rfl) (by rw [List.length_map, kList_length]; rfl) (one_map _ _ fun _ => rfl) ?_))
  refine bodyPost_ret (results_ldAll (mid := kList.map W32) rfl _ (g := w.heap.size) (t := 210) ?_ rfl (by kernel_rfl) (by kernel_rfl)) rfl ⟨rfl, ?_⟩
  · exact (Blk.new _ _ _).row _
  · exact Below.row ((Below.refl _ _).alloc (Nat.le_refl _) _) (Nat.le_refl _) _
end Go.Proofs.YtgffimanhmpohaaGreat
/- The walks of the program's SHA-256: the block step. -/
namespace Go.Proofs.YtgffimanhmpohaaGreat
open Go Go.RowKit
attribute [local go_sem] or_bytes u32_shr10 u32_shr3 u32_xor u32_and u32_or u32_add u32_add' u32_not u32_not'
set_option maxRecDepth 100000 in
theorem step_any (s : S8) (bs : List UInt8) (hbs : bs.length = 64) (w : World) :
    Calls Tryz.prog 124 #[.agg s.arr, .agg (bs.map B8).toArray] w fun e w' => e = .returned (.agg (step s bs).arr) ∧ Below w.heap.size w w' := by
  have hsl : ((sched (words bs 16) 48).map W32).length = 64 := by simp [sched_length, words_length]
  have hbl : (bs.map B8).length = 64 := by simpa using hbs
  have HSL := Lib.hid hsl; have HBL := Lib.hid hbl; clear hsl hbl
  have HBS := Lib.hid hbs; clear hbs
  go_enter Tryz.func124, Tryz.ntmps124
  go_wp2_with (refine wpList_ldAll rfl 186 _ rfl (g := w.heap.size + 1) (t := 186) (mid := bs.map B8) ((Blk.newAt _ _ _ (by simp)).alloc _) rfl (by kernel_rfl) (by rw [HBL.out]; kernel_rfl) ?_)
  refine (schedule_any _ HBS.out _).mono ?_
  rintro e w1 ⟨rfl, hb1⟩; have HB1 := Lib.hid hb1; clear hb1

  go_wp2_with fail

  refine (constants_any _).mono ?_
  rintro e w2 ⟨rfl, hb2⟩; have HB2 := Lib.hid hb2; clear hb2
  dsimp only
  iterate 7 go_step
  refine wpList_stAll rfl 210 (.tmp 5) _ rfl ((Blk.new _ _ _).alloc _) rfl rfl (by rw [HSL.out]; kernel_rfl) (by rw [HSL.out]; rfl) (one_map _ _ fun _ => rfl) ?_
  refine wpList_stAll rfl 210 (.tmp 6) _ rfl ((Blk.newAt _ _ _ (by simp)).rowFar (by simp) _) rfl rfl (by kernel_rfl) (by rw [List.length_map, kList_length]; rfl) (one_map _ _ fun _ => rfl) ?_
  have hz1 : w.heap.size + 1 + 1 + 1 ≤ w1.heap.size := by have := HB1.out.size; simpa using this
  have hz2 : w1.heap.size ≤ w2.heap.size := HB2.out.size
  refine wpList_forget (fun w3 => Blk w3 w.heap.size 184 s.arr ∧ (∃ z, z.size = 8 ∧ Blk w3 (w.heap.size + 1 + 1) 184 z) ∧ Blk w3 w2.heap.size 210 ((sched (words bs 16) 48).map W32).toArray ∧ Blk w3 (w2.heap.size + 1) 210 (kList.map W32).toArray ∧ Below w.heap.size w w3 ∧ w2.heap.size + 1 < w3.heap.size) ?_ ?_
  · have b0 : Blk w1 w.heap.size 184 s.arr := (((Blk.new _ _ _).alloc _).alloc _).below HB1.out (by simp; omega)
    have b2 : Blk w1 (w.heap.size + 1 + 1) 184 _ := (Blk.newAt _ _ _ (by simp)).below HB1.out (by simp)
    have bb : Below w.heap.size w w1 := ((((Below.refl _ _).alloc (Nat.le_refl _) _).alloc (by simp) _).alloc (by simp; omega) _).trans (HB1.out.mono (by simp; omega))
    refine ⟨((((b0.below HB2.out (by omega)).alloc _).alloc _).rowFar (by omega) _).rowFar (by omega) _, ⟨_, by rfl, ((((b2.below HB2.out (by omega)).alloc _).alloc _).rowFar (by omega) _).rowFar (by omega) _⟩,
      (((Blk.new _ _ _).alloc _).row _).rowFar (by omega) _, ((Blk.newAt _ _ _ (by simp)).rowFar (by simp) _).row _, ?_, by simp⟩
    exact Below.row (Below.row (((bb.trans (HB2.out.mono (by omega))).alloc (by omega) _).alloc (by simp; omega) _) (by omega) _) (by omega) _
  rintro w3 ⟨c1, ⟨z, hz, c2⟩, c3, c4, c5, hz3⟩
  have C1 := Lib.hid c1; have C2 := Lib.hid c2; have C3 := Lib.hid c3; have C4 := Lib.hid c4; have C5 := Lib.hid c5; have HZ := Lib.hid hz
  clear c1 c2 c3 c4 c5 hz HB1 HB2
  go_wp2_with ((with_reducible show wpList _ _ _ _ _ _); refine wpList_ldAll rfl 184 (.tmp 2) rfl (mid := s.arr.toList) C1.out rfl (by kernel_rfl) (by kernel_rfl) ?_)
  have HB0 := Lib.hid ((C5.out.alloc (by have := C5.out.size; omega) (Obj.cells s.arr 184)))
  have H7 : Hid (Blk (w3.alloc (Obj.cells s.arr 184)) w3.heap.size 184 s.arr) := Blk.new _ _ _
  have hw3 : w.heap.size + 1 + 1 < w3.heap.size := by omega
  go_loopw [8, 9, 10, 11, 12, 18] (fun _ _ _ _ _ i wr => ∃ t : Nat, t ≤ 64 ∧ i = .int .i64 t ∧ Blk wr w.heap.size 184 s.arr ∧ (∃ z : Array Value, z.size = 8 ∧ Blk wr (w.heap.size + 1 + 1) 184 z) ∧
      Blk wr w2.heap.size 210 ((sched (words bs 16) 48).map W32).toArray ∧ Blk wr (w2.heap.size + 1) 210 (kList.map W32).toArray ∧ Blk wr w3.heap.size 184 (rnds (sched (words bs 16) 48) s t).arr ∧ Below w.heap.size w wr)
    (fun _ _ _ _ _ i _ => 64 - (intOf i).toNat)
  case atStart => exact ⟨0, by omega, rfl, C1.out.alloc _, ⟨z, HZ.out, C2.out.alloc _⟩, C3.out.alloc _, C4.out.alloc _, by rw [rnds_zero]; exact H7.out, HB0.out⟩
  case round =>
    obtain ⟨t, ht, rfl, d1, ⟨z2, hz2', d2⟩, d3, d4, d5, d6⟩ := hrel
    clear C1 C2 C3 C4 C5 HZ HB0 H7
    by_cases hlt : t < 64
    · have HN := Lib.hid (rnds_succ (sched (words bs 16) 48) s t)
      have k1 : wr.cell? ⟨w2.heap.size + 1, t, none⟩ = some (W32 (kList.getD t 0)) := by
        rw [d4.cell]; have := kList_length; simp [show t < kList.length by omega]
      have k2 : wr.cell? ⟨w2.heap.size, t, none⟩ = some (W32 ((sched (words bs 16) 48).getD t 0)) := by
        rw [d3.cell]; have := HSL.out; simp only [List.length_map] at this; simp [show t < (sched (words bs 16) 48).length by omega]
      generalize kList.getD t 0 = kt at *
      generalize (sched (words bs 16) 48).getD t 0 = wt at *
      have r0 : wr.cell? ⟨w3.heap.size, 0, none⟩ = some (W32 (rnds (sched (words bs 16) 48) s t).a) := d5.cell 0
      have r1 : wr.cell? ⟨w3.heap.size, 1, none⟩ = some (W32 (rnds (sched (words bs 16) 48) s t).b) := d5.cell 1
      have r2 : wr.cell? ⟨w3.heap.size, 2, none⟩ = some (W32 (rnds (sched (words bs 16) 48) s t).c) := d5.cell 2
      have r3 : wr.cell? ⟨w3.heap.size, 3, none⟩ = some (W32 (rnds (sched (words bs 16) 48) s t).d) := d5.cell 3
      have r4 : wr.cell? ⟨w3.heap.size, 4, none⟩ = some (W32 (rnds (sched (words bs 16) 48) s t).e) := d5.cell 4
      have r5 : wr.cell? ⟨w3.heap.size, 5, none⟩ = some (W32 (rnds (sched (words bs 16) 48) s t).f) := d5.cell 5
      have r6 : wr.cell? ⟨w3.heap.size, 6, none⟩ = some (W32 (rnds (sched (words bs 16) 48) s t).g) := d5.cell 6
      have r7 : wr.cell? ⟨w3.heap.size, 7, none⟩ = some (W32 (rnds (sched (words bs 16) 48) s t).h) := d5.cell 7
      have D1 := Lib.hid d1; have D2 := Lib.hid d2; have D3 := Lib.hid d3; have D4 := Lib.hid d4; have D5 := Lib.hid d5; have D6 := Lib.hid d6; have HX := Lib.hid HN.out; have HZ := Lib.hid hz2'
      clear d1 d2 d3 d4 d5 d6 HN hz2'
      generalize rnds (sched (words bs 16) 48) s t = r at *
      go_wp2
      refine wp_region_T [] [] (fun _ => True) (by kernel_rfl) (by kernel_rfl) trivial ?_
      repeat (first
        | (refine wpT_here (by rfl) (by rfl) (by rfl) (fun K hK => ?_); go_big_quiet_op; refine hK _ ?_; clear hK K)
        | (refine wpT_loud (by rfl) (by rfl) (fun K hK => ?_); go_big_op; refine hK _ _ trivial ?_; clear hK K))
      refine wpT_nil ?_
      go_wp2
      refine wp_region_T [3, 5, 8] [0, 1, 4, 6, 7, 11, 12, 13, 14, 15, 16, 17, 18, 19, 20, 22, 23, 24, 26, 27, 28] (fun w' => w' = wr.drew.drew) (by kernel_rfl) (by kernel_rfl) rfl ?_
      repeat (first
        | (refine wpT_here (by rfl) (by rfl) (by rfl) (fun K hK => ?_); go_big_quiet_op; refine hK _ ?_; clear hK K)
        | (refine wpT_amb (by rfl) (by rfl) (by rfl) rfl (fun K hK => ?_); go_big_quiet_op; refine hK _ ?_; clear hK K)
        | (refine wpT_loud (by rfl) (by rfl) (fun K hK => ?_); go_step; refine (right_int _ _ (by omega) (by omega) _).mono ?_; rintro e w' ⟨rfl, rfl⟩; dsimp only; refine hK _ _ rfl ?_; clear hK K))
      refine wpT_nil ?_
      go_wp2
      refine wp_region_T [1, 3, 6] [2, 4, 5, 8, 9, 10, 11, 12, 13, 14, 15, 16, 17, 18, 19, 20, 21, 22] (fun w' => w' = wr.drew.drew.drew) (by kernel_rfl) (by kernel_rfl) rfl ?_
      repeat (first
        | (refine wpT_here (by rfl) (by rfl) (by rfl) (fun K hK => ?_); go_big_quiet_op; refine hK _ ?_; clear hK K)
        | (refine wpT_amb (by rfl) (by rfl) (by rfl) rfl (fun K hK => ?_); go_big_quiet_op; refine hK _ ?_; clear hK K)
        | (refine wpT_loud (by rfl) (by rfl) (fun K hK => ?_); go_step; refine (right_int _ _ (by omega) (by omega) _).mono ?_; rintro e w' ⟨rfl, rfl⟩; dsimp only; refine hK _ _ rfl ?_; clear hK K))
      refine wpT_nil ?_
      go_wp2_with ((with_reducible show wpList _ _ _ _ _ _); refine wpList_stAll rfl 184 (.tmp 7) _ rfl D5.out rfl rfl (by kernel_rfl) rfl (by simp [Value.oneCell']) ?_)
      go_roundw
      case rel =>
        exact ⟨t + 1, by omega, by go_num, D1.out.drew.drew.drew.rowFar (by omega) _, ⟨z2, HZ.out, D2.out.drew.drew.drew.rowFar (by omega) _⟩, D3.out.drew.drew.drew.rowFar (by omega) _, D4.out.drew.drew.drew.rowFar (by omega) _, by rw [HX.out, u32_sum5, u32_sum14]; exact D5.out.drew.drew.drew.row _, Below.row D6.out.drew.drew.drew (by omega) _⟩
      case measure => simp [intOf]; omega
    · obtain rfl : t = 64 := by omega
      rw [show ((64 : Nat) : Int) = (64 : Int) from rfl]
      have D1 := Lib.hid d1; have D2 := Lib.hid d2; have D5 := Lib.hid d5; have D6 := Lib.hid d6; have HZ := Lib.hid hz2'; have HD := Lib.hid (step_def s bs)
      clear d1 d2 d3 d4 d5 d6 hz2'
      obtain ⟨r, hr⟩ : ∃ r, r = rnds (sched (words bs 16) 48) s 64 := ⟨_, rfl⟩
      rw [← hr] at D5 HD
      clear hr
      go_wp2
      go_loopw [13, 98] (fun _ i wr' => ∃ k : Nat, k ≤ 8 ∧ i = .int .i64 k ∧ Blk wr' w.heap.size 184 ((mix s r k).map W32).toArray ∧ (∃ z : Array Value, z.size = 8 ∧ Blk wr' (w.heap.size + 1 + 1) 184 z) ∧
          Blk wr' w3.heap.size 184 (r.l.map W32).toArray ∧ Below w.heap.size w wr') (fun _ i _ => 8 - (intOf i).toNat)
      case atStart => exact ⟨0, by omega, rfl, by rw [mix_zero]; exact D1.out, ⟨z2, HZ.out, D2.out⟩, D5.out, D6.out⟩
      case round =>
        obtain ⟨k, hk, rfl, e1, ⟨z3, hz3', e2⟩, e5, e6⟩ := hrel
        clear D1 D2 D5 D6 HZ
        by_cases hlk : k < 8
        · have hl : r.l.length = 8 := rfl
          have k1 : wr.cell? ⟨w.heap.size, k, none⟩ = some (W32 (s.l.getD k 0)) := by
            rw [e1.cell]; simp [mix_at s r k hlk]
          have k2 : wr.cell? ⟨w3.heap.size, k, none⟩ = some (W32 (r.l.getD k 0)) := by
            rw [e5.cell]; simp [show k < r.l.length by omega]
          have k3 := e1.free k
          have hs : Blk (wr.setCell ⟨w.heap.size, k, none⟩ (W32 (s.l.getD k 0 + r.l.getD k 0))) w.heap.size 184 ((mix s r (k + 1)).map W32).toArray := by
            have := e1.put k (W32 (s.l.getD k 0 + r.l.getD k 0))
            rw [List.setIfInBounds_toArray, ← List.map_set, mix_set s r k hlk] at this
            exact this
          generalize s.l.getD k 0 = x at *
          generalize r.l.getD k 0 = y at *
          have E1 := Lib.hid hs; have E2 := Lib.hid e2; have E5 := Lib.hid e5; have E6 := Lib.hid e6; have HZ := Lib.hid hz3'
          clear e1 e2 e5 e6 hz3' hs hl
          go_wp2
          refine wp_region_T [8] [] (fun _ => True) (by kernel_rfl) (by kernel_rfl) trivial ?_
          repeat (first
            | (refine wpT_here (by rfl) (by rfl) (by rfl) (fun K hK => ?_); go_big_quiet_op; refine hK _ ?_; clear hK K)
            | (refine wpT_loud (by rfl) (by rfl) (fun K hK => ?_); go_big_op; refine hK _ _ trivial ?_; clear hK K))
          refine wpT_nil ?_
          go_wp2
          go_roundw
          case rel => exact ⟨k + 1, by omega, by go_num, E1.out.drew, ⟨z3, HZ.out, (E2.out.farAt (by omega) _).drew⟩, (E5.out.farAt (by omega) _).drew, (below_putAt E6.out (by omega) _).drew⟩
          case measure => simp [intOf]; omega
        · obtain rfl : k = 8 := by omega
          rw [show ((8 : Nat) : Int) = (8 : Int) from rfl]
          rw [mix_eight] at e1
          have E1 := Lib.hid e1; have E2 := Lib.hid e2; have E6 := Lib.hid e6; have HZ := Lib.hid hz3'
          clear e1 e2 e5 e6 hz3'
          go_wp2_with ((with_reducible show wpList _ _ _ _ _ _); first
            | (refine wpList_ldAll rfl 184 (.tmp 2) rfl E1.out rfl (by kernel_rfl) (by kernel_rfl) ?_)
            | (refine wpList_stAll rfl 184 (.tmp 4) _ rfl E2.out rfl rfl (by kernel_rfl) HZ.out (one_map _ _ fun _ => rfl) ?_))
          refine bodyPost_ret (results_ldAll (mid := (addS s r).l.map W32) rfl _ (E2.out.row _) rfl (by kernel_rfl) (by kernel_rfl)) rfl ⟨?_, Below.row E6.out (by omega) _⟩
          rw [HD.out]; rfl
end Go.Proofs.YtgffimanhmpohaaGreat
/- The walks of the reference's SHA-256: words, the block step. -/
namespace Go.Proofs.YtgffimanhmpohaaGreat
open Go Go.RowKit
end Go.Proofs.YtgffimanhmpohaaGreat
/- The walks of the reference's SHA-256: words. -/
namespace Go.Proofs.YtgffimanhmpohaaGreat
open Go Go.RowKit
attribute [local go_sem] or_bytes u32_shr10 u32_shr3 u32_xor u32_and u32_or u32_add u32_add' u32_not u32_next u32_sum3 u32_sum4
end Go.Proofs.YtgffimanhmpohaaGreat
/- The walks of the reference's SHA-256: the block step. -/
namespace Go.Proofs.YtgffimanhmpohaaGreat
open Go Go.RowKit
attribute [local go_sem] or_bytes u32_shr10 u32_shr3 u32_xor u32_and u32_or u32_add u32_add' u32_not u32_not' u32_not2
end Go.Proofs.YtgffimanhmpohaaGreat
/- The walk of the reference's SHA-256 of a list of bytes. -/
namespace Go.Proofs.YtgffimanhmpohaaGreat
open Go Go.RowKit
end Go.Proofs.YtgffimanhmpohaaGreat
/- Contracts in memory made contracts in values: the block step of SHA-256, the document's sum. -/
namespace Go.Proofs.YtgffimanhmpohaaGreat
open Go Go.RowKit
section
variable {P : Program}
theorem VC.ofA {f : FuncId} {args : List AV} {res : AV} (hf : Fok P f)
    (h : ∀ (w : World) (N : Gh) (vs : List Value), Mem N w → vs.length = args.length → (∀ (i : Nat) x v, args[i]? = some x → vs[i]? = some v → RV N x v) →
      Calls P f vs.toArray w fun e w' => ∃ v, e = .returned v ∧ Below w.heap.size w w' ∧ RV N res v) : VC P f args [] res := by
  refine ⟨hf, fun w N vs hI hl hv => (h w N vs hI.mem hl hv).mono ?_⟩
  rintro e w' ⟨v, rfl, hb, hr⟩
  exact ⟨N, v, rfl, hI.keep (fun k hk => hb.block k hk) hb.size hb.os hb.tape hb.output, hr⟩
theorem two {args : List AV} {vs : List Value} {N : Gh} {x y : AV} (hl : vs.length = [x, y].length) (hv : ∀ (i : Nat) a v, [x, y][i]? = some a → vs[i]? = some v → RV N a v) : ∃ u v, vs = [u, v] ∧ RV N x u ∧ RV N y v := by
  match vs, hl with
  | [u, v], _ => exact ⟨u, v, rfl, hv 0 x u rfl rfl, hv 1 y v rfl rfl⟩
theorem one_ {vs : List Value} {N : Gh} {x : AV} (hl : vs.length = [x].length) (hv : ∀ (i : Nat) a v, [x][i]? = some a → vs[i]? = some v → RV N a v) : ∃ u, vs = [u] ∧ RV N x u := by
  match vs, hl with
  | [u], _ => exact ⟨u, rfl, hv 0 x u rfl rfl⟩
/-- The eight words. -/
def s8v (s : S8) : AV := .st [.v (W32 s.a), .v (W32 s.b), .v (W32 s.c), .v (W32 s.d), .v (W32 s.e), .v (W32 s.f), .v (W32 s.g), .v (W32 s.h)]
def s8T : Ty := .cn .sc (.cn .sc (.cn .sc (.cn .sc (.cn .sc (.cn .sc (.cn .sc (.cn .sc .nl)))))))
theorem s8v_inv {g : Gh} {s : S8} {u : Value} (h : RV g (s8v s) u) : u = .agg s.arr := by
  obtain ⟨T, cs, _, hr, rfl⟩ := h.st_inv
  unfold s8v at *
  cases hr with | cn h1 hr => cases h1; cases hr with | cn h1 hr => cases h1; cases hr with | cn h1 hr => cases h1; cases hr with | cn h1 hr => cases h1; cases hr with | cn h1 hr => cases h1; cases hr with | cn h1 hr => cases h1; cases hr with | cn h1 hr => cases h1; cases hr with | cn h1 hr => cases h1; cases hr; rfl
theorem s8v_rc (g : Gh) (s : S8) : RC g s8T (s8v s) s.arr.toList := by
  show RC g s8T (s8v s) ([_] ++ ([_] ++ ([_] ++ ([_] ++ ([_] ++ ([_] ++ ([_] ++ ([_] ++ []))))))))
  exact .cn (.v rfl) (.cn (.v rfl) (.cn (.v rfl) (.cn (.v rfl) (.cn (.v rfl) (.cn (.v rfl) (.cn (.v rfl) (.cn (.v rfl) .nl)))))))
end
theorem step_v (s : S8) (b : List UInt8) (hb : b.length = 64) : VC Tryz.prog 124 [s8v s, .ba b] [] (s8v (step s b)) := by
  refine VC.ofA ⟨_, Tryz.func124, by kernel_rfl, by kernel_rfl⟩ fun w N vs hM hl hv => ?_
  obtain ⟨u, v, rfl, h1, h2⟩ := two (args := []) hl hv
  have e1 := s8v_inv h1; have e2 := h2.ba_inv
  subst e1 e2
  refine (step_any s b hb w).mono ?_
  rintro e w' ⟨rfl, hw⟩
  exact ⟨_, rfl, hw, (show RV1 N (s8v (step s b)) _ from .inl ⟨s8T, _, rfl, s8v_rc N _, rfl⟩).rv⟩
end Go.Proofs.YtgffimanhmpohaaGreat
/- The program's SHA-256, byte by byte. -/
namespace Go.Proofs.YtgffimanhmpohaaGreat
open Go Go.RowKit
theorem ren_s8v (fb fr : Nat → Option Nat) (d : Nat) (s : S8) : ren fb fr (d + 1) (s8v s) = s8v s := by cases d <;> rfl
/-- A state of the program's. -/
def shv (s : S8) (b : List UInt8) (n all : Nat) : AV := .st [.v (.bool true), s8v s, .ba b, .v (.int .i64 (n : Int)), .v (.int .i64 (all : Int))]
theorem ren_shv (fb fr : Nat → Option Nat) (d : Nat) (s : S8) (b : List UInt8) (n all : Nat) : ren fb fr (d + 2) (shv s b n all) = shv s b n all := by cases d <;> rfl
theorem begin_v : VC Tryz.prog 122 [] [] (s8v h0) := by
  refine v_enter Tryz.func122 rfl (by kernel_rfl) (by decide) ?_
  intro N w0 a w hN hR H
  have hX := And.intro @ren_s8v (@ren_shv)
  have hY := And.intro @s8v.eq_1 (And.intro @shv.eq_1 (And.intro @W32.eq_1 (@h0.eq_1)))
  refine mW ?_; clear H; intro a w H
  refine wp_ret ?_; exact mEnd [] [] [.cell 0 184] [_] hN hR H
theorem new_v : VX Tryz.prog 105 [] [] [] [] [(ti188.ty, shv h0 (List.replicate 64 0) 0 0)] [] [] (.ptr 0 []) := by
  refine v_enter Tryz.func105 rfl (by kernel_rfl) (by decide) ?_
  intro N w0 a w hN hR H
  have hX := And.intro @ren_s8v (@ren_shv)
  have hY := And.intro @s8v.eq_1 (And.intro @shv.eq_1 (And.intro @W32.eq_1 (@h0.eq_1)))
  refine mW ?_; clear H; intro a w H
  refine mCall [] [] (begin_v) H ?_; clear H; intro a w H; try refine wpList_nil ?_
  refine mW ?_; clear H; intro a w H
  clear hX; have hX := And.intro @ren_s8v (And.intro @ren_shv (@shv.eq_1))
  refine wp_ret ?_; exact mEnd [0] [] [.tmp 0] [_] hN hR H
theorem none_v (s : S8) (b : List UInt8) (n all : Nat) : VX Tryz.prog 123 [(ti188.ty, shv s b n all)] [] [] [.ptr 0 []] [(ti188.ty, shv s b n all)] [] [] (.v (.bool false)) := by
  refine v_enter Tryz.func123 rfl (by kernel_rfl) (by show 1 ≤ 12; decide) ?_
  intro N w0 a w hN hR H
  have hX := And.intro @ren_s8v (@ren_shv)
  have hY := And.intro @s8v.eq_1 (And.intro @shv.eq_1 (And.intro @W32.eq_1 (@h0.eq_1)))
  refine mW ?_; clear H; intro a w H
  refine wp_ret ?_; exact mEnd [0] [] [.tmp 2] [_] hN hR H

/-- What a write makes of the state: a part of a block at a time. -/
def feed : Nat → S8 → List UInt8 → Nat → List UInt8 → S8 × List UInt8 × Nat
  | 0, s, b, n, _ => (s, b, n)
  | f + 1, s, b, n, l => if l = [] then (s, b, n) else
      let b' := b.take n ++ l.take (64 - n) ++ b.drop (n + (l.take (64 - n)).length)
      if n + (l.take (64 - n)).length = 64 then feed f (step s b') b' 0 (l.drop (l.take (64 - n)).length) else feed f s b' (n + (l.take (64 - n)).length) (l.drop (l.take (64 - n)).length)
set_option maxRecDepth 20000 in
theorem write_v (s : S8) (b : List UInt8) (n all : Nat) (l : List UInt8) (hb : b.length = 64) (hn : n < 64) (hl : l.length ≤ 34359738368) (ha : all ≤ 34359738368) :
    VX Tryz.prog 106 [(ti188.ty, shv s b n all)] [] [] [.ptr 0 [], .bs l none]
      [(ti188.ty, shv (feed l.length s b n l).1 (feed l.length s b n l).2.1 (feed l.length s b n l).2.2 (all + l.length))] [] [] (.v (.int .i64 (l.length : Int))) := by
  refine v_enter Tryz.func106 rfl (by kernel_rfl) (by show 2 ≤ 65; decide) ?_
  intro N w0 a w hN hR H
  have hX := And.intro @ren_s8v (@ren_shv)
  have hY := And.intro @s8v.eq_1 (And.intro @shv.eq_1 (And.intro @W32.eq_1 (@h0.eq_1)))
  refine mW ?_; clear H; intro a w H
  refine mCall [0] [] (none_v s b n all) H ?_; clear H; intro a w H; try refine wpList_nil ?_
  refine mC H (fun hb => ?_) (fun hb => ?_)
  · cases hb
  clear hX; have hX := And.intro @ren_s8v (And.intro @ren_shv (@shv.eq_1))
  refine mW ?_; clear H; intro a w H
  refine v_loop (fun i : S8 × List UInt8 × Nat × List UInt8 => ⟨[(0, none, .ptr 0 []), (1, none, .bs l none), (5, none, .bs i.2.2.2 none)], [(ti188.ty, .st [.v (.bool true), s8v i.1, .ba i.2.1, .v (.int .i64 (i.2.2.1 : Int)), .v (.int .i64 ((all : Int) + (l.length : Int)))])], [], []⟩)
    (fun i => i.2.1.length = 64 ∧ i.2.2.1 < 64 ∧ i.2.2.2.length ≤ l.length ∧ ∃ f, i.2.2.2.length ≤ f ∧ feed f i.1 i.2.1 i.2.2.1 i.2.2.2 = feed l.length s b n l) (fun i => i.2.2.2.length) (s, b, n, l) ⟨by assumption, hn, Nat.le_refl _, l.length, Nat.le_refl _, rfl⟩
    (H.to 1 0 ⟨hN, hR⟩ ⟨rfl, rfl, rfl, trivial⟩ rfl rfl rfl rfl rfl) ?_
  clear H
  rintro ⟨s', b', n', rest⟩ a w ⟨hb', hn', hr', f, hf, hfe⟩ H
  dsimp only at hb' hn' hr' hf hfe
  refine mW ?_; clear H; intro a w H
  refine mC H (fun hb => ?_) (fun hb => ?_)
  · have h0 : 0 < rest.length := by simpa using hb
    refine mW ?_; clear H; intro a w H
    refine mS ?_; refine mD 0 [9] [] H ?_; clear H; intro gS H; refine mT ?_; clear H; intro a w H
    refine v_drawNil H ?_; clear H; intro H
    obtain ⟨k, hk⟩ : ∃ k, k = (rest.take (64 - n')).length := ⟨_, rfl⟩
    rw [← hk] at H
    rw [List.length_take] at hk
    have hk1 : n' + k ≤ 64 ∧ 0 < k ∧ k ≤ rest.length := by omega
    have hk2 : (rest.take (64 - n')).length = k := by rw [List.length_take]; omega
    have hlb : (b'.take n' ++ rest.take (64 - n') ++ b'.drop (n' + k)).length = 64 := by simp only [List.length_append, List.length_take, List.length_drop]; omega
    obtain ⟨f, rfl⟩ : ∃ g, f = g + 1 := ⟨f - 1, by omega⟩
    have hne : rest ≠ [] := fun e => by subst e; simp at h0
    rw [feed, if_neg hne] at hfe
    dsimp only at hfe
    rw [hk2] at hfe
    have hdl : (rest.drop k).length = rest.length - k := List.length_drop
    refine mW ?_; clear H; intro a w H
    refine mC H (fun hb => ?_) (fun hb => ?_)
    · have he : n' + k = 64 := by simp at hb; omega
      rw [if_pos he] at hfe
      refine mW ?_; clear H; intro a w H
      refine mS ?_; refine mD 0 [10, 13, 16] [0, 1] H ?_; clear H; intro gS H; refine mT ?_; clear H; intro a w H
      refine mCallT [] [] (step_v s' (b'.take n' ++ rest.take (64 - n') ++ b'.drop (n' + k)) hlb) H ?_; clear H; intro a w H
      refine mT ?_; clear H; intro a w H
      refine v_drawNil H ?_; clear H; intro H
      refine mW ?_; clear H; intro a w H
      exact ⟨(_, _, 0, rest.drop k), ⟨hlb, by show 0 < 64; decide, by dsimp only; omega, f, by dsimp only; omega, hfe⟩, by dsimp only; omega, H.to 1 0 ⟨hN, hR⟩ ⟨rfl, rfl, rfl, trivial⟩ rfl rfl rfl rfl rfl⟩
    · have he : ¬ n' + k = 64 := by simp at hb; omega
      rw [if_neg he] at hfe
      refine mW ?_; clear H; intro a w H
      exact ⟨(s', _, n' + k, rest.drop k), ⟨hlb, by dsimp only; omega, by dsimp only; omega, f, by dsimp only; omega, hfe⟩, by dsimp only; omega, H.to 1 0 ⟨hN, hR⟩ ⟨rfl, rfl, rfl, trivial⟩ rfl rfl rfl rfl rfl⟩
  · have h0 : rest = [] := by simp at hb; exact hb
    subst h0
    have hfe2 : feed l.length s b n l = (s', b', n') := by
      rw [← hfe]; cases f with
      | zero => rfl
      | succ f => rw [feed, if_pos rfl]
    rw [hfe2]
    refine mW ?_; clear H; intro a w H
    refine wp_ret ?_; exact mEnd [0] [] [.tmp 4] [_] hN hR H
end Go.Proofs.YtgffimanhmpohaaGreat
/- Numbers as bytes. -/
namespace Go.Proofs.YtgffimanhmpohaaGreat
open Go Go.RowKit
def be4n (x : Nat) : List UInt8 := [UInt8.ofNat (x / 16777216), UInt8.ofNat (x / 65536), UInt8.ofNat (x / 256), UInt8.ofNat x]
set_option maxRecDepth 20000 in
theorem put32_v (x : Nat) (hx : x < 4294967296) : VC Tryz.prog 125 [.v (.int .i64 (x : Int))] [(5, 4)] (.tup [.bs (be4n x) (some 0), .v (.int .i64 0)]) := by
  refine v_enter Tryz.func125 rfl (by kernel_rfl) (by show 1 ≤ 22; decide) ?_
  intro N w0 a w hN hR H
  refine mW ?_; clear H; intro a w H
  refine mC H (fun hb => ?_) (fun hb => ?_)
  · simp at hb; omega
  refine mW ?_; clear H; intro a w H
  have e1 := u8n x 16777216; have e2 := u8n x 65536; have e3 := u8n x 256; have e4 := u8m x
  simp only [Int.cast_ofNat_Int] at e1 e2 e3
  rw [e1, e2, e3, e4] at H
  refine wp_ret ?_; exact mEnd [] [0] [.tmp 2, .tmp 3] [_, _] hN hR H

theorem be4n_len (x : Nat) : (be4n x).length = 4 := rfl
/-- The state after a text. -/
structure Good (l : List UInt8) (s : S8) (b : List UInt8) (n : Nat) : Prop where
  bl : b.length = 64
  nn : n = l.length % 64
  ss : s = steps h0 (l.length / 64) l
  bb : b.take n = l.drop (64 * (l.length / 64))
theorem Good.lt {l : List UInt8} {s : S8} {b : List UInt8} {n : Nat} (h : Good l s b n) : n < 64 := by rw [h.nn]; exact Nat.mod_lt _ (by decide)
theorem good_nil : Good [] h0 (List.replicate 64 0) 0 := ⟨by simp, rfl, by simp [steps_zero], rfl⟩
theorem feed_good : ∀ (f : Nat) (m l : List UInt8) (s : S8) (b : List UInt8) (n : Nat), m.length ≤ f → Good l s b n → Good (l ++ m) (feed f s b n m).1 (feed f s b n m).2.1 (feed f s b n m).2.2
  | 0, m, l, s, b, n, hm, h => by
    have : m = [] := List.length_eq_zero_iff.1 (by omega)
    subst this; simpa [feed] using h
  | f + 1, m, l, s, b, n, hm, h => by
    have hlt := h.lt
    by_cases hz : m = []
    · subst hz; rw [feed, if_pos rfl]; simpa using h
    · have hm0 : 0 < m.length := List.length_pos_iff.2 hz
      rw [feed, if_neg hz]
      dsimp only
      obtain ⟨k, hk⟩ : ∃ k, k = (m.take (64 - n)).length := ⟨_, rfl⟩
      rw [← hk]
      rw [List.length_take] at hk
      have hkm : m.take (64 - n) = m.take k := by
        rw [hk]
        rcases Nat.le_total (64 - n) m.length with h1 | h1
        · rw [Nat.min_eq_left h1]
        · rw [Nat.min_eq_right h1, List.take_length, List.take_of_length_le h1]
      rw [hkm]
      have hbl := h.bl
      have hlb : (b.take n ++ m.take k ++ b.drop (n + k)).length = 64 := by simp only [List.length_append, List.length_take, List.length_drop]; omega
      have hdl : (m.drop k).length ≤ f := by rw [List.length_drop]; omega
      have hn := h.nn
      have hll : (l ++ m.take k).length = l.length + k := by rw [List.length_append, List.length_take]; omega
      have hsplit : l ++ m = (l ++ m.take k) ++ m.drop k := by rw [List.append_assoc, List.take_append_drop]
      have htk : (b.take n ++ m.take k ++ b.drop (n + k)).take (n + k) = b.take n ++ m.take k := by
        rw [List.take_append_of_le_length (by simp only [List.length_append, List.length_take]; omega), List.take_of_length_le (by simp only [List.length_append, List.length_take]; omega)]
      have hdr : (l ++ m.take k).drop (64 * (l.length / 64)) = b.take n ++ m.take k := by
        rw [List.drop_append_of_le_length (by omega), h.bb]
      by_cases he : n + k = 64
      · rw [if_pos he, hsplit]
        refine feed_good f (m.drop k) (l ++ m.take k) _ _ 0 hdl ⟨hlb, by rw [hll]; omega, ?_, ?_⟩
        · have hq : (l ++ m.take k).length / 64 = l.length / 64 + 1 := by rw [hll]; omega
          have e1 : (b.take n ++ m.take k).take 64 = b.take n ++ m.take k := List.take_of_length_le (by simp only [List.length_append, List.length_take]; omega)
          rw [hq, steps_next, steps_append _ _ _ _ (by omega), ← h.ss, hdr, e1, he, List.drop_of_length_le (by omega), List.append_nil]
        · have : 64 * ((l ++ m.take k).length / 64) = (l ++ m.take k).length := by rw [hll]; omega
          rw [this, List.drop_length]; rfl
      · rw [if_neg he, hsplit]
        have hnk : n + k < 64 := by omega
        have hq : (l ++ m.take k).length / 64 = l.length / 64 := by rw [hll]; omega
        refine feed_good f (m.drop k) (l ++ m.take k) _ _ (n + k) hdl ⟨hlb, by rw [hll]; omega, ?_, ?_⟩
        · rw [hq, steps_append _ _ _ _ (by omega)]; exact h.ss
        · rw [hq, htk, hdr]
/-- A write, by texts. -/
theorem write_g (l m : List UInt8) (s : S8) (b : List UInt8) (n : Nat) (h : Good l s b n) (hl : m.length ≤ 34359738368) (all : Nat) (ha : all ≤ 34359738368) :
    ∃ s' b' n', Good (l ++ m) s' b' n' ∧ VX Tryz.prog 106 [(ti188.ty, shv s b n all)] [] [] [.ptr 0 [], .bs m none]
      [(ti188.ty, shv s' b' n' (all + m.length))] [] [] (.v (.int .i64 (m.length : Int))) :=
  ⟨_, _, _, feed_good m.length m l s b n (Nat.le_refl _) h, write_v s b n all m h.bl h.lt hl ha⟩
end Go.Proofs.YtgffimanhmpohaaGreat
/- The program's SHA-256 of a text. -/
namespace Go.Proofs.YtgffimanhmpohaaGreat
open Go Go.RowKit
def outK (s : S8) : Nat → List UInt8
  | 0 => List.replicate 32 0
  | k + 1 => (outK s k).take (4 * k) ++ (be4n (s.l.getD k 0).toNat).take (32 - 4 * k) ++ (outK s k).drop (4 * k + ((be4n (s.l.getD k 0).toNat).take (32 - 4 * k)).length)
theorem outK_end (s : S8) : outK s 8 = out s := by
  simp [outK, be4n, out, be4, S8.l, List.replicate]
theorem n32lt (y : BitVec 32) : y.toNat < 4294967296 := y.isLt
theorem be8 (v : Nat) (hv : v < 18446744073709551616) : be v 8 = be4n (v / 4294967296) ++ be4n (v % 4294967296) := by
  simp only [be, be4n, List.cons_append, List.nil_append]
  have h1 : ∀ a b : Nat, a % 256 = b % 256 → UInt8.ofNat a = UInt8.ofNat b := fun a b h => UInt8.toNat_inj.1 (by simpa using h)
  have e7 : UInt8.ofNat (v / 256 ^ 7) = UInt8.ofNat (v / 4294967296 / 16777216) := h1 _ _ (by first | rfl | (simp only [Nat.reducePow]; omega))
  have e6 : UInt8.ofNat (v / 256 ^ 6) = UInt8.ofNat (v / 4294967296 / 65536) := h1 _ _ (by first | rfl | (simp only [Nat.reducePow]; omega))
  have e5 : UInt8.ofNat (v / 256 ^ 5) = UInt8.ofNat (v / 4294967296 / 256) := h1 _ _ (by first | rfl | (simp only [Nat.reducePow]; omega))
  have e4 : UInt8.ofNat (v / 256 ^ 4) = UInt8.ofNat (v / 4294967296) := h1 _ _ (by first | rfl | (simp only [Nat.reducePow]; omega))
  have e3 : UInt8.ofNat (v / 256 ^ 3) = UInt8.ofNat (v % 4294967296 / 16777216) := h1 _ _ (by first | rfl | (simp only [Nat.reducePow]; omega))
  have e2 : UInt8.ofNat (v / 256 ^ 2) = UInt8.ofNat (v % 4294967296 / 65536) := h1 _ _ (by first | rfl | (simp only [Nat.reducePow]; omega))
  have e1 : UInt8.ofNat (v / 256 ^ 1) = UInt8.ofNat (v % 4294967296 / 256) := h1 _ _ (by first | rfl | (simp only [Nat.reducePow]; omega))
  have e0 : UInt8.ofNat (v / 256 ^ 0) = UInt8.ofNat (v % 4294967296) := h1 _ _ (by first | rfl | (simp only [Nat.reducePow]; omega))
  rw [e7, e6, e5, e4, e3, e2, e1, e0]
set_option maxRecDepth 20000 in
theorem sumS_v (l : List UInt8) (s : S8) (b : List UInt8) (n : Nat) (h : Good l s b n) (hl : l.length ≤ 34359738000) :
    VX Tryz.prog 107 [(ti188.ty, shv s b n l.length)] [] [] [.ptr 0 []] [(ti188.ty, shv s b n l.length)] [] [] (.ba (sum l)) := by
  have hbl := h.bl
  refine v_enter Tryz.func107 rfl (by kernel_rfl) (by show 1 ≤ 68; decide) ?_
  intro N w0 a w hN hR H
  have hX := And.intro @ren_s8v (And.intro @ren_shv (@shv.eq_1))
  have hY := And.intro @s8v.eq_1 (And.intro @shv.eq_1 (And.intro @W32.eq_1 (@h0.eq_1)))
  refine mW ?_; clear H; intro a w H
  refine mCall [0] [] (none_v s b n l.length) H ?_; clear H; intro a w H; try refine wpList_nil ?_
  refine mC H (fun hb => ?_) (fun hb => ?_)
  · cases hb
  refine mW ?_; clear H; intro a w H
  obtain ⟨s1, b1, n1, h1, hw1⟩ := write_g l [128] s b n h (by decide) l.length (by omega)
  refine mCall [2] [] (hw1) H ?_; clear H; intro a w H; try refine wpList_nil ?_
  refine mW ?_; clear H; intro a w H
  have e4 : (l.length : Int) * 8 % 18446744073709551616 = ((l.length * 8 : Nat) : Int) := by omega
  rw [e4] at H
  refine v_loop (fun i : S8 × List UInt8 × Nat × Nat => ⟨[(0, none, .ptr 0 []), (2, none, .ptr 1 []), (3, none, .ptr 2 []), (4, none, .v (.int .u64 ((l.length * 8 : Nat) : Int)))], [(ti188.ty, .st [.v (.bool true), s8v s, .ba b, .v (.int .i64 (n : Int)), .v (.int .i64 (l.length : Int))]), (.ba 32, .ba (List.replicate 32 0)), (ti188.ty, .st [.v (.bool true), s8v i.1, .ba i.2.1, .v (.int .i64 (i.2.2.1 : Int)), .v (.int .i64 ((l.length + 1 + i.2.2.2 : Nat) : Int))])], [], []⟩)
    (fun i => Good (l ++ [128] ++ List.replicate i.2.2.2 0) i.1 i.2.1 i.2.2.1 ∧ i.2.2.2 ≤ padN l.length) (fun i => padN l.length - i.2.2.2) (s1, b1, n1, 0) ⟨by simpa using h1, Nat.zero_le _⟩
    (H.to 3 0 ⟨Nat.le_trans hN (by show 1 ≤ 3; decide), hR⟩ ⟨rfl, rfl, rfl, rfl, trivial⟩ rfl rfl rfl rfl rfl) ?_
  clear H
  rintro ⟨s2, b2, n2, z⟩ a w ⟨h2, hz⟩ H
  dsimp only at h2 hz
  have hn2 := h2.nn
  have hlen2 : (l ++ [128] ++ List.replicate z 0).length = l.length + 1 + z := by simp; omega
  rw [hlen2] at hn2
  have hpd : padN l.length < 64 ∧ (l.length + 1 + padN l.length) % 64 = 56 := by unfold padN; omega
  have hbl2 := h2.bl
  refine mW ?_; clear H; intro a w H
  refine mC H (fun hb => ?_) (fun hb => ?_)
  · have hne : n2 ≠ 56 := fun e => by simp [e] at hb
    have hz1 : z + 1 ≤ padN l.length := by
      rcases Nat.lt_or_ge z (padN l.length) with h5 | h5
      · omega
      · have : z = padN l.length := by omega
        subst this; omega
    obtain ⟨s3, b3, n3, h3, hw3⟩ := write_g _ [0] s2 b2 n2 h2 (by decide) (l.length + 1 + z) (by omega)
    refine mW ?_; clear H; intro a w H
    refine mCall [2] [] (hw3) H ?_; clear H; intro a w H; try refine wpList_nil ?_
    refine mW ?_; clear H; intro a w H
    exact ⟨(s3, b3, n3, z + 1), ⟨by rw [List.append_assoc] at h3; simpa [← List.replicate_succ'] using h3, hz1⟩, by dsimp only; omega, H.to 3 0 ⟨Nat.le_trans hN (by show 1 ≤ 3; decide), hR⟩ ⟨rfl, rfl, rfl, rfl, trivial⟩ rfl rfl rfl rfl rfl⟩
  · have he : n2 = 56 := by simp at hb; omega
    have hz1 : z = padN l.length := by omega
    subst hz1
    subst he
    refine mW ?_; clear H; intro a w H
    have e5 : ((l.length * 8 : Nat) : Int) / 4294967296 = ((l.length * 8 / 4294967296 : Nat) : Int) := by omega
    rw [e5] at H
    have hand : bits .and .u64 ((l.length * 8 : Nat) : Int) 4294967295 = ((l.length * 8 % 4294967296 : Nat) : Int) := by
      have h5 := u64_and_nat (l.length * 8) 4294967295 (by omega) (by decide)
      rw [show (4294967295 : Nat) = 2 ^ 32 - 1 from rfl, Nat.and_two_pow_sub_one_eq_mod] at h5
      exact h5
    clear hX; have hX := And.intro @ren_s8v (And.intro @ren_shv (And.intro @shv.eq_1 (@hand)))
    clear hY; have hY := And.intro @s8v.eq_1 (And.intro @shv.eq_1 (And.intro @W32.eq_1 (And.intro @h0.eq_1 (@hand))))
    refine mCall [] [] (put32_v (l.length * 8 / 4294967296) (by omega)) H ?_; clear H; intro a w H; try refine wpList_nil ?_
    refine mW ?_; clear H; intro a w H
    refine mCall [] [] (put32_v (l.length * 8 % 4294967296) (by omega)) H ?_; clear H; intro a w H; try refine wpList_nil ?_
    refine mW ?_; clear H; intro a w H
    obtain ⟨s3, b3, n3, h3, hw3⟩ := write_g _ (be4n (l.length * 8 / 4294967296)) s2 b2 56 h2 (by rw [be4n_len]; decide) (l.length + 1 + padN l.length) (by omega)
    refine mCall [2] [] (hw3) H ?_; clear H; intro a w H; try refine wpList_nil ?_
    refine mW ?_; clear H; intro a w H
    obtain ⟨s4, b4, n4, h4, hw4⟩ := write_g _ (be4n (l.length * 8 % 4294967296)) s3 b3 n3 h3 (by rw [be4n_len]; decide) (l.length + 1 + padN l.length + 4) (by omega)
    clear hX; have hX := And.intro @ren_s8v (And.intro @ren_shv (And.intro @shv.eq_1 (And.intro @hand (@be4n_len))))
    refine mCall [2] [] (hw4) H ?_; clear H; intro a w H; try refine wpList_nil ?_
    refine mW ?_; clear H; intro a w H
    have hpad : l ++ [128] ++ List.replicate (padN l.length) 0 ++ be4n (l.length * 8 / 4294967296) ++ be4n (l.length * 8 % 4294967296) = pad l := by
      rw [pad_def, be8 _ (by omega), List.append_assoc _ (be4n _)]
    rw [hpad] at h4
    have hout : out s4 = sum l := by rw [sum_def, ← h4.ss]
    refine v_loop (fun k : Nat => ⟨[(2, none, .ptr 1 []), (9, none, .ptr 3 []), (50, none, s8v s4), (51, none, .v (.int .i64 (k : Int)))], [(ti188.ty, .st [.v (.bool true), s8v s, .ba b, .v (.int .i64 (n : Int)), .v (.int .i64 (l.length : Int))]), (.ba 32, .ba (List.replicate 32 0)), (ti188.ty, .st [.v (.bool true), s8v s4, .ba b4, .v (.int .i64 (n4 : Int)), .v (.int .i64 ((l.length + 1 + padN l.length + 4 + 4 : Nat) : Int))]), (.ba 32, .ba (outK s4 k))], [], []⟩)
      (fun k => k ≤ 8) (fun k => 8 - k) 0 (by decide) (H.to 4 0 ⟨Nat.le_trans hN (by show 1 ≤ 4; decide), hR⟩ ⟨rfl, rfl, rfl, rfl, trivial⟩ rfl rfl rfl rfl rfl) ?_
    clear H
    intro k a w hk H
    have hN0 := hN
    replace hN : N.bx.length ≤ 100 := Nat.le_trans hN (by show 1 ≤ 100; decide)
    refine mW ?_; clear H; intro a w H
    refine mC H (fun hb => ?_) (fun hb => ?_)
    · have hk8 : k < 8 := by simp at hb; omega
      have hs8 : k = 0 ∨ k = 1 ∨ k = 2 ∨ k = 3 ∨ k = 4 ∨ k = 5 ∨ k = 6 ∨ k = 7 := by omega
      have hol : ∀ k, k ≤ 8 → (outK s4 k).length = 32 := fun k hk => by
        induction k with
        | zero => simp [outK]
        | succ k ih => have := ih (by omega); simp only [outK, List.length_append, List.length_take, List.length_drop, be4n_len]; omega
      have q0 := n32_lo s4.a; have q1 := n32_lo s4.b; have q2 := n32_lo s4.c; have q3 := n32_lo s4.d; have q4 := n32_lo s4.e; have q5 := n32_lo s4.f; have q6 := n32_lo s4.g; have q7 := n32_lo s4.h
      have r0 := n32_hi s4.a; have r1 := n32_hi s4.b; have r2 := n32_hi s4.c; have r3 := n32_hi s4.d; have r4 := n32_hi s4.e; have r5 := n32_hi s4.f; have r6 := n32_hi s4.g; have r7 := n32_hi s4.h
      have o0 := hol 0 (by decide); have o1 := hol 1 (by decide); have o2 := hol 2 (by decide); have o3 := hol 3 (by decide); have o4 := hol 4 (by decide); have o5 := hol 5 (by decide); have o6 := hol 6 (by decide); have o7 := hol 7 (by decide)
      rcases hs8 with rfl | rfl | rfl | rfl | rfl | rfl | rfl | rfl
      all_goals
        refine mW ?_; clear H; intro a w H
        refine mCall [] [] (put32_v _ (n32lt _)) H ?_; clear H; intro a w H; try refine wpList_nil ?_
        refine mW ?_; clear H; intro a w H
        refine ⟨_ + 1, by decide, ?_, H.to 4 0 ⟨Nat.le_trans hN0 (by show 1 ≤ 4; decide), hR⟩ ⟨rfl, rfl, rfl, rfl, trivial⟩ rfl rfl rfl rfl rfl⟩
        decide
    · have he8 : k = 8 := by simp at hb; omega
      subst he8
      rw [outK_end, hout] at H
      have hsl := sum_length l
      refine mW ?_; clear H; intro a w H
      replace hN := hN0
      refine wp_ret ?_; exact mEnd [0] [] [.cell 2 33] [_] hN hR H
end Go.Proofs.YtgffimanhmpohaaGreat
/- Digests: SHA-256 of a text; of a byte and parts. -/
namespace Go.Proofs.YtgffimanhmpohaaGreat
open Go Go.RowKit
set_option maxRecDepth 20000 in
theorem sum_v (l : List UInt8) (hl : l.length ≤ 34359738000) : VC Tryz.prog 83 [.bs l none] [] (.ba (sum l)) := by
  have hsl := sum_length l
  refine v_enter Tryz.func83 rfl (by kernel_rfl) (by show 1 ≤ 10; decide) ?_
  intro N w0 a w hN hR H
  have hX := And.intro @ren_s8v (@ren_shv)
  have hY := And.intro @s8v.eq_1 (And.intro @shv.eq_1 (And.intro @W32.eq_1 (@h0.eq_1)))
  refine mW ?_; clear H; intro a w H
  refine mCall [] [] (new_v) H ?_; clear H; intro a w H; try refine wpList_nil ?_
  refine mW ?_; clear H; intro a w H
  obtain ⟨s1, b1, n1, h1, hw1⟩ := write_g [] l h0 (List.replicate 64 0) 0 good_nil (by omega) 0 (by decide)
  refine mCall [1] [] (hw1) H ?_; clear H; intro a w H; try refine wpList_nil ?_
  refine mW ?_; clear H; intro a w H
  rw [List.nil_append] at h1
  refine mCall [1] [] (sumS_v l s1 b1 n1 h1 hl) H ?_; clear H; intro a w H; try refine wpList_nil ?_
  refine mW ?_; clear H; intro a w H
  refine wp_ret ?_; exact mEnd [] [] [.cell 2 33] [_] hN hR H
end Go.Proofs.YtgffimanhmpohaaGreat
/- Nodes of the program: checked, written, read; digests. -/
namespace Go.Proofs.YtgffimanhmpohaaGreat
open Go Go.RowKit
structure Nd where
  k : UInt8
  key : List UInt8
  v : List UInt8
  l : List UInt8
  r : List UInt8
  deriving DecidableEq
def z32 : List UInt8 := List.replicate 32 0
theorem hz : List.replicate 32 (0 : UInt8) = z32 := rfl
structure Nd.wf (n : Nd) : Prop where
  key : n.key.length = 32
  v : n.v.length = 32
  l : n.l.length = 32
  r : n.r.length = 32
def Nd.av (n : Nd) : AV := .st [.v (B8 n.k), .ba n.key, .ba n.v, .ba n.l, .ba n.r]
def Nd.zero : Nd := ⟨0, z32, z32, z32, z32⟩
/-- What a node is but for what its kind does not bear. -/
def Nd.bare (n : Nd) : Nd := if n.k = 1 then ⟨1, n.key, n.v, z32, z32⟩ else if n.k = 2 then ⟨2, z32, z32, n.l, n.r⟩ else .zero
def Nd.ok (n : Nd) : Prop := n = n.bare
instance (n : Nd) : Decidable n.ok := inferInstanceAs (Decidable (n = n.bare))
def Nd.text (n : Nd) : List UInt8 := if n.k = 1 then 1 :: (n.key ++ n.v) else if n.k = 2 then 2 :: (n.l ++ n.r) else [0]
abbrev errv (n : Int) : AV := .v (.int .i64 n)
theorem same_v (l m : List UInt8) : VC Tryz.prog 17 [.bs l none, .bs m none] [] (.v (.bool (l == m))) := by
  refine v_enter Tryz.func17 rfl (by kernel_rfl) (by show 2 ≤ 10; decide) ?_
  intro N w0 a w hN hR H
  have hX := @strOf_list
  refine mW ?_; clear H; intro a w H
  refine wp_ret ?_; exact mEnd [] [] [.tmp 4] [_] hN hR H
theorem check_v (n : Nd) (hw : n.wf) : VC Tryz.prog 111 [n.av] [] (errv (if n.ok then 0 else 2)) := by
  obtain ⟨k, key, v, l, r⟩ := n
  obtain ⟨h1, h2, h3, h4⟩ := hw
  dsimp only at h1 h2 h3 h4
  refine mE Tryz.func111 ?_; intro N w0 a w hN hR H
  simp only [Nd.av] at H
  have hk0 : ((k.toNat : Int) = 0) ↔ k = 0 := ⟨fun h => UInt8.toNat_inj.1 (by simpa using h), fun h => by subst h; rfl⟩
  have hk1 : ((k.toNat : Int) = 1) ↔ k = 1 := ⟨fun h => UInt8.toNat_inj.1 (by simp; omega), fun h => by subst h; rfl⟩
  have hk2 : ((k.toNat : Int) = 2) ↔ k = 2 := ⟨fun h => UInt8.toNat_inj.1 (by simp; omega), fun h => by subst h; rfl⟩
  refine mW ?_; clear H; intro a w H
  refine mC H (fun hb => ?_) (fun hb => ?_)
  · refine mW ?_; clear H; intro a w H
    refine mC H (fun hb => ?_) (fun hb => ?_)
    · have hok : ¬ Nd.ok ⟨k, key, v, l, r⟩ := by clear H; simp only [Bool.not_eq_true', Bool.not_eq_false', Bool.and_eq_true, Bool.and_eq_false_imp, decide_eq_true_eq, decide_eq_false_iff_not] at hb; simp only [hz] at hb; simp_all [Nd.ok, Nd.bare, Nd.zero]
      rw [if_neg hok]
      refine mW ?_; clear H; intro a w H
      refine wp_ret ?_; exact mEnd [] [] [.tmp 2] [_] hN hR H
    · have hok : Nd.ok ⟨k, key, v, l, r⟩ := by clear H; simp only [Bool.not_eq_true', Bool.not_eq_false', Bool.and_eq_true, Bool.and_eq_false_imp, decide_eq_true_eq, decide_eq_false_iff_not] at hb; simp only [hz] at hb; simp_all [Nd.ok, Nd.bare, Nd.zero]
      rw [if_pos hok]
      refine mW ?_; clear H; intro a w H
      refine wp_ret ?_; exact mEnd [] [] [.tmp 2] [_] hN hR H
  · refine mW ?_; clear H; intro a w H
    refine mC H (fun hb => ?_) (fun hb => ?_)
    · refine mW ?_; clear H; intro a w H
      refine mC H (fun hb => ?_) (fun hb => ?_)
      · have hok : ¬ Nd.ok ⟨k, key, v, l, r⟩ := by clear H; simp only [Bool.not_eq_true', Bool.not_eq_false', Bool.and_eq_true, Bool.and_eq_false_imp, decide_eq_true_eq, decide_eq_false_iff_not] at hb; simp only [hz] at hb; simp_all [Nd.ok, Nd.bare, Nd.zero]
        rw [if_neg hok]
        refine mW ?_; clear H; intro a w H
        refine wp_ret ?_; exact mEnd [] [] [.tmp 2] [_] hN hR H
      · have hok : Nd.ok ⟨k, key, v, l, r⟩ := by clear H; simp only [Bool.not_eq_true', Bool.not_eq_false', Bool.and_eq_true, Bool.and_eq_false_imp, decide_eq_true_eq, decide_eq_false_iff_not] at hb; simp only [hz] at hb; simp_all [Nd.ok, Nd.bare, Nd.zero]
        rw [if_pos hok]
        refine mW ?_; clear H; intro a w H
        refine wp_ret ?_; exact mEnd [] [] [.tmp 2] [_] hN hR H
    · refine mW ?_; clear H; intro a w H
      refine mC H (fun hb => ?_) (fun hb => ?_)
      · refine mW ?_; clear H; intro a w H
        refine mC H (fun hb => ?_) (fun hb => ?_)
        · have hok : ¬ Nd.ok ⟨k, key, v, l, r⟩ := by clear H; simp only [Bool.not_eq_true', Bool.not_eq_false', Bool.and_eq_true, Bool.and_eq_false_imp, decide_eq_true_eq, decide_eq_false_iff_not] at hb; simp only [hz] at hb; simp_all [Nd.ok, Nd.bare, Nd.zero]
          rw [if_neg hok]
          refine mW ?_; clear H; intro a w H
          refine wp_ret ?_; exact mEnd [] [] [.tmp 2] [_] hN hR H
        · have hok : Nd.ok ⟨k, key, v, l, r⟩ := by clear H; simp only [Bool.not_eq_true', Bool.not_eq_false', Bool.and_eq_true, Bool.and_eq_false_imp, decide_eq_true_eq, decide_eq_false_iff_not] at hb; simp only [hz] at hb; simp_all [Nd.ok, Nd.bare, Nd.zero]
          rw [if_pos hok]
          refine mW ?_; clear H; intro a w H
          refine wp_ret ?_; exact mEnd [] [] [.tmp 2] [_] hN hR H
      · refine mW ?_; clear H; intro a w H
        refine mC H (fun hb => ?_) (fun hb => ?_)
        · have hok : ¬ Nd.ok ⟨k, key, v, l, r⟩ := by clear H; simp only [Bool.not_eq_true', Bool.not_eq_false', Bool.and_eq_true, Bool.and_eq_false_imp, decide_eq_true_eq, decide_eq_false_iff_not] at hb; simp only [hz] at hb; simp_all [Nd.ok, Nd.bare, Nd.zero]
          rw [if_neg hok]
          refine mW ?_; clear H; intro a w H
          refine wp_ret ?_; exact mEnd [] [] [.tmp 2] [_] hN hR H
        · have hok : Nd.ok ⟨k, key, v, l, r⟩ := by clear H; simp only [Bool.not_eq_true', Bool.not_eq_false', Bool.and_eq_true, Bool.and_eq_false_imp, decide_eq_true_eq, decide_eq_false_iff_not] at hb; simp only [hz] at hb; simp_all [Nd.ok, Nd.bare, Nd.zero]
          rw [if_pos hok]
          refine mW ?_; clear H; intro a w H
          refine wp_ret ?_; exact mEnd [] [] [.tmp 2] [_] hN hR H
theorem encode_ok (n : Nd) (hw : n.wf) (h : n.ok) : VC Tryz.prog 82 [n.av] [(5, n.text.length)] (.tup [.bs n.text (some 0), errv 0]) := by
  have hck := check_v n hw
  rw [if_pos h] at hck
  obtain ⟨k, key, v, l, r⟩ := n
  obtain ⟨h1, h2, h3, h4⟩ := hw
  dsimp only at h1 h2 h3 h4
  refine mE Tryz.func82 ?_; intro N w0 a w hN hR H
  have hk1 : ((k.toNat : Int) = 1) ↔ k = 1 := ⟨fun h => UInt8.toNat_inj.1 (by simp; omega), fun h => by subst h; rfl⟩
  have hk2 : ((k.toNat : Int) = 2) ↔ k = 2 := ⟨fun h => UInt8.toNat_inj.1 (by simp; omega), fun h => by subst h; rfl⟩
  simp only [Nd.av] at H hck
  refine mW ?_; clear H; intro a w H
  refine mCall [] [] (hck) H ?_; clear H; intro a w H; try refine wpList_nil ?_
  refine mW ?_; clear H; intro a w H
  refine mC H (fun hb => ?_) (fun hb => ?_)
  · simp at hb
  · refine mW ?_; clear H; intro a w H
    refine mC H (fun hb => ?_) (fun hb => ?_)
    · have hk : k = 1 := hk1.1 (by simpa using hb)
      subst hk
      refine mW ?_; clear H; intro a w H
      refine mCall [] [] (leafText_v key v h1 h2) H ?_; clear H; intro a w H; try refine wpList_nil ?_
      refine mW ?_; clear H; intro a w H
      have hX := @Nd.text.eq_1
      refine wp_ret ?_; exact mEnd [] [0] [.tmp 2, .tmp 3] [_, _] hN hR H
    · have hX := @Nd.text.eq_1
      refine mW ?_; clear H; intro a w H
      refine mC H (fun hb => ?_) (fun hb => ?_)
      · have hk : k = 2 := hk2.1 (by simpa using hb)
        subst hk
        refine mW ?_; clear H; intro a w H
        refine mCall [] [] (innerText_v l r h3 h4) H ?_; clear H; intro a w H; try refine wpList_nil ?_
        refine mW ?_; clear H; intro a w H
        refine wp_ret ?_; exact mEnd [] [0] [.tmp 2, .tmp 3] [_, _] hN hR H
      · have hk : k = 0 := by
          simp only [Nd.ok, Nd.bare, Nd.zero] at h
          simp_all
        subst hk
        refine mW ?_; clear H; intro a w H
        refine mCall [] [] (emptyText_v) H ?_; clear H; intro a w H; try refine wpList_nil ?_
        refine mW ?_; clear H; intro a w H
        refine wp_ret ?_; exact mEnd [] [0] [.tmp 2, .tmp 3] [_, _] hN hR H
theorem digest_ok (n : Nd) (hw : n.wf) (h : n.ok) : VC Tryz.prog 48 [n.av] [] (.tup [.ba (sum n.text), errv 0]) := by
  have hck := encode_ok n hw h
  obtain ⟨h1, h2, h3, h4⟩ := id hw
  have hsl := sum_length n.text
  refine mE Tryz.func48 ?_; intro N w0 a w hN hR H
  simp only [Nd.av] at H hck
  refine mW ?_; clear H; intro a w H
  refine mCall [] [] (hck) H ?_; clear H; intro a w H; try refine wpList_nil ?_
  refine mW ?_; clear H; intro a w H
  refine mC H (fun hb => ?_) (fun hb => ?_)
  · simp at hb
  · refine mW ?_; clear H; intro a w H
    have hl : n.text.length ≤ 34359738000 := by
      unfold Nd.text
      obtain ⟨k, key, v, l, r⟩ := n
      obtain ⟨h1, h2, h3, h4⟩ := hw
      dsimp only at h1 h2 h3 h4 ⊢
      split
      · simp; omega
      · split
        · simp; omega
        · simp
    refine mCall [] [] (sum_v n.text hl) H ?_; clear H; intro a w H; try refine wpList_nil ?_
    refine mW ?_; clear H; intro a w H
    refine wp_ret ?_; exact mEnd [] [] [.cell 2 33, .tmp 3] [_, _] hN hR H
end Go.Proofs.YtgffimanhmpohaaGreat
/- The slab of a store's nodes: Get, Set, Take, New. -/
namespace Go.Proofs.YtgffimanhmpohaaGreat
open Go Go.RowKit
set_option maxRecDepth 20000 in
theorem slbGet_v (s : Slb) (hs : s.wf) (h : Int) :
    VX Tryz.prog 75 s.bx [] [] [.ptr 0 [], .v (.int .i64 h)] s.bx [] [] (.tup [(s.get_ h).av, errv (if s.ok_ h then 0 else 7)]) := by
  have hn := slbNone_v s.γ s.δ s.sl.length s.m s.room s.used (s.sl.map slA) (s.fs.map inA) hs.room.1
  have hml : (s.sl.map slA).length = s.sl.length := List.length_map ..
  have hz2 : (List.replicate 32 (0 : UInt8)).length = 32 := List.length_replicate
  unfold Slb.get_ Slb.ok_
  cases hat : s.at_ h with
  | some p =>
    obtain ⟨x, c⟩ := p
    obtain ⟨i, rfl, hi, hx⟩ := Slb.at_some hat
    obtain ⟨c1, _, x1, x2, x3⟩ := Slb.at_pos hs hat
    have hat := slbAt_ok s.γ s.δ s.m s.room s.used s.sl (s.fs.map inA) hs.room.1 i x c hx c1 hs.len
    have hg := sl_get s.sl i _ hx
    simp only [slA, SN.av] at hg
    simp only [Slb.bx, SN.av, Option.isSome_some, if_true]
    generalize s.sl.map slA = es at *
    generalize s.fs.map inA = fs at *
    refine mE Tryz.func75 ?_; intro N w0 a w hN hR H
    refine mW ?_; clear H; intro a w H
    refine mCall [0, 1, 2] [] (hn) H ?_; clear H; intro a w H; try refine wpList_nil ?_
    refine mW ?_; clear H; intro a w H
    refine mC H (fun hb => ?_) (fun hb => ?_)
    · exact absurd hb (by decide)
    · clear hb
      refine mW ?_; clear H; intro a w H
      refine mCall [0, 1, 2] [] (hat) H ?_; clear H; intro a w H; try refine wpList_nil ?_
      refine mW ?_; clear H; intro a w H
      refine mC H (fun hb => ?_) (fun hb => ?_)
      · exact absurd hb (by decide)
      · clear hb
        refine mS ?_
        have hX := And.intro @hml (And.intro @hg (And.intro @x1 (And.intro @x2 (And.intro @x3 (@hz2)))))
        (try refine wp_region_lit ?_); refine mN 4 hN H ?_; clear H; intro a w H
        refine mW ?_; clear H; intro a w H
        refine wp_ret ?_; exact mEnd [0, 1, 2] [] [.cell 4 81, .tmp 5] [_, _] hN hR H
  | none =>
    have hat := slbAt_no s.γ s.δ s.m s.room s.used s.sl (s.fs.map inA) hs.room.1 h hs.len (Slb.at_none hat)
    simp only [Slb.bx, SN.av, SN.zero, Option.isSome_none, Bool.false_eq_true, if_false]
    generalize s.sl.map slA = es at *
    generalize s.fs.map inA = fs at *
    refine mE Tryz.func75 ?_; intro N w0 a w hN hR H
    have hX := And.intro @hml (@hz2)
    refine mW ?_; clear H; intro a w H
    refine mCall [0, 1, 2] [] (hn) H ?_; clear H; intro a w H; try refine wpList_nil ?_
    refine mW ?_; clear H; intro a w H
    refine mC H (fun hb => ?_) (fun hb => ?_)
    · exact absurd hb (by decide)
    · clear hb
      refine mW ?_; clear H; intro a w H
      refine mCall [0, 1, 2] [] (hat) H ?_; clear H; intro a w H; try refine wpList_nil ?_
      refine mW ?_; clear H; intro a w H
      refine mC H (fun hb => ?_) (fun hb => ?_)
      · refine mW ?_; clear H; intro a w H
        refine wp_ret ?_
        exact v_end [0, 1, 2] [] tab_ok ⟨hN, hR⟩ (rs := [.cell 4 81, .tmp 5]) (ress := [_, _]) rfl H (by rfl) (by rfl) cbX cwX (by exact ⟨⟨⟨rfl, trivial⟩, rfl, rfl, rfl, rfl, rfl, rfl, rfl, rfl, rfl, trivial⟩, sub_refl _ _, trivial⟩) rfl
      · exact absurd hb (by decide)
theorem Slb.set_some {s : Slb} {h : Int} {x : SN} {c : Nat} {i : Nat} (hat : s.at_ h = some (x, c)) (hi : h = (i : Int) + 1) (n : SN) : s.set_ h n = { s with sl := s.sl.set i (some (n, c)) } := by
  unfold Slb.set_; rw [hat]; subst hi
  dsimp only
  rw [show ((i : Int) + 1 - 1).toNat = i by omega]
set_option maxRecDepth 20000 in
theorem slbSet_v (s : Slb) (hs : s.wf) (h : Int) (x : SN) (c : Nat) (hat0 : s.at_ h = some (x, c)) (n : SN) (hn0 : n.wf) :
    VX Tryz.prog 86 s.bx [] [] [.ptr 0 [], .v (.int .i64 h), n.av] (s.set_ h n).bx [] [] (errv 0) := by
  have hn := slbNone_v s.γ s.δ s.sl.length s.m s.room s.used (s.sl.map slA) (s.fs.map inA) hs.room.1
  have hml : (s.sl.map slA).length = s.sl.length := List.length_map ..
  obtain ⟨i, hi0, hi, hx⟩ := Slb.at_some hat0
  rw [Slb.set_some hat0 hi0 n]
  subst hi0
  obtain ⟨c1, _, x1, x2, x3⟩ := Slb.at_pos hs hat0
  obtain ⟨n1, n2, n3⟩ := hn0
  have hat := slbAt_ok s.γ s.δ s.m s.room s.used s.sl (s.fs.map inA) hs.room.1 i x c hx c1 hs.len
  have hg := sl_get s.sl i _ hx
  have hst : (s.sl.set i (some (n, c))).map slA = (s.sl.map slA).set i (.st [n.av, .v (.int .i64 (c : Int))]) := by rw [List.map_set]; rfl
  simp only [slA, SN.av] at hg
  simp only [Slb.bx, hst, List.length_set]
  simp only [SN.av]
  generalize s.sl.map slA = es at *
  generalize s.fs.map inA = fs at *
  refine mE Tryz.func86 ?_; intro N w0 a w hN hR H
  refine mW ?_; clear H; intro a w H
  refine mCall [0, 1, 2] [] (hn) H ?_; clear H; intro a w H; try refine wpList_nil ?_
  refine mW ?_; clear H; intro a w H
  refine mC H (fun hb => ?_) (fun hb => ?_)
  · exact absurd hb (by decide)
  · clear hb
    refine mW ?_; clear H; intro a w H
    refine mCall [0, 1, 2] [] (hat) H ?_; clear H; intro a w H; try refine wpList_nil ?_
    refine mW ?_; clear H; intro a w H
    refine mC H (fun hb => ?_) (fun hb => ?_)
    · exact absurd hb (by decide)
    · clear hb
      have hX := And.intro @hml (And.intro @hg (And.intro @x1 (And.intro @x2 (And.intro @x3 (And.intro @n1 (And.intro @n2 (@n3)))))))
      refine mW ?_; clear H; intro a w H
      refine wp_ret ?_; exact mEnd [0, 1, 2] [] [.tmp 6] [_] hN hR H
set_option maxRecDepth 20000 in
set_option maxHeartbeats 4000000 in
/-- A new slot, where none is free. -/
theorem slbPush_v (s : Slb) (hs : s.wf) (hm : s.m = 0) (hu : s.used < s.room) (n : SN) (hn0 : n.wf) (hl : s.sl.length < 65536) :
    VX Tryz.prog 68 s.bx [] [] [.ptr 0 [], n.av] (s.push n).bx [] [] (.tup [.v (.int .i64 ((s.sl.length : Int) + 1)), errv 0]) := by
  have hn := slbNone_v s.γ s.δ s.sl.length s.m s.room s.used (s.sl.map slA) (s.fs.map inA) hs.room.1
  have hml : (s.sl.map slA).length = s.sl.length := List.length_map ..
  have hr := hs.room.2
  obtain ⟨n1, n2, n3⟩ := hn0
  have hst : (s.sl ++ [some (n, 1)]).map slA = s.sl.map slA ++ [.st [n.av, .v (.int .i64 1)]] := by rw [List.map_append]; rfl
  have htk : (s.sl.map slA).take s.sl.length = s.sl.map slA := List.take_of_length_le (by omega)
  have d1 : decide ((s.used : Int) = (s.room : Int)) = false := decide_eq_false (by omega)
  unfold Slb.push
  simp only [Slb.bx, hst, List.length_append, List.length_singleton]
  rw [hm] at hn ⊢
  simp only [SN.av]
  generalize s.sl.map slA = es at *
  generalize s.fs.map inA = fs at *
  refine mE Tryz.func68 ?_; intro N w0 a w hN hR H
  refine mW ?_; clear H; intro a w H
  replace H := v_ref H 3 3 (Nat.le_trans hN (Nat.le_of_ble_eq_true rfl)) rfl rfl rfl
  simp only [nilT, strip, List.map_cons, List.map_nil, reduceIte, Nat.reduceEqDiff] at H
  refine mCall [0, 1, 2] [] (hn) H ?_; clear H; intro a w H; try refine wpList_nil ?_
  have hX := And.intro @hml (And.intro @n1 (And.intro @n2 (And.intro @n3 (And.intro @d1 (@htk)))))
  refine mW ?_; clear H; intro a w H
  refine mC H (fun hb => ?_) (fun hb => ?_)
  · exact absurd hb (by decide)
  · clear hb
    refine mS ?_
    replace H := mK [0, 3, 4, 5] 4 0 hN hR H
    refine mS ?_; refine mD 0 [] [] H ?_; clear H; intro gS H
    refine mT ?_; clear H; intro a w H
    refine v_drawNil H ?_; clear H; intro H
    refine mC H (fun hb => ?_) (fun hb => ?_)
    · exact absurd hb (by decide)
    · clear hb
      refine mS ?_
      replace H := mK [0, 3, 4, 5] 4 0 hN hR H
      refine mW ?_; clear H; intro a w H
      refine mC H (fun hb => ?_) (fun hb => ?_)
      · exact absurd hb (by decide)
      · clear hb
        refine mS ?_
        replace H := mK [0, 3, 4, 5, 6] 4 0 hN hR H
        repeat (first | refine wp_seq ?_ | refine wp_block ?_)
        refine v_drawZ 0 [0, 1, 2, 3, 5, 6, 4, 7, 8, 9, 10, 11] [4, 7, 8, 11] [0, 1, 2, 3, 5, 6] [(4, 7)] (by kernel_rfl) (by kernel_rfl) (by kernel_rfl) (by kernel_rfl) (by kernel_rfl) H (by rfl) ?_; clear H; intro gS H; try replace H := ntf H
        repeat' ((first | refine wpZ_q1 rfl rfl ?_ | refine wpZ_l1 rfl rfl rfl ?_ | refine wpZ_l2 rfl rfl rfl rfl rfl ?_ ?_ | refine wpZ_l3 rfl rfl rfl rfl rfl rfl rfl ?_ ?_ ?_ | refine wpZ_l4 rfl rfl rfl rfl rfl rfl rfl rfl rfl ?_ ?_ ?_ ?_) <;> ((first | (refine v_someT 1 tab_ok hN H rfl ctX ?_; clear H; intro a w H; replace H := ntf H; simp only [List.drop_succ_cons, List.drop_zero, List.drop_nil])); refine wpT_nil ?_; try dsimp only))
        all_goals (refine wpZ_nil ?_; replace H := RelT.toRel H)
        all_goals
          refine mW ?_; clear H; intro a w H
          rw [show ((s.sl.length + 1 : Nat) : Int) = (s.sl.length : Int) + 1 by omega, show (s.used : Int) + 1 = ((s.used + 1 : Nat) : Int) by omega] at H
          refine wp_ret ?_; exact mEnd [0, 1, 2] [] [.tmp 4, .tmp 5] [_, _] hN hR H
/-- A slab without slots. -/
def Slb.new (room : Nat) : Slb := ⟨0, 0, [], [], 0, room, 0⟩
theorem slbNew_v (room : Nat) (h1 : 0 < room) (h2 : room ≤ 65536) :
    VX Tryz.prog 33 [] [] [] [.v (.int .i64 (room : Int))] (Slb.new room).bx [] [] (.tup [.ptr 0 [], errv 0]) := by
  have d1 : decide ((room : Int) < 1) = false := decide_eq_false (by omega)
  have d2 : decide ((65536 : Int) < (room : Int)) = false := decide_eq_false (by omega)
  unfold Slb.new
  simp only [Slb.bx, List.map_nil, List.length_nil]
  refine mE Tryz.func33 ?_; intro N w0 a w hN hR H
  have hX := And.intro @d1 (@d2)
  refine mW ?_; clear H; intro a w H
  refine mC H (fun hb => ?_) (fun hb => ?_)
  · exact absurd hb (by decide)
  · clear hb
    refine mW ?_; clear H; intro a w H
    replace H := v_nilVB tab_ok H 0 [0] 148 (j := ti148) rfl (by decide) rfl rfl rfl
    simp only [List.set_cons_succ, List.set_cons_zero, List.length_cons, List.length_nil, Nat.reduceAdd, List.cons_append, List.nil_append, AV.put, List.getElem?_cons_succ, List.getElem?_cons_zero] at H
    replace H := v_nilVB tab_ok H 0 [1] 3 (j := ti3) rfl (by decide) rfl rfl rfl
    simp only [List.set_cons_succ, List.set_cons_zero, List.length_cons, List.length_nil, Nat.reduceAdd, List.cons_append, List.nil_append, AV.put, List.getElem?_cons_succ, List.getElem?_cons_zero] at H
    refine wp_ret ?_; exact mEnd [0, 1, 2] [] [.tmp 2, .tmp 3] [_, _] hN hR H
end Go.Proofs.YtgffimanhmpohaaGreat
/- Digests of a byte and parts: the program's. -/
namespace Go.Proofs.YtgffimanhmpohaaGreat
open Go Go.RowKit
theorem of_v (t : UInt8) (ls : List (List UInt8)) (hb : ls.flatten.length ≤ 34359737000) (hl : ls.length ≤ 34359737000) : VC Tryz.prog 74 [.v (B8 t), .sl .sc (bss ls) none] [] (.ba (sum (t :: ls.flatten))) := by
  have hbl := bss_len ls
  have ht := t.toNat_lt
  refine mE Tryz.func74 ?_; intro N w0 a w hN hR H
  have hX := And.intro @ren_s8v (@ren_shv)
  have hY := And.intro @s8v.eq_1 (And.intro @shv.eq_1 (And.intro @W32.eq_1 (@h0.eq_1)))
  refine mW ?_; clear H; intro a w H
  refine mCall [] [] (new_v) H ?_; clear H; intro a w H; try refine wpList_nil ?_
  refine mW ?_; clear H; intro a w H
  obtain ⟨s1, b1, n1, h1, hw1⟩ := write_g [] [t] h0 (List.replicate 64 0) 0 good_nil (by simp) 0 (by decide)
  refine mCall [1] [] (hw1) H ?_; clear H; intro a w H; try refine wpList_nil ?_
  refine mW ?_; clear H; intro a w H
  refine v_loop (fun i : S8 × List UInt8 × Nat × Nat => ⟨[(4, none, .ptr 0 []), (5, none, .ptr 1 []), (15, none, .v (.int .i64 (i.2.2.2 : Int))), (14, none, .v (.int .i64 (ls.length : Int))), (13, none, .sl .sc (bss ls) none)], [(.ba 32, .ba (List.replicate 32 0)), (ti188.ty, shv i.1 i.2.1 i.2.2.1 (1 + (ls.take i.2.2.2).flatten.length))], [], []⟩)
    (fun i => Good (t :: (ls.take i.2.2.2).flatten) i.1 i.2.1 i.2.2.1 ∧ i.2.2.2 ≤ ls.length) (fun i => ls.length - i.2.2.2) (s1, b1, n1, 0) ⟨by simpa using h1, Nat.zero_le _⟩
    (H.to 2 0 ⟨Nat.le_trans hN (by decide), hR⟩ ⟨rfl, rfl, rfl, by rw [hbl]; rfl, rfl, trivial⟩ rfl rfl rfl rfl rfl) ?_
  clear H
  rintro ⟨s2, b2, n2, k⟩ a w ⟨h2, hk⟩ H
  dsimp only at h2 hk H
  refine mW ?_; clear H; intro a w H
  refine mC H (fun hb => ?_) (fun hb => ?_)
  · have hlt : k < ls.length := by simpa using hb
    have hf := flat_take_le ls (k + 1)
    rw [flat_take ls k hlt, List.length_append] at hf
    refine wp_skip ?_
    refine wp_seq ?_
    refine wp_block ?_
    refine wp_seq ?_
    (try refine wp_region_lit ?_); refine mN 2 hN H ?_; clear H; intro a w H
    rw [bss_get ls k hlt] at H
    refine mW ?_; clear H; intro a w H
    obtain ⟨s3, b3, n3, h3, hw3⟩ := write_g _ ls[k] s2 b2 n2 h2 (by omega) (1 + (ls.take k).flatten.length) (by omega)
    refine mCall [1] [] (hw3) H ?_; clear H; intro a w H; try refine wpList_nil ?_
    refine mW ?_; clear H; intro a w H
    refine ⟨(s3, b3, n3, k + 1), ⟨by rw [flat_take ls k hlt]; simpa using h3, hlt⟩, by dsimp only; omega, H.to 2 0 ⟨Nat.le_trans hN (by decide), hR⟩ ⟨rfl, rfl, rfl, rfl, rfl, trivial⟩ (by rw [flat_take ls k hlt, List.length_append]; simp only [List.take_succ_cons, List.take_zero]; rw [Nat.add_assoc]) rfl rfl rfl rfl⟩
  · have hge : k = ls.length := by simp at hb; omega
    subst hge
    rw [List.take_length] at h2 H
    have hsl := sum_length (t :: ls.flatten)
    have h1l : (t :: ls.flatten).length = 1 + ls.flatten.length := by simp; omega
    have hsum := sumS_v (t :: ls.flatten) s2 b2 n2 h2 (by rw [h1l]; omega)
    rw [h1l] at hsum
    refine mW ?_; clear H; intro a w H
    refine mCall [1] [] (hsum) H ?_; clear H; intro a w H; try refine wpList_nil ?_
    refine mW ?_; clear H; intro a w H
    refine wp_ret ?_; exact mEnd [] [] [.cell 4 33] [_] hN hR H
theorem empty_v : VC Tryz.prog 39 [] [] (.ba (sum [0])) := by
  have hsl := sum_length [0]
  refine mE Tryz.func39 ?_; intro N w0 a w hN hR H
  have hX := And.intro @ren_s8v (@ren_shv)
  have hY := And.intro @s8v.eq_1 (And.intro @shv.eq_1 (And.intro @W32.eq_1 (@h0.eq_1)))
  refine mW ?_; clear H; intro a w H
  refine mCall [] [] (of_v 0 [] (by simp) (by simp)) H ?_; clear H; intro a w H; try refine wpList_nil ?_
  refine mW ?_; clear H; intro a w H
  refine wp_ret ?_; exact mEnd [] [] [.cell 0 33] [_] hN hR H
end Go.Proofs.YtgffimanhmpohaaGreat
/- Nodes: what is read. -/
namespace Go.Proofs.YtgffimanhmpohaaGreat
open Go Go.RowKit
def Nd.one (a b : List UInt8) : Nd := ⟨1, a, b, z32, z32⟩
def Nd.two (a b : List UInt8) : Nd := ⟨2, z32, z32, a, b⟩
def decOk (l : List UInt8) : Prop := l = [0] ∨ (l.length = 65 ∧ (l.getD 0 0 = 1 ∨ l.getD 0 0 = 2))
instance (l : List UInt8) : Decidable (decOk l) := inferInstanceAs (Decidable (_ ∨ _))
def dec (l : List UInt8) : Nd := if l.length = 65 ∧ l.getD 0 0 = 1 then .one ((l.drop 1).take 32) (l.drop 33) else if l.length = 65 ∧ l.getD 0 0 = 2 then .two ((l.drop 1).take 32) (l.drop 33) else .zero
theorem z32_len : z32.length = 32 := by simp [z32]
theorem zero_wf : Nd.zero.wf := ⟨z32_len, z32_len, z32_len, z32_len⟩
theorem zero_ok : Nd.zero.ok := by simp [Nd.ok, Nd.bare, Nd.zero]
end Go.Proofs.YtgffimanhmpohaaGreat
/- What the statements share: bytes that are lent, and kept. -/
namespace Go.Proofs.YtgffimanhmpohaaGreat
open Go Go.RowKit
/-- The marks in the spare room. -/
def marks (n : Nat) : Nat → List UInt8
  | 0 => []
  | k + 1 => marks n k ++ [UInt8.ofNat (200 + (n + k) % 50)]
end Go.Proofs.YtgffimanhmpohaaGreat
/- The document's digests and nodes. -/
namespace Go.Proofs.YtgffimanhmpohaaGreat
open Go Go.RowKit
end Go.Proofs.YtgffimanhmpohaaGreat
/- The document's look at a node. -/
namespace Go.Proofs.YtgffimanhmpohaaGreat
open Go Go.RowKit
end Go.Proofs.YtgffimanhmpohaaGreat
/- The document's nodes, written and read. -/
namespace Go.Proofs.YtgffimanhmpohaaGreat
open Go Go.RowKit
end Go.Proofs.YtgffimanhmpohaaGreat
/- Digests of the empty place, of leaves, of inner nodes. -/
namespace Go.Proofs.YtgffimanhmpohaaGreat
open Go Go.RowKit
def leafH (k v : List UInt8) : List UInt8 := sum (1 :: (k ++ v))
def innerH (l r : List UInt8) : List UInt8 := sum (2 :: (l ++ r))
theorem leafH_len (k v : List UInt8) : (leafH k v).length = 32 := sum_length _
theorem innerH_len (k v : List UInt8) : (innerH k v).length = 32 := sum_length _
set_option maxRecDepth 20000 in
theorem leaf_v (k v : List UInt8) (hk : k.length = 32) (hv : v.length = 32) : VC Tryz.prog 69 [.ba k, .ba v] [] (.ba (leafH k v)) := by
  have h := of_v 1 [k, v] (by simp; omega) (by simp)
  have e : [k, v].flatten = k ++ v := by simp
  rw [e] at h
  have hsl := sum_length (1 :: (k ++ v))
  unfold leafH
  refine mE Tryz.func69 ?_; intro N w0 a w hN hR H
  refine mW ?_; clear H; intro a w H
  have hX := And.intro (List.take_of_length_le (Nat.le_of_eq hk)) (List.take_of_length_le (Nat.le_of_eq hv))
  refine mS ?_; refine mD 0 [2, 3, 4] [] H ?_; clear H; intro gS H; refine mT ?_; clear H; intro a w H
  refine mCallT [] [] (h) H ?_; clear H; intro a w H
  refine mT ?_; clear H; intro a w H
  refine v_drawNil H ?_; clear H; intro H
  clear hX; have hX := And.intro @hk (@hv)
  refine wp_ret ?_; exact mEnd [] [] [.cell 4 33] [_] hN hR H
set_option maxRecDepth 20000 in
theorem inner_v (k v : List UInt8) (hk : k.length = 32) (hv : v.length = 32) : VC Tryz.prog 49 [.ba k, .ba v] [] (.ba (innerH k v)) := by
  have h := of_v 2 [k, v] (by simp; omega) (by simp)
  have e : [k, v].flatten = k ++ v := by simp
  rw [e] at h
  have hsl := sum_length (2 :: (k ++ v))
  unfold innerH
  refine mE Tryz.func49 ?_; intro N w0 a w hN hR H
  refine mW ?_; clear H; intro a w H
  have hX := And.intro (List.take_of_length_le (Nat.le_of_eq hk)) (List.take_of_length_le (Nat.le_of_eq hv))
  refine mS ?_; refine mD 0 [2, 3, 4] [] H ?_; clear H; intro gS H; refine mT ?_; clear H; intro a w H
  refine mCallT [] [] (h) H ?_; clear H; intro a w H
  refine mT ?_; clear H; intro a w H
  refine v_drawNil H ?_; clear H; intro H
  clear hX; have hX := And.intro @hk (@hv)
  refine wp_ret ?_; exact mEnd [] [] [.cell 4 33] [_] hN hR H
end Go.Proofs.YtgffimanhmpohaaGreat
/- How many bits a byte has: math/bits. -/
namespace Go.Proofs.YtgffimanhmpohaaGreat
open Go Go.RowKit
set_option maxHeartbeats 1000000 in
set_option maxRecDepth 100000 in
theorem len8_any (x : Int) (w : World) (h0 : 0 ≤ x) (h1 : x ≤ 255) : Calls Tryz.prog 138 #[.int .u8 x] w fun e w' => e = .returned (.int .i64 (Lib.bitLen x.toNat)) ∧ w' = w := by
  rw [← Lib.len8_int x h0 h1]
  go_enter Tryz.func138, Tryz.ntmps138
  go_wp2
  go_ret
  refine ⟨?_, rfl⟩
  generalize Lib.len8 x = y
  have e : wrap64 y = (y + 9223372036854775808) % 18446744073709551616 - 9223372036854775808 := by unfold wrap64; rfl
  show Ending.returned (.int .i64 (wrap64 y)) = _
  rw [e]
theorem len8_v (c : UInt8) : VC Tryz.prog 138 [.v (B8 c)] [] (.v (.int .i64 (Lib.bitLen c.toNat))) := by
  refine VC.ofA ⟨_, Tryz.func138, by kernel_rfl, by kernel_rfl⟩ fun w N vs hM hl hv => ?_
  obtain ⟨u, rfl, h1⟩ := one_ hl hv
  have e1 := h1.v_inv
  subst e1
  have hc := c.toNat_lt
  refine (len8_any c.toNat w (by omega) (by omega)).mono fun e w' hp => ?_
  obtain ⟨rfl, rfl⟩ := hp
  exact ⟨_, rfl, Below.refl _ _, by rw [Int.toNat_natCast]; exact RV.v_of rfl⟩
end Go.Proofs.YtgffimanhmpohaaGreat
/- Bits in bytes, the highest first. -/
namespace Go.Proofs.YtgffimanhmpohaaGreat
open Go Go.RowKit
def b8 (f : Nat → Bool) : UInt8 := (if f 0 then 128 else 0) ||| (if f 1 then 64 else 0) ||| (if f 2 then 32 else 0) ||| (if f 3 then 16 else 0) ||| (if f 4 then 8 else 0) ||| (if f 5 then 4 else 0) ||| (if f 6 then 2 else 0) ||| (if f 7 then 1 else 0)
def bitsB (n : Nat) (f : Nat → Bool) : List UInt8 := (List.range ((n + 7) / 8)).map fun j => b8 fun k => f (8 * j + k)
theorem bitsB_len (n : Nat) (f : Nat → Bool) : (bitsB n f).length = (n + 7) / 8 := by simp [bitsB]
theorem b8_congr {f g : Nat → Bool} (h : ∀ i, i < 8 → f i = g i) : b8 f = b8 g := by
  unfold b8; rw [h 0 (by decide), h 1 (by decide), h 2 (by decide), h 3 (by decide), h 4 (by decide), h 5 (by decide), h 6 (by decide), h 7 (by decide)]
def b8x (x0 x1 x2 x3 x4 x5 x6 x7 : Bool) : UInt8 := (if x0 then 128 else 0) ||| (if x1 then 64 else 0) ||| (if x2 then 32 else 0) ||| (if x3 then 16 else 0) ||| (if x4 then 8 else 0) ||| (if x5 then 4 else 0) ||| (if x6 then 2 else 0) ||| (if x7 then 1 else 0)
theorem b8_x (f : Nat → Bool) : b8 f = b8x (f 0) (f 1) (f 2) (f 3) (f 4) (f 5) (f 6) (f 7) := rfl
/-- A bit of a byte. -/
def bitAt (c : UInt8) (m : Nat) : Bool := (c &&& UInt8.ofNat (128 / 2 ^ m)) != 0
set_option maxRecDepth 100000 in
theorem b8x_get : ∀ x0 x1 x2 x3 x4 x5 x6 x7 : Bool, bitAt (b8x x0 x1 x2 x3 x4 x5 x6 x7) 0 = x0 ∧ bitAt (b8x x0 x1 x2 x3 x4 x5 x6 x7) 1 = x1 ∧ bitAt (b8x x0 x1 x2 x3 x4 x5 x6 x7) 2 = x2 ∧ bitAt (b8x x0 x1 x2 x3 x4 x5 x6 x7) 3 = x3
    ∧ bitAt (b8x x0 x1 x2 x3 x4 x5 x6 x7) 4 = x4 ∧ bitAt (b8x x0 x1 x2 x3 x4 x5 x6 x7) 5 = x5 ∧ bitAt (b8x x0 x1 x2 x3 x4 x5 x6 x7) 6 = x6 ∧ bitAt (b8x x0 x1 x2 x3 x4 x5 x6 x7) 7 = x7 := by decide +kernel
theorem b8_get (f : Nat → Bool) (m : Nat) (hm : m < 8) : bitAt (b8 f) m = f m := by
  obtain ⟨h0, h1, h2, h3, h4, h5, h6, h7⟩ := b8x_get (f 0) (f 1) (f 2) (f 3) (f 4) (f 5) (f 6) (f 7)
  rw [b8_x]
  match m, hm with
  | 0, _ => exact h0
  | 1, _ => exact h1
  | 2, _ => exact h2
  | 3, _ => exact h3
  | 4, _ => exact h4
  | 5, _ => exact h5
  | 6, _ => exact h6
  | 7, _ => exact h7
theorem bitsB_get (n : Nat) (f : Nat → Bool) (j : Nat) (hj : j < (n + 7) / 8) : (bitsB n f).getD j 0 = b8 fun k => f (8 * j + k) := by
  simp [bitsB, List.getD, List.getElem?_range, hj]
theorem bitsB_bit (n : Nat) (f : Nat → Bool) (t : Nat) (ht : t < n) : bitAt ((bitsB n f).getD (t / 8) 0) (t % 8) = f t := by
  rw [bitsB_get n f _ (by omega), b8_get _ _ (by omega)]
  congr 1; omega
theorem pow128 (m : Nat) : 128 / 2 ^ m < 256 := Nat.lt_of_le_of_lt (Nat.div_le_self _ _) (by decide)
theorem and_bit (c : UInt8) (m : Nat) : (!decide (bits .and .u8 (c.toNat : Int) (128 / 2 ^ m) = 0)) = bitAt c m := by
  have e : (128 / 2 ^ m : Int) = ((128 / 2 ^ m : Nat) : Int) := by rw [Int.natCast_ediv, Int.natCast_pow]; rfl
  have h : bits .and .u8 (c.toNat : Int) (128 / 2 ^ m) = (((c &&& UInt8.ofNat (128 / 2 ^ m)).toNat : Nat) : Int) := by
    rw [e, u8_and_nat _ _ (UInt8.toNat_lt _) (pow128 _), UInt8.toNat_and, UInt8.toNat_ofNat', Nat.mod_eq_of_lt (pow128 _)]
  rw [h]
  unfold bitAt
  by_cases h0 : c &&& UInt8.ofNat (128 / 2 ^ m) = 0
  · simp [h0]
  · have h1 : (c &&& UInt8.ofNat (128 / 2 ^ m)).toNat ≠ 0 := fun e => h0 (UInt8.toNat_inj.1 (by simpa using e))
    have h2 : (((c &&& UInt8.ofNat (128 / 2 ^ m)).toNat : Nat) : Int) ≠ 0 := by omega
    rw [decide_eq_false h2]; simpa using h0
end Go.Proofs.YtgffimanhmpohaaGreat
/- Keys as ways down: bits, how many are shared, what rises. In plain Lean. -/
namespace Go.Proofs.YtgffimanhmpohaaGreat
open Go Go.RowKit
def bitN (p : List UInt8) (d : Nat) : Bool := bitAt (p.getD (d / 8) 0) (d % 8)
def pbit (p : List UInt8) (d : Int) : Int := if 0 ≤ d ∧ d < 256 then (if bitN p d.toNat then 1 else 0) else -1
def comF (p q : List UInt8) : Nat → Nat → Nat
  | 0, d => d
  | f + 1, d => if bitN p d = bitN q d then comF p q f (d + 1) else d
def com (p q : List UInt8) : Nat := comF p q 256 0
def agree (d : Nat) (p q : List UInt8) : Prop := ∀ t, t < d → bitN p t = bitN q t
theorem comF_spec (p q : List UInt8) : ∀ f d, d ≤ comF p q f d ∧ comF p q f d ≤ d + f ∧ (∀ t, d ≤ t → t < comF p q f d → bitN p t = bitN q t) ∧ (comF p q f d < d + f → bitN p (comF p q f d) ≠ bitN q (comF p q f d))
  | 0, d => ⟨Nat.le_refl _, Nat.le_refl _, fun t h1 h2 => by simp only [comF] at h2; omega, fun h => by simp only [comF] at h; omega⟩
  | f + 1, d => by
    have ih := comF_spec p q f (d + 1)
    simp only [comF]
    split
    · rename_i he
      obtain ⟨h1, h2, h3, h4⟩ := ih
      refine ⟨by omega, by omega, fun t ht hl => ?_, fun h => h4 (by omega)⟩
      by_cases htd : t = d
      · subst htd; exact he
      · exact h3 t (by omega) hl
    · rename_i he
      exact ⟨Nat.le_refl _, by omega, fun t h1 h2 => by omega, fun _ => he⟩
theorem com_le (p q : List UInt8) : com p q ≤ 256 := by have := (comF_spec p q 256 0).2.1; simpa [com] using this
theorem com_agree (p q : List UInt8) : agree (com p q) p q := fun t ht => (comF_spec p q 256 0).2.2.1 t (Nat.zero_le _) ht
theorem com_ne (p q : List UInt8) (h : com p q < 256) : bitN p (com p q) ≠ bitN q (com p q) := (comF_spec p q 256 0).2.2.2 (by simpa [com] using h)
theorem com_of {p q : List UInt8} {c : Nat} (hc : c ≤ 256) (h : agree c p q) (hn : c < 256 → bitN p c ≠ bitN q c) : com p q = c := by
  have h1 := com_le p q; have h2 := com_agree p q; have h3 := com_ne p q
  rcases Nat.lt_trichotomy (com p q) c with hl | he | hg
  · exact absurd (h _ hl) (h3 (by omega))
  · exact he
  · exact absurd (h2 _ hg) (hn (by omega))
theorem com_ge {p q : List UInt8} {d : Nat} (hd : d ≤ 256) : d ≤ com p q ↔ agree d p q := by
  constructor
  · intro h t ht; exact com_agree p q t (by omega)
  · intro h
    rcases Nat.lt_or_ge (com p q) d with hl | hg
    · exact absurd (h _ hl) (com_ne p q (by omega))
    · exact hg
theorem com_self (p : List UInt8) : com p p = 256 := com_of (Nat.le_refl _) (fun _ _ => rfl) (fun h => absurd h (by decide))
theorem agree_refl (d : Nat) (p : List UInt8) : agree d p p := fun _ _ => rfl
theorem agree.symm {d : Nat} {p q : List UInt8} (h : agree d p q) : agree d q p := fun t ht => (h t ht).symm
theorem agree.trans {d : Nat} {p q r : List UInt8} (h : agree d p q) (k : agree d q r) : agree d p r := fun t ht => (h t ht).trans (k t ht)
set_option maxRecDepth 100000 in
theorem bitAt_test8 : ∀ n : Fin 256, ∀ m : Fin 8, bitAt (UInt8.ofNat n.val) m.val = n.val.testBit (7 - m.val) := by decide +kernel
theorem bitAt_test (c : UInt8) (m : Nat) (hm : m < 8) : bitAt c m = c.toNat.testBit (7 - m) := by
  have := bitAt_test8 ⟨c.toNat, c.toNat_lt⟩ ⟨m, hm⟩
  simpa using this
set_option maxRecDepth 100000 in
theorem lead8 : ∀ n : Fin 256, n.val ≠ 0 → Lib.bitLen n.val ≤ 8 ∧ 8 - Lib.bitLen n.val < 8 ∧ (∀ t : Fin 8, t.val < 8 - Lib.bitLen n.val → bitAt (UInt8.ofNat n.val) t.val = false) ∧ bitAt (UInt8.ofNat n.val) (8 - Lib.bitLen n.val) = true := by decide +kernel
/-- The first bit in which two bytes part. -/
theorem lead_xor (x y : UInt8) (h : x ≠ y) : 8 - Lib.bitLen (x ^^^ y).toNat < 8 ∧ Lib.bitLen (x ^^^ y).toNat ≤ 8 ∧ (∀ t, t < 8 - Lib.bitLen (x ^^^ y).toNat → bitAt x t = bitAt y t) ∧ bitAt x (8 - Lib.bitLen (x ^^^ y).toNat) ≠ bitAt y (8 - Lib.bitLen (x ^^^ y).toNat) := by
  have hx : ∀ m, m < 8 → bitAt (x ^^^ y) m = (bitAt x m ^^ bitAt y m) := fun m hm => by
    rw [bitAt_test _ _ hm, bitAt_test _ _ hm, bitAt_test _ _ hm, UInt8.toNat_xor, Nat.testBit_xor]
  have hne : (x ^^^ y).toNat ≠ 0 := fun e => h (by
    have : x ^^^ y = 0 := UInt8.toNat_inj.1 (by simpa using e)
    exact UInt8.xor_eq_zero_iff.1 this)
  obtain ⟨h1, h2, h3, h4⟩ := lead8 ⟨(x ^^^ y).toNat, (x ^^^ y).toNat_lt⟩ hne
  simp only [UInt8.ofNat_toNat] at h3 h4 h1 h2
  refine ⟨h2, h1, fun t ht => ?_, fun e => ?_⟩
  · have := h3 ⟨t, by omega⟩ ht
    rw [hx t (by omega)] at this
    simpa using this
  · rw [hx _ h2, e] at h4
    simp at h4
theorem lt_bit (x y : UInt8) (h : x ≠ y) : x < y ↔ bitAt x (8 - Lib.bitLen (x ^^^ y).toNat) = false := by
  obtain ⟨h1, h2, h3, h4⟩ := lead_xor x y h
  have key : ∀ a b : UInt8, (∀ t, t < 8 - Lib.bitLen (x ^^^ y).toNat → bitAt a t = bitAt b t) → bitAt a (8 - Lib.bitLen (x ^^^ y).toNat) = false → bitAt b (8 - Lib.bitLen (x ^^^ y).toNat) = true → a < b := fun a b k1 k2 k3 => by
    rw [UInt8.lt_iff_toNat_lt]
    generalize hc : 8 - Lib.bitLen (x ^^^ y).toNat = c at *
    rw [bitAt_test _ _ h1] at k2 k3
    have e1 : a.toNat / 2 ^ (7 - c + 1) = b.toNat / 2 ^ (7 - c + 1) := by
      apply Nat.eq_of_testBit_eq
      intro i
      rw [Nat.testBit_div_two_pow, Nat.testBit_div_two_pow]
      by_cases hi : i + (7 - c + 1) < 8
      · have := k1 (7 - (i + (7 - c + 1))) (by omega)
        rw [bitAt_test _ _ (by omega), bitAt_test _ _ (by omega), show 7 - (7 - (i + (7 - c + 1))) = i + (7 - c + 1) by omega] at this
        first | exact this | (rw [Nat.add_comm]; exact this)
      · have h2 : ∀ u : UInt8, ∀ j, 8 ≤ j → u.toNat.testBit j = false := fun u j hj => Nat.testBit_lt_two_pow (Nat.lt_of_lt_of_le u.toNat_lt (Nat.pow_le_pow_right (by decide) hj))
        rw [h2 _ _ (by omega), h2 _ _ (by omega)]
    have e2 : ∀ n : Nat, n / 2 ^ (7 - c) = 2 * (n / 2 ^ (7 - c + 1)) + n / 2 ^ (7 - c) % 2 := fun n => by
      have : n / 2 ^ (7 - c + 1) = n / 2 ^ (7 - c) / 2 := by rw [Nat.pow_succ, Nat.div_div_eq_div_mul]
      omega
    rw [Nat.testBit_eq_decide_div_mod_eq] at k2 k3
    have k2' : a.toNat / 2 ^ (7 - c) % 2 ≠ 1 := by simpa using k2
    have k3' : b.toNat / 2 ^ (7 - c) % 2 = 1 := by simpa using k3
    have e3 := e2 a.toNat; have e4 := e2 b.toNat
    rw [e1] at e3
    refine Classical.byContradiction fun hn => ?_
    have := Nat.div_le_div_right (c := 2 ^ (7 - c)) (Nat.le_of_not_lt hn)
    omega
  constructor
  · intro hl
    cases hb : bitAt x (8 - Lib.bitLen (x ^^^ y).toNat)
    · rfl
    · exfalso
      rw [hb] at h4
      have := key y x (fun t ht => (h3 t ht).symm) (by simpa using h4.symm) hb
      rw [UInt8.lt_iff_toNat_lt] at this hl
      omega
  · intro hb
    rw [hb] at h4
    exact key x y h3 hb (by simpa using h4.symm)
/-- The lesser key, by bits. -/
def ltB (p q : List UInt8) : Prop := ∃ c, c < 256 ∧ agree c p q ∧ bitN p c = false ∧ bitN q c = true
theorem ltB.trans {p q r : List UInt8} (h : ltB p q) (k : ltB q r) : ltB p r := by
  obtain ⟨c, hc, h1, h2, h3⟩ := h
  obtain ⟨d, hd, k1, k2, k3⟩ := k
  rcases Nat.lt_trichotomy c d with hl | rfl | hg
  · exact ⟨c, hc, fun t ht => (h1 t ht).trans (k1 t (by omega)), h2, (k1 c hl) ▸ h3⟩
  · rw [h3] at k2; cases k2
  · exact ⟨d, hd, fun t ht => (h1 t (by omega)).trans (k1 t ht), (h1 d hg).trans k2, k3⟩
theorem ltB.irr {p : List UInt8} (h : ltB p p) : False := by obtain ⟨c, _, _, h2, h3⟩ := h; rw [h2] at h3; cases h3
theorem bitN_cons_lt (x : UInt8) (p : List UInt8) (t : Nat) (h : t < 8) : bitN (x :: p) t = bitAt x t := by
  unfold bitN; rw [Nat.div_eq_of_lt h, Nat.mod_eq_of_lt h]; rfl
theorem bitN_cons_ge (x : UInt8) (p : List UInt8) (t : Nat) : bitN (x :: p) (t + 8) = bitN p t := by
  unfold bitN; rw [Nat.add_div_right _ (by decide), Nat.add_mod_right]; rfl
theorem cmp_lt : ∀ p q : List UInt8, p.length = q.length → (Lib.compareBytes p q < 0 ↔ ∃ c, c < 8 * p.length ∧ agree c p q ∧ bitN p c = false ∧ bitN q c = true)
  | [], [], _ => by simp [Lib.compareBytes]
  | [], _ :: _, h => by cases h
  | _ :: _, [], h => by cases h
  | x :: p, y :: q, h => by
    have hl : p.length = q.length := by simpa using h
    have ih := cmp_lt p q hl
    by_cases he : x = y
    · subst he
      have e : Lib.compareBytes (x :: p) (x :: q) = Lib.compareBytes p q := by
        simp [Lib.compareBytes]
      rw [e, ih]
      constructor
      · rintro ⟨c, hc, h1, h2, h3⟩
        refine ⟨c + 8, by rw [List.length_cons]; omega, fun t ht => ?_, by rw [bitN_cons_ge]; exact h2, by rw [bitN_cons_ge]; exact h3⟩
        by_cases ht8 : t < 8
        · rw [bitN_cons_lt _ _ _ ht8, bitN_cons_lt _ _ _ ht8]
        · obtain ⟨t', rfl⟩ : ∃ t', t = t' + 8 := ⟨t - 8, by omega⟩
          rw [bitN_cons_ge, bitN_cons_ge]; exact h1 t' (by omega)
      · rintro ⟨c, hc, h1, h2, h3⟩
        by_cases hc8 : c < 8
        · rw [bitN_cons_lt _ _ _ hc8] at h2 h3; rw [h2] at h3; cases h3
        · obtain ⟨c', rfl⟩ : ∃ t', c = t' + 8 := ⟨c - 8, by omega⟩
          rw [bitN_cons_ge] at h2 h3
          refine ⟨c', by rw [List.length_cons] at hc; omega, fun t ht => ?_, h2, h3⟩
          have := h1 (t + 8) (by omega)
          rwa [bitN_cons_ge, bitN_cons_ge] at this
    · obtain ⟨l1, l2, l3, l4⟩ := lead_xor x y he
      have lb := lt_bit x y he
      have e : Lib.compareBytes (x :: p) (y :: q) < 0 ↔ x < y := by
        simp only [Lib.compareBytes]
        split
        · rename_i hxy; simp [hxy]
        · rename_i hxy
          constructor
          · intro h; exfalso; revert h
            split
            · simp
            · rename_i hyx
              exfalso; apply he; apply UInt8.toNat_inj.1
              rw [UInt8.lt_iff_toNat_lt] at hxy hyx; omega
          · intro h; exact absurd h hxy
      rw [e, lb]
      constructor
      · intro hb
        rw [hb] at l4
        refine ⟨8 - Lib.bitLen (x ^^^ y).toNat, by rw [List.length_cons]; omega, fun t ht => ?_, by rw [bitN_cons_lt _ _ _ l1]; exact hb, by rw [bitN_cons_lt _ _ _ l1]; simpa using l4.symm⟩
        rw [bitN_cons_lt _ _ _ (by omega), bitN_cons_lt _ _ _ (by omega)]; exact l3 t ht
      · rintro ⟨c, hc, h1, h2, h3⟩
        have hce : c = 8 - Lib.bitLen (x ^^^ y).toNat := by
          rcases Nat.lt_trichotomy c (8 - Lib.bitLen (x ^^^ y).toNat) with hl | he | hg
          · rw [bitN_cons_lt _ _ _ (by omega)] at h2 h3
            rw [l3 c hl, h3] at h2; cases h2
          · exact he
          · have := h1 _ hg
            rw [bitN_cons_lt _ _ _ l1, bitN_cons_lt _ _ _ l1] at this
            exact absurd this l4
        subst hce
        rwa [bitN_cons_lt _ _ _ l1] at h2
theorem cmp_ltB {p q : List UInt8} (hp : p.length = 32) (hq : q.length = 32) : Lib.compareBytes p q < 0 ↔ ltB p q := by
  rw [cmp_lt p q (by omega), hp]; rfl
theorem agree_all : ∀ p q : List UInt8, p.length = q.length → agree (8 * p.length) p q → p = q
  | [], [], _, _ => rfl
  | [], _ :: _, h, _ => by cases h
  | _ :: _, [], h, _ => by cases h
  | x :: p, y :: q, h, ha => by
    have hl : p.length = q.length := by simpa using h
    have e := agree_all p q hl fun t ht => by
      have := ha (t + 8) (by rw [List.length_cons]; omega)
      rwa [bitN_cons_ge, bitN_cons_ge] at this
    by_cases hx : x = y
    · rw [e, hx]
    · exfalso
      obtain ⟨l1, l2, l3, l4⟩ := lead_xor x y hx
      have := ha (8 - Lib.bitLen (x ^^^ y).toNat) (by rw [List.length_cons]; omega)
      rw [bitN_cons_lt _ _ _ l1, bitN_cons_lt _ _ _ l1] at this
      exact l4 this
theorem agree_eq {p q : List UInt8} (hp : p.length = 32) (hq : q.length = 32) (h : agree 256 p q) : p = q := agree_all p q (by omega) (by rw [hp]; exact h)
end Go.Proofs.YtgffimanhmpohaaGreat
