/- A region that draws its order, in which one loud operation (new memory) may come up before or behind another one (a call): both are walked. -/
import Derived.Test.YtlagngkafllbiaaA5
set_option linter.unusedSimpArgs false
set_option linter.unusedVariables false
namespace Go.Proofs.Ytlagngkafllbiaa
open Go
section
variable {P : Program} {ops : Array Oper} {Q : Exit → Act → World → Prop} {S : World → Prop} {L A : List Nat} {c f : Nat}
def chkX (ops : Array Oper) (pre : Array Nat) (L A : List Nat) (c f : Nat) : Bool :=
  (List.range ops.size).all fun j => (List.range j).all fun i => (pre.getD j 0).testBit i || (i == c && j == f) || (!(L.contains i && L.contains j) && (!L.contains j || A.contains i) && (!L.contains i || A.contains j))
theorem chkX_pair {pre : Array Nat} (h : chkX ops pre L A c f = true) {i j : Nat} (hj : j < ops.size) (hij : i < j) (hp : (pre.getD j 0).testBit i = false) (hn : ¬ (i = c ∧ j = f)) :
    ¬ (L.contains i = true ∧ L.contains j = true) ∧ (L.contains j = true → A.contains i = true) ∧ (L.contains i = true → A.contains j = true) := by
  simp only [chkX, List.all_eq_true, List.mem_range] at h
  have h1 := h j hj i hij
  rw [hp] at h1
  have h2 : (i == c && j == f) = false := by
    cases hb : (i == c && j == f) with
    | false => rfl
    | true => simp only [Bool.and_eq_true, beq_iff_eq] at hb; exact absurd hb hn
  rw [h2] at h1
  simp only [Bool.false_or, Bool.and_eq_true, Bool.not_eq_true', Bool.and_eq_false_imp, Bool.or_eq_true] at h1
  obtain ⟨⟨g1, g2⟩, g3⟩ := h1
  refine ⟨fun ⟨x, y⟩ => ?_, fun x => ?_, fun x => ?_⟩
  · have := g1 x; rw [y] at this; cases this
  · rcases g2 with g | g
    · rw [x] at g; cases g
    · exact g
  · rcases g3 with g | g
    · rw [x] at g; cases g
    · exact g
theorem pair_of_readyX {pre : Array Nat} (hf : Fine ops pre [] []) (hx : chkX ops pre L A c f = true) {listed : Array Bool} (hd : Down ops listed) {i j : Nat} (hi : i ∈ Region.ready .any ops listed) (hj : j ∈ Region.ready .any ops listed) (hne : j ≠ i)
    (h1 : ¬ (i = c ∧ j = f)) (h2 : ¬ (j = c ∧ i = f)) :
    ∃ oi oj, ops[i]? = some oi ∧ ops[j]? = some oj ∧ oi.apart ops oj = true ∧ oj.apart ops oi = true ∧ ¬ (L.contains i = true ∧ L.contains j = true) ∧ (L.contains j = true → A.contains i = true) ∧ (L.contains i = true → A.contains j = true) := by
  obtain ⟨hiu, oi, hoi, halli⟩ := mem_ready.1 hi
  obtain ⟨hju, oj, hoj, hallj⟩ := mem_ready.1 hj
  obtain ⟨oi', oj', hoi', hoj', g1, g2, _⟩ := pair_of_ready hf hd hi hj hne
  rw [hoi] at hoi'; injection hoi' with hoi'; subst hoi'
  rw [hoj] at hoj'; injection hoj' with hoj'; subst hoj'
  have unl : ∀ k, listed.getD k true = false → listed.getD k false = true → False := by
    intro k h1 h2
    rcases Nat.lt_or_ge k listed.size with h' | h'
    · simp [h'] at h1 h2; rw [h1] at h2; cases h2
    · simp [Array.getElem?_eq_none h'] at h1
  have nij : (pre.getD j 0).testBit i = false := by
    cases ht : (pre.getD j 0).testBit i
    · rfl
    · exact (unl i hiu (pre_listed hf hd j oj hoj hallj i ht)).elim
  have nji : (pre.getD i 0).testBit j = false := by
    cases ht : (pre.getD i 0).testBit j
    · rfl
    · exact (unl j hju (pre_listed hf hd i oi hoi halli j ht)).elim
  refine ⟨oi, oj, hoi, hoj, g1, g2, ?_⟩
  rcases Nat.lt_or_gt_of_ne hne with h | h
  · obtain ⟨g3, g4, g5⟩ := chkX_pair hx (Array.getElem?_eq_some_iff.1 hoi).1 h nji h2
    exact ⟨fun ⟨x, y⟩ => g3 ⟨y, x⟩, g5, g4⟩
  · exact chkX_pair hx (Array.getElem?_eq_some_iff.1 hoj).1 h nij h1
theorem unlisted {listed : Array Bool} {k : Nat} (h : k ∈ Region.ready .any ops listed) : listed.getD k false ≠ true := by
  obtain ⟨h1, _⟩ := mem_ready.1 h
  intro h2
  rcases Nat.lt_or_ge k listed.size with h' | h'
  · simp [h'] at h1 h2; rw [h1] at h2; cases h2
  · simp [Array.getElem?_eq_none h'] at h1
def away (c f : Nat) (listed : Array Bool) (i : Nat) : Prop := (i ≠ c ∧ i ≠ f) ∨ listed.getD f false = true ∨ listed.getD c false = true
theorem away_pair {listed : Array Bool} {i j : Nat} (h : away c f listed i) (hi : i ∈ Region.ready .any ops listed) (hj : j ∈ Region.ready .any ops listed) : ¬ (i = c ∧ j = f) ∧ ¬ (j = c ∧ i = f) := by
  rcases h with ⟨h1, h2⟩ | h | h
  · exact ⟨fun e => h1 e.1, fun e => h2 e.2⟩
  · exact ⟨fun e => unlisted hj (by rw [e.2]; exact h), fun e => unlisted hi (by rw [e.2]; exact h)⟩
  · exact ⟨fun e => unlisted hi (by rw [e.1]; exact h), fun e => unlisted hj (by rw [e.1]; exact h)⟩
theorem away_set {listed : Array Bool} {i j : Nat} (h : away c f listed i) : away c f (listed.setIfInBounds j true) i := by
  have g : ∀ k, listed.getD k false = true → (listed.setIfInBounds j true).getD k false = true := fun k hk => by
    by_cases e : j = k
    · subst e; exact getD_set_true hk
    · rw [getD_set_ne false e]; exact hk
  rcases h with h | h | h
  · exact .inl h
  · exact .inr (.inl (g _ h))
  · exact .inr (.inr (g _ h))
theorem tAny_firstX {pre : Array Nat} (hf : Fine ops pre [] []) (hx : chkX ops pre L A c f = true) {i : Nat} : ∀ (fuel : Nat) (listed : Array Bool) (a : Act) (w : World), Down ops listed → i ∈ Region.ready .any ops listed → away c f listed i → S w →
    tOp P ops S L A i (tAny P ops Q S L A fuel (listed.setIfInBounds i true)) a w → tAny P ops Q S L A (fuel + 1) listed a w := by
  intro fuel
  induction fuel with
  | zero =>
    intro listed a w hd hr haw hS H
    refine ⟨fun h => (by rw [h] at hr; cases hr), fun j hj => ?_⟩
    by_cases hji : j = i
    · subst hji; exact H
    · have := ready_mono hj hji
      obtain ⟨a', w', h⟩ := tOp_some H
      rw [h.1] at this
      cases this
  | succ fuel ih =>
    intro listed a w hd hr haw hS H
    refine ⟨fun h => (by rw [h] at hr; cases hr), fun j hj => ?_⟩
    by_cases hji : j = i
    · subst hji; exact H
    · obtain ⟨n1, n2⟩ := away_pair haw hr hj
      obtain ⟨oi, oj, hoi, hoj, g1, g2, g3, g4, g5⟩ := pair_of_readyX hf hx hd hr hj hji n1 n2
      have H2 : tOp P ops S L A i (tOp P ops S L A j (tAny P ops Q S L A fuel ((listed.setIfInBounds i true).setIfInBounds j true))) a w :=
        tOp_mono hS (fun a w _ h => h.2 j (ready_mono hj hji)) H
      have H3 := tOp_swap hoi hoj g1 g2 (fun cs b => hf.sel i oi cs b hoi) (fun cs b => hf.sel j oj cs b hoj) g3 g4 g5 hS H2
      refine tOp_mono hS (fun a' w' _ h => ?_) H3
      refine ih (listed.setIfInBounds j true) a' w' (down_set hd hj) (ready_mono hr (Ne.symm hji)) (away_set haw) h.1 ?_
      rw [Array.setIfInBounds_comm _ _ hji]
      exact h.2
theorem tOp_both {i : Nat} {oi : Oper} {a : Act} {w : World} {K1 K2 : Act → World → Prop} (hi : ops[i]? = some oi) (hL : ¬ L.contains i = true) (hA : A.contains i = true) (hS : S w) (h1 : tOp P ops S L A i K1 a w) (h2 : tOp P ops S L A i K2 a w) :
    tOp P ops S L A i (fun a w => K1 a w ∧ K2 a w) a w := by
  unfold tOp at *
  simp only [hi] at *
  by_cases hw : Region.wanted oi (yielded ops a.tmps) = true
  · rw [if_pos hw, if_neg hL] at *
    obtain ⟨v, e1, e2, e3⟩ := h1
    obtain ⟨u, f1, f2, f3⟩ := h2
    have := Vr.uniq (e2 hA w hS) (f2 hA w hS)
    subst this
    exact ⟨v, e1, e2, e3, f3⟩
  · rw [if_neg hw] at *
    exact ⟨h1, h2⟩
/-- Both may come up: each first. -/
theorem tAny_two {pre : Array Nat} (hf : Fine ops pre [] []) (hx : chkX ops pre L A c f = true) (hcf : c ≠ f) (hLf : L.contains f = true) : ∀ (fuel : Nat) (listed : Array Bool) (a : Act) (w : World), Down ops listed → c ∈ Region.ready .any ops listed → f ∈ Region.ready .any ops listed → S w →
    tOp P ops S L A f (tAny P ops Q S L A fuel (listed.setIfInBounds f true)) a w → tOp P ops S L A c (tAny P ops Q S L A fuel (listed.setIfInBounds c true)) a w → tAny P ops Q S L A (fuel + 1) listed a w := by
  intro fuel
  induction fuel with
  | zero =>
    intro listed a w hd hrc hrf hS H1 H2
    obtain ⟨a', w', h⟩ := tOp_some H1
    have := ready_mono hrc hcf
    rw [h.1] at this
    cases this
  | succ fuel ih =>
    intro listed a w hd hrc hrf hS H1 H2
    refine ⟨fun h => (by rw [h] at hrc; cases hrc), fun j hj => ?_⟩
    by_cases hjf : j = f
    · subst hjf; exact H1
    by_cases hjc : j = c
    · subst hjc; exact H2
    obtain ⟨of, oj, hof, hoj, g1, g2, g3, g4, g5⟩ := pair_of_readyX hf hx hd hrf hj hjf (fun e => hcf e.1.symm) (fun e => hjc e.1)
    obtain ⟨oc, oj', hoc, hoj', k1, k2, k3, k4, k5⟩ := pair_of_readyX hf hx hd hrc hj hjc (fun e => hjf e.2) (fun e => hjc e.1)
    rw [hoj] at hoj'; injection hoj' with hoj'; subst hoj'
    have A1 : tOp P ops S L A f (tOp P ops S L A j (tAny P ops Q S L A fuel ((listed.setIfInBounds f true).setIfInBounds j true))) a w :=
      tOp_mono hS (fun a w _ h => h.2 j (ready_mono hj hjf)) H1
    have A2 : tOp P ops S L A c (tOp P ops S L A j (tAny P ops Q S L A fuel ((listed.setIfInBounds c true).setIfInBounds j true))) a w :=
      tOp_mono hS (fun a w _ h => h.2 j (ready_mono hj hjc)) H2
    have B1 := tOp_swap hof hoj g1 g2 (fun cs b => hf.sel f of cs b hof) (fun cs b => hf.sel j oj cs b hoj) g3 g4 g5 hS A1
    have B2 := tOp_swap hoc hoj k1 k2 (fun cs b => hf.sel c oc cs b hoc) (fun cs b => hf.sel j oj cs b hoj) k3 k4 k5 hS A2
    have hLj : ¬ L.contains j = true := fun e => g3 ⟨hLf, e⟩
    refine tOp_mono hS (fun a' w' _ h => ?_) (tOp_both hoj hLj (g5 hLf) hS B1 B2)
    refine ih (listed.setIfInBounds j true) a' w' (down_set hd hj) (ready_mono hrc (Ne.symm hjc)) (ready_mono hrf (Ne.symm hjf)) h.1.1 ?_ ?_
    · rw [Array.setIfInBounds_comm _ _ hjf]; exact h.1.2
    · rw [Array.setIfInBounds_comm _ _ hjc]; exact h.2.2
/-- Which operations are listed: those below k; f besides. -/
def Upto (n : Nat) (k : Nat) (x : Bool) (f : Nat) (listed : Array Bool) : Prop := listed.size = n ∧ ∀ i, i < n → ∀ d, listed.getD i d = (decide (i < k) || (x && i == f))
theorem Upto.set {n k f : Nat} {x : Bool} {listed : Array Bool} (h : Upto n k x f listed) (hk : k < n) : Upto n (k + 1) x f (listed.setIfInBounds k true) := by
  refine ⟨by simpa using h.1, fun i hi d => ?_⟩
  by_cases hik : k = i
  · subst hik; simp [h.1, hk]
  · rw [getD_set_ne d hik, h.2 i hi d]
    congr 1
    simp; omega
theorem Upto.down {n k f : Nat} {x : Bool} {listed : Array Bool} (hn : n = ops.size) (h : Upto n k x f listed) (he : ∀ (j : Nat) (o : Oper), ops[j]? = some o → ∀ e ∈ o.after, Region.binds .any e = true → e.on < j)
    (hfe : x = true → ∀ o, ops[f]? = some o → ∀ e ∈ o.after, Region.binds .any e = true → e.on < k) : Down ops listed := by
  intro j o hj hl e hm hb
  have hjlt := (Array.getElem?_eq_some_iff.1 hj).1
  rw [h.2 j (by omega) false] at hl
  have h1 := he j o hj e hm hb
  rw [h.2 e.on (by omega) false]
  simp only [Bool.or_eq_true, decide_eq_true_eq, Bool.and_eq_true, beq_iff_eq] at hl ⊢
  rcases hl with hl | ⟨hx, rfl⟩
  · exact .inl (by omega)
  · exact .inl (hfe hx o hj e hm hb)
/-- A stretch of operations in the order of the text. -/
theorem tAny_seg {pre : Array Nat} (hf : Fine ops pre [] []) (hx : chkX ops pre L A c f = true) {Q' : Exit → Act → World → Prop} {x : Bool} (fuel : Nat) : ∀ (p : List Oper) (k : Nat) (listed : Array Bool) (a : Act) (w : World),
    (∀ j, j < p.length → p[j]? = ops[k + j]?) → k + p.length ≤ ops.size → Upto ops.size k x f listed → (x = true → ∀ o, ops[f]? = some o → ∀ e ∈ o.after, Region.binds .any e = true → e.on < k) →
    (∀ j, k ≤ j → j < k + p.length → j ≠ f ∨ x = false) → ((x = true ∧ f < ops.size) ∨ (c < k) ∨ ∀ j, k ≤ j → j < k + p.length → j ≠ c ∧ j ≠ f) → S w → wpT P ops Q' S L A p k a w →
    (∀ a w listed, Upto ops.size (k + p.length) x f listed → S w → Q' .normal a w → tAny P ops Q S L A fuel listed a w) → tAny P ops Q S L A (p.length + fuel) listed a w
  | [], k, listed, a, w, _, _, hu, _, _, _, hS, h, hk => by
    have := hk a w listed hu hS h
    simpa using this
  | o :: p, k, listed, a, w, hl, hsz, hu, hfe, hnf, haw, hS, h, hk => by
    simp only [List.length_cons] at hsz hl hnf haw hk ⊢
    have h0 : ops[k]? = some o := by simpa using (hl 0 (by omega)).symm
    have hklt : k < ops.size := by omega
    have hd : Down ops listed := hu.down rfl hf.edge hfe
    have hr : k ∈ Region.ready .any ops listed := by
      refine mem_ready.2 ⟨?_, o, h0, fun e he hb => ?_⟩
      · rw [hu.2 k hklt true]
        simp only [Nat.lt_irrefl, decide_false, Bool.false_or, Bool.and_eq_false_imp, beq_eq_false_iff_ne]
        intro hxt
        rcases hnf k (Nat.le_refl _) (by omega) with h | h
        · exact h
        · rw [hxt] at h; cases h
      · have := hf.edge k o h0 e he hb
        rw [hu.2 e.on (by omega) false]
        simp [this]
    have ha : away c f listed k := by
      rcases haw with ⟨hxt, hfl⟩ | hck | hall
      · right; left
        rw [hu.2 f hfl false, hxt]; simp
      · right; right
        rw [hu.2 c (by omega) false]; simp [hck]
      · exact .inl (hall k (Nat.le_refl _) (by omega))
    rw [show p.length + 1 + fuel = (p.length + fuel) + 1 by omega]
    refine tAny_firstX hf hx (p.length + fuel) listed a w hd hr ha hS ?_
    have hop : tOp P ops S L A k (wpT P ops Q' S L A p (k + 1)) a w := by unfold tOp; simp only [h0]; exact h
    refine tOp_mono hS (fun a' w' hS' hh => ?_) hop
    refine tAny_seg hf hx fuel p (k + 1) _ a' w' (fun j hj => by have := hl (j + 1) (by omega); simpa [Nat.add_assoc, Nat.add_comm 1 j] using this) (by omega) (hu.set hklt) (fun hxt o' ho' e he hb => by have := hfe hxt o' ho' e he hb; omega)
      (fun j h1 h2 => hnf j (by omega) (by omega)) ?_ hS' hh (fun a w listed h => hk a w listed (by rw [show k + (p.length + 1) = k + 1 + p.length by omega]; exact h))
    rcases haw with h | h | h
    · exact .inl h
    · exact .inr (.inl (by omega))
    · exact .inr (.inr fun j h1 h2 => h j (by omega) (by omega))
theorem tAny_nil {listed : Array Bool} {a : Act} {w : World} (h : ∀ i, i < ops.size → ∀ d, listed.getD i d = true) (hQ : Q .normal a w) : tAny P ops Q S L A 0 listed a w := by
  refine ⟨?_, hQ⟩
  rw [List.eq_nil_iff_forall_not_mem]
  intro j hj
  obtain ⟨hju, o, ho, _⟩ := mem_ready.1 hj
  rw [h j (Array.getElem?_eq_some_iff.1 ho).1 true] at hju
  cases hju
/-- The region: up to c; then f and c in both orders. -/
theorem wp_region_F {id : Nat} {a : Act} {w : World} {l : List Oper} (L A : List Nat) (S : World → Prop) (c f : Nat) (of : Oper) (hm : P.follows .mixedOrders = true) (hc : chk l.toArray (Region.before l.toArray) [] [] = true) (hx : chkX l.toArray (Region.before l.toArray) L A c f = true)
    (hcf : c < f) (hof : l[f]? = some of) (hfe : (of.after.all fun e => !Region.binds .any e || decide (e.on < c)) = true) (hLf : L.contains f = true) (hS : S w.drew)
    (h : wpT P l.toArray (fun _ a w => (wpT P l.toArray (fun _ a w => wpT P l.toArray (fun _ a w => wpT P l.toArray Q S L A (l.drop (f + 1)) (f + 1) a w) S L A ((l.take f).drop c) c a w) S L A [of] f a w) ∧ wpT P l.toArray Q S L A (l.drop c) c a w) S L A (l.take c) 0 a w.drew) : (Code.region id l.toArray true).wp P Q a w := by
  refine wp_region_any hm (wpAny_of_tAny (L := L) (A := A) (S := S) _ _ _ _ ?_)
  have hf := fine_of_chk hc
  have hfl : f < l.length := (List.getElem?_eq_some_iff.1 hof).1
  have hsz : l.toArray.size = l.length := by simp
  have hed : ∀ o, l.toArray[f]? = some o → ∀ e ∈ o.after, Region.binds .any e = true → e.on < c := fun o ho e he hb => by
    have : o = of := by
      have h1 : l[f]? = some o := by simpa using ho
      rw [hof] at h1; injection h1 with h1; exact h1.symm
    subst this
    have := (Array.all_eq_true_iff_forall_mem.1 hfe) e he
    simpa [hb] using this
  have hlt : (l.take c).length = c := by rw [List.length_take]; omega
  have main := tAny_seg (P := P) (Q := Q) (S := S) (c := c) (f := f) hf hx (x := false) (fuel := l.length - c) (l.take c) 0 (Array.replicate l.toArray.size false) a w.drew
    (fun j hj => by rw [hlt] at hj; rw [List.getElem?_take, if_pos hj]; simp) (by rw [hlt, hsz]; omega) ⟨by simp, fun i hi d => by simp only [Array.getD_eq_getD_getElem?, Array.getElem?_replicate, if_pos hi]; simp⟩ (fun e => (by cases e)) (fun j _ _ => .inr rfl)
    (.inr (.inr fun j _ hj => by rw [hlt] at hj; exact ⟨by omega, by omega⟩)) hS h ?_
  · rw [hlt, show c + (l.length - c) = l.toArray.size by rw [hsz]; omega] at main
    exact main
  · intro a w listed hu hS h
    rw [hlt, Nat.zero_add] at hu
    obtain ⟨h1, h2⟩ := h
    have hd : Down l.toArray listed := hu.down rfl hf.edge (fun e => (by cases e))
    have hcs : l.toArray[c]? = some (l[c]'(by omega)) := by simp
    have hfs : l.toArray[f]? = some of := by simpa using hof
    have hrc : c ∈ Region.ready .any l.toArray listed := by
      refine mem_ready.2 ⟨by rw [hu.2 c (by omega) true]; simp, _, hcs, fun e he hb => ?_⟩
      have := hf.edge c _ hcs e he hb
      rw [hu.2 e.on (by omega) false]; simp [this]
    have hrf : f ∈ Region.ready .any l.toArray listed := by
      refine mem_ready.2 ⟨by rw [hu.2 f (by omega) true]; simp; omega, _, hfs, fun e he hb => ?_⟩
      have := hed _ hfs e he hb
      rw [hu.2 e.on (by omega) false]; simp [this]
    obtain ⟨m, hm'⟩ : ∃ m, l.length - c = m + 1 := ⟨l.length - c - 1, by omega⟩
    rw [hm']
    refine tAny_two hf hx (by omega) hLf m listed a w hd hrc hrf hS ?_ ?_
    · -- f first
      have hop : tOp P l.toArray S L A f (fun a w => wpT P l.toArray (fun _ a w => wpT P l.toArray Q S L A (l.drop (f + 1)) (f + 1) a w) S L A ((l.take f).drop c) c a w) a w := by
        unfold tOp; simp only [hfs]; exact h1
      refine tOp_mono hS (fun a' w' hS' hh => ?_) hop
      have hu1 : Upto l.toArray.size c true f (listed.setIfInBounds f true) := by
        refine ⟨by simpa using hu.1, fun i hi d => ?_⟩
        by_cases hif : f = i
        · subst hif
          have : listed.size = l.length := by rw [hu.1, hsz]
          simp [this, hfl]
        · rw [getD_set_ne d hif, hu.2 i hi d]
          simp [Ne.symm hif]
      have hsl : ((l.take f).drop c).length = f - c := by rw [List.length_drop, List.length_take]; omega
      have := tAny_seg (P := P) (Q := Q) (S := S) (c := c) (f := f) hf hx (x := true) (fuel := m - (f - c)) ((l.take f).drop c) c (listed.setIfInBounds f true) a' w'
        (fun j hj => by rw [hsl] at hj; rw [List.getElem?_drop, List.getElem?_take, if_pos (by omega)]; simp) (by rw [hsl, hsz]; omega) hu1 (fun _ => hed) (fun j h1 h2 => by rw [hsl] at h2; exact .inl (by omega)) (.inl ⟨rfl, by omega⟩) hS' hh ?_
      · rw [hsl, show f - c + (m - (f - c)) = m by omega] at this; exact this
      · intro a w listed hu hS h
        rw [hsl, show c + (f - c) = f by omega] at hu
        have hu2 : Upto l.toArray.size (f + 1) true f listed := ⟨hu.1, fun i hi d => by
          rw [hu.2 i hi d]
          by_cases e : i = f
          · subst e; simp
          · have : (i == f) = false := by simpa using e
            rw [this]; simp; omega⟩
        have hdl : (l.drop (f + 1)).length = m - (f - c) := by rw [List.length_drop]; omega
        have := tAny_seg (P := P) (Q := Q) (S := S) (c := c) (f := f) hf hx (Q' := Q) (x := true) (fuel := 0) (l.drop (f + 1)) (f + 1) listed a w
          (fun j hj => by rw [List.getElem?_drop]; simp) (by rw [List.length_drop, hsz]; omega) hu2 (fun _ o ho e he hb => by have := hed o ho e he hb; omega) (fun j h1 h2 => .inl (by omega)) (.inl ⟨rfl, by omega⟩) hS h (fun a w listed hu hS hQ => tAny_nil (fun i hi d => by
            rw [hu.2 i hi d, List.length_drop]
            have : i < f + 1 + (l.length - (f + 1)) := by omega
            simp [this]) hQ)
        rw [hdl] at this; exact this
    · -- c first
      obtain ⟨o, r, hdr⟩ : ∃ o r, l.drop c = o :: r := by
        cases hq : l.drop c with
        | nil => have := congrArg List.length hq; rw [List.length_drop] at this; simp at this; omega
        | cons o r => exact ⟨o, r, rfl⟩
      have ho : l[c]'(by omega) = o := by
        have : (l.drop c)[0]? = some o := by rw [hdr]; rfl
        rw [List.getElem?_drop, Nat.add_zero, List.getElem?_eq_getElem (by omega)] at this
        injection this
      have hrr : r = l.drop (c + 1) := by rw [← List.drop_drop, hdr]; rfl
      rw [hdr] at h2
      have hop : tOp P l.toArray S L A c (wpT P l.toArray Q S L A r (c + 1)) a w := by
        unfold tOp; simp only [hcs, ho]; exact h2
      refine tOp_mono hS (fun a' w' hS' hh => ?_) hop
      rw [hrr] at hh
      have hdl : (l.drop (c + 1)).length = m := by rw [List.length_drop]; omega
      have := tAny_seg (P := P) (Q := Q) (S := S) (c := c) (f := f) hf hx (Q' := Q) (x := false) (fuel := 0) (l.drop (c + 1)) (c + 1) _ a' w'
        (fun j hj => by rw [List.getElem?_drop]; simp) (by rw [List.length_drop, hsz]; omega) (hu.set (by omega)) (fun e => (by cases e)) (fun j h1 h2 => .inr rfl) (.inr (.inl (by omega))) hS' hh (fun a w listed hu hS hQ => tAny_nil (fun i hi d => by
          rw [hu.2 i hi d, List.length_drop]
          have : i < c + 1 + (l.length - (c + 1)) := by omega
          simp [this]) hQ)
      rw [hdl] at this; exact this
end
section
variable {P : Program} {τ : Tab} {w0 w : World} {N : Gh} {g gS : Gh} {st st' sq sq' : St} {nt : Nat} {a : Act}
theorem v_drawF {id : Nat} {Q : Exit → Act → World → Prop} {l : List Oper} (nb : Nat) (L A : List Nat) (c f : Nat) (of : Oper) (hm : P.follows .mixedOrders = true) (hchk : chk l.toArray (Region.before l.toArray) [] [] = true) (hx : chkX l.toArray (Region.before l.toArray) L A c f = true)
    (hcf : c < f) (hof : l[f]? = some of) (hfe : (of.after.all fun e => !Region.binds .any e || decide (e.on < c)) = true) (hLf : L.contains f = true) (H : Rel P w0 N nt st a w)
    (hb : (st.bx.take nb).all (fun x => low nb 0 4 x.2) = true)
    (k : ∀ gS, RelT P w0 N nt gS ⟨st.t.filter fun p => low nb 0 4 p.2.2, st.bx.take nb, st.fz, []⟩ st a w.drew →
      wpT P l.toArray (fun _ a w => (wpT P l.toArray (fun _ a w => wpT P l.toArray (fun _ a w => wpT P l.toArray Q (Mem gS) L A (l.drop (f + 1)) (f + 1) a w) (Mem gS) L A ((l.take f).drop c) c a w) (Mem gS) L A [of] f a w) ∧ wpT P l.toArray Q (Mem gS) L A (l.drop c) c a w) (Mem gS) L A (l.take c) 0 a w.drew) : (Code.region id l.toArray true).wp P Q a w := by
  obtain ⟨g, HI, hF⟩ := H
  have HI' := HI.drew
  have hc := HI'.loose.cut (nr := 0) (Nat.zero_le _) (Nat.zero_le _) hb
  have hgb : ∀ (i : Nat) x, (g.cut nb 0).bx[i]? = some x → g.bx[i]? = some x := fun i x hx => by
    have : (g.bx.take nb)[i]? = some x := hx
    rw [List.getElem?_take] at this
    split at this
    · exact this
    · cases this
  have hle : (g.cut nb 0).le g := ⟨fun _ _ _ h => h, fun i x hx => ⟨x, hgb i x hx, rfl, rfl⟩, fun i r hr => by simp [Gh.cut] at hr⟩
  have hbs : Bs (g.cut nb 0) g := fun i x hx => ⟨x, hgb i x hx, rfl, rfl, rfl⟩
  have HT : RelT P w0 N nt (g.cut nb 0) ⟨st.t.filter fun p => low nb 0 4 p.2.2, st.bx.take nb, st.fz, []⟩ st a w.drew :=
    ⟨hc.mem, by simp [Gh.cut], ⟨hF.sz, hF.df, fun p hp hg => by
      simp only [List.mem_filter] at hp
      exact (hF.t p hp.1 hg).low_ (d := 3) hp.2, fun p hp hg => hF.u p (List.mem_filter.1 hp).1 hg⟩, hc.br, g, HI', hF, hle, hbs⟩
  exact wp_region_F L A (Mem (g.cut nb 0)) c f of hm hchk hx hcf hof hfe hLf HT.mem (k _ HT)
/-- Only boxes that are there may be frozen. -/
theorem v_fz (H : Rel P w0 N nt st a w) : Rel P w0 N nt ⟨st.t, st.bx, st.fz.filter fun i => decide (i < st.bx.length), st.rw⟩ a w := by
  obtain ⟨g, HI, hF⟩ := H
  refine ⟨g, ⟨HI.mem, HI.fr, HI.br, fun i x hx hf => ?_, HI.wr, HI.wz⟩, ⟨hF.sz, hF.df, hF.t, hF.u⟩⟩
  have h1 := HI.fz i x hx hf
  have h2 := (List.getElem?_eq_some_iff.1 hx).1
  rw [HI.br.len] at h2
  simp only [List.mem_filter, decide_eq_true_eq]
  exact ⟨h1, h2⟩
/-- A slot seen as something that says less. -/
theorem v_sub (H : Rel P w0 N nt st a w) (d : Nat) {x y : AV} (hs : sub 4 x y) (hx : isAny x = false) (ht : ∀ az, x ≠ .tup az) (hd : find d st.t = some (none, x)) : Rel P w0 N nt ⟨nilT d y st.t, st.bx, st.fz, st.rw⟩ a w := by
  obtain ⟨g, HI, hF⟩ := H
  refine ⟨g, HI, hF.sz, hF.df, fun p hp hg => ?_, fun p hp hg => by rcases nilT_mem hp with h | h; (subst h; exact absurd trivial hg); exact hF.u p h hg⟩
  rcases nilT_mem hp with h | h
  · subst h
    have h1 : RV g x (a.tmps.getD d undef) := hF.t _ (find_mem hd) trivial
    exact ((h1.rv1 hx ht).sub_ hs).rv
  · exact hF.t p h hg
theorem RelT.toRel (H : RelT P w0 N nt gS sq st a w) : Rel P w0 N nt st a w := by
  obtain ⟨_, _, _, _, g, HI, hF, _⟩ := H
  exact ⟨g, HI, hF⟩
end
end Go.Proofs.Ytlagngkafllbiaa
