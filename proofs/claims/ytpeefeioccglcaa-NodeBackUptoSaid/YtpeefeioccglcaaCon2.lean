/- Contracts, continued: what is passed, calls, what a function hands back. -/
import Derived.Test.YtpeefeioccglcaaCon
set_option linter.unusedSimpArgs false
set_option linter.unusedVariables false
namespace Go.Proofs.Ytpeefeioccglcaa
open Go Go.RowKit
/-- Other numbers for boxes and rows (a row that has none is forgotten). -/
def ren (fb : Nat → Option Nat) (fr : Nat → Option Nat) : Nat → AV → AV
  | _, .bs l tok => .bs l (tok.bind fr)
  | _, .sl T es tok => .sl T es (tok.bind fr)
  | _, .bc l n tok => .bc l n (tok.bind fb)
  | _, .ptr i p => .ptr ((fb i).getD 0) p
  | _, .pti i p k => .pti ((fb i).getD 0) p k
  | _, .win i p o n => .win ((fb i).getD 0) p o n
  | d + 1, .st fs => .st (fs.map (ren fb fr d))
  | d + 1, .tup fs => .tup (fs.map (ren fb fr d))
  | _, a => a
def uses (fb : Nat → Option Nat) : Nat → AV → Bool
  | _, .v _ => true
  | _, .ba _ => true
  | _, .ref _ _ => true
  | _, .bs _ _ => true
  | _, .sl _ _ _ => true
  | _, .bc _ _ _ => true
  | _, .ptr i _ => (fb i).isSome
  | _, .pti i _ _ => (fb i).isSome
  | _, .win i _ _ _ => (fb i).isSome
  | d + 1, .st fs => fs.all (uses fb d)
  | d + 1, .tup fs => fs.all (uses fb d)
  | _, .any => true
  | _, _ => false
def allP (p : AV → AV → Prop) : List AV → List AV → Prop
  | [], [] => True
  | a :: l, b :: m => p a b ∧ allP p l m
  | _, _ => False
/-- A value seen as another one. -/
def sub : Nat → AV → AV → Prop
  | _, .v (.slice none 0 0), .bs l none => l = []
  | _, .v (.slice none 0 0), .sl _ es none => es = []
  | _, .bs l _, .bs l' none => l = l'
  | _, .bc l n _, .bs l' none => l.take n = l'
  | _, .bc l n _, .bc l' n' none => l = l' ∧ n = n'
  | _, .sl T es _, .sl T' es' none => T = T' ∧ es = es'
  | d + 1, .st fs, .st fs' => allP (sub d) fs fs'
  | _, a, b => a = b
theorem allP_refl {p : AV → AV → Prop} (h : ∀ a, p a a) : ∀ l : List AV, allP p l l
  | [] => trivial
  | a :: l => ⟨h a, allP_refl h l⟩
theorem sub_refl : ∀ (d : Nat) (a : AV), sub d a a := by
  intro d
  induction d with
  | zero => intro a; unfold sub; split <;> first | rfl | (rename_i heq; simp at heq; done) | (rename_i heq; cases heq <;> first | rfl | exact ⟨rfl, rfl⟩) | (rename_i h1 heq; cases h1)
  | succ d ih => intro a; unfold sub; split <;> first | rfl | (rename_i heq; simp at heq; done) | (rename_i heq; cases heq <;> first | rfl | exact ⟨rfl, rfl⟩) | (rename_i h1 heq; cases h1; cases heq; exact allP_refl ih _)
section
variable {P : Program} {τ : Tab} {w0 w w' : World} {N : Gh} {g g1 g2 : Gh} {st st' : St} {nt : Nat} {a : Act} {fb fr : Nat → Option Nat}
theorem RC.ren_ (hro : g2.ro = g1.ro) (hb : ∀ i j x, fb i = some j → g1.bx[i]? = some x → g2.bx[j]? = some x) (hr : ∀ i j x, fr i = some j → g1.rw[i]? = some x → g2.rw[j]? = some x) :
    ∀ {d : Nat} {T : Ty} {a : AV} {cs : List Value}, RC g1 T a cs → uses fb d a = true → RC g2 T (ren fb fr d a) cs := by
  have hbase : g2.base = g1.base := by simp [Gh.base, hro]
  have leaf : ∀ {T : Ty} {a : AV} {cs : List Value} (d : Nat), RC g1 T a cs → uses fb d a = true → (∀ fs, a ≠ .st fs) → RC g2 T (ren fb fr d a) cs := by
    intro T a cs d h hp hst
    cases h with
    | v h => rw [show ren fb fr d (.v _) = .v _ from by cases d <;> rfl]; exact .v h
    | ba h => rw [show ren fb fr d (.ba _) = .ba _ from by cases d <;> rfl]; exact .ba h
    | nl => exact absurd rfl (hst _)
    | cn h hs => exact absurd rfl (hst _)
    | bs hc hm hr' ht =>
      rename_i l tok A c
      rw [show ren fb fr d (.bs l tok) = .bs l (tok.bind fr) from by cases d <;> rfl]
      refine .bs hc hm (by rw [hro]; exact hr') fun i hi => ?_
      obtain ⟨k, rfl, hk⟩ := Option.bind_eq_some_iff.1 hi
      obtain ⟨r, h1, h2⟩ := ht k rfl
      exact ⟨r, hr k i r hk h1, h2⟩
    | sl hc hm F hr' hv ht =>
      rename_i T es tok A c
      rw [show ren fb fr d (.sl T es tok) = .sl T es (tok.bind fr) from by cases d <;> rfl]
      refine .sl hc hm F (by rw [hro]; exact hr') (by rw [hbase]; exact hv) fun i hi => ?_
      obtain ⟨k, rfl, hk⟩ := Option.bind_eq_some_iff.1 hi
      obtain ⟨r, h1, h2⟩ := ht k rfl
      exact ⟨r, hr k i r hk h1, h2⟩
    | bc hn hm hr' ht =>
      rename_i l n tok A
      rw [show ren fb fr d (.bc l n tok) = .bc l n (tok.bind fb) from by cases d <;> rfl]
      refine .bc hn hm (by rw [hro]; exact hr') fun i hi => ?_
      obtain ⟨k, rfl, hk⟩ := Option.bind_eq_some_iff.1 hi
      obtain ⟨r, h1, h2⟩ := ht k rfl
      exact ⟨r, hb k i r hk h1, h2⟩
    | ref cs h hr' => rw [show ren fb fr d (.ref _ _) = .ref _ _ from by cases d <;> rfl]; exact .ref cs (by rw [hbase]; exact h) (by rw [hro]; exact hr')
    | ptr h ho =>
      rename_i i path x o T
      rw [show ren fb fr d (.ptr i path) = .ptr ((fb i).getD 0) path from by cases d <;> rfl]
      rw [show uses fb d (.ptr i path) = (fb i).isSome from by cases d <;> rfl] at hp
      obtain ⟨j, hj⟩ := Option.isSome_iff_exists.1 hp
      rw [hj]; exact .ptr (hb _ _ _ hj h) ho
    | pti h ho hk =>
      rename_i i path k x o n
      rw [show ren fb fr d (.pti i path k) = .pti ((fb i).getD 0) path k from by cases d <;> rfl]
      rw [show uses fb d (.pti i path k) = (fb i).isSome from by cases d <;> rfl] at hp
      obtain ⟨j, hj⟩ := Option.isSome_iff_exists.1 hp
      rw [hj]; exact .pti (hb _ _ _ hj h) ho hk
    | win h ho hn hc hm hA =>
      rename_i i path o1 n1 x o n c A
      rw [show ren fb fr d (.win i path o1 n1) = .win ((fb i).getD 0) path o1 n1 from by cases d <;> rfl]
      rw [show uses fb d (.win i path o1 n1) = (fb i).isSome from by cases d <;> rfl] at hp
      obtain ⟨j, hj⟩ := Option.isSome_iff_exists.1 hp
      rw [hj]; exact .win (hb _ _ _ hj h) ho hn hc hm hA
  intro d
  induction d with
  | zero =>
    intro T a cs h hp
    refine leaf 0 h hp fun fs e => ?_
    subst e; simp [uses] at hp
  | succ d ih =>
    have key : ∀ {T : Ty} {cs : List Value} {fs : List AV}, RC g1 T (.st fs) cs → fs.all (uses fb d) = true → RC g2 T (.st (fs.map (ren fb fr d))) cs := by
      intro T
      induction T with
      | cn T Ts _ ihs =>
        intro cs fs h hp
        cases h with
        | cn h hs =>
          simp only [List.all_cons, Bool.and_eq_true] at hp
          exact .cn (ih h hp.1) (ihs hs hp.2)
      | nl => intro cs fs h hp; cases h; exact .nl
      | _ => intro cs fs h hp; cases h
    intro T a cs h hp
    by_cases hst : ∃ fs, a = .st fs
    · obtain ⟨fs, rfl⟩ := hst; exact key h hp
    · exact leaf (d + 1) h hp fun fs e => hst ⟨fs, e⟩
theorem RV1.ren_ (hro : g2.ro = g1.ro) (hb : ∀ i j x, fb i = some j → g1.bx[i]? = some x → g2.bx[j]? = some x) (hr : ∀ i j x, fr i = some j → g1.rw[i]? = some x → g2.rw[j]? = some x) {d : Nat} {a : AV} {v : Value} (h : RV1 g1 a v) (hp : uses fb d a = true) : RV1 g2 (ren fb fr d a) v := by
  rcases h with ⟨T, cs, h1, h2, h3⟩ | h
  · exact .inl ⟨T, cs, h1, h2.ren_ hro hb hr hp, h3⟩
  · exact .inr (h.ren_ hro hb hr hp)
theorem RV.ren_ (hro : g2.ro = g1.ro) (hb : ∀ i j x, fb i = some j → g1.bx[i]? = some x → g2.bx[j]? = some x) (hr : ∀ i j x, fr i = some j → g1.rw[i]? = some x → g2.rw[j]? = some x) {d : Nat} {a : AV} {v : Value} (h : RV g1 a v) (hp : uses fb (d + 1) a = true) : RV g2 (ren fb fr (d + 1) a) v := by
  cases a with
  | any => trivial
  | tup az =>
    obtain ⟨vs, h1, h2, h3⟩ := h
    simp only [uses, List.all_eq_true] at hp
    refine ⟨vs, h1, by simpa using h2, fun i a u ha hu => ?_⟩
    rw [List.getElem?_map] at ha
    obtain ⟨x, hx, rfl⟩ := Option.map_eq_some_iff.1 ha
    exact (h3 i x u hx hu).ren_ hro hb hr (hp x (List.mem_of_getElem? hx))
  | _ => exact (RV1.ren_ hro hb hr (d := d + 1) (show RV1 g1 _ v from h) hp).rv
theorem RC.nil1 {l : List UInt8} (h : l = []) : RC g .sc (.bs l none) [.slice none 0 0] := by
  subst h; exact RC.bs (l := []) (A := none) (c := 0) (by simp) (by simp [maxLen]) (.inl rfl) fun i hi => by cases hi
theorem RC.nil2 {T : Ty} {es : List AV} (h : es = []) : RC g .sc (.sl T es none) [.slice none 0 0] := by
  subst h; exact RC.sl (es := []) (A := none) (c := 0) (by simp) (by simp [maxLen]) (fun _ => []) (.inl rfl) (fun k hk => absurd hk (by simp)) fun i hi => by cases hi
theorem RC.sub_ : ∀ {d : Nat} {T : Ty} {a b : AV} {cs : List Value}, RC g T a cs → sub d a b → RC g T b cs := by
  intro d
  induction d with
  | zero =>
    intro T a b cs h hs
    unfold sub at hs
    split at hs
    · cases h; exact .nil1 hs
    · cases h; exact .nil2 hs
    · subst hs; cases h with | bs hc hm hr ht => exact .bs hc hm hr fun i hi => by cases hi
    · subst hs; cases h with | bc hn hm hr ht => exact RC.asb hn hm hr
    · obtain ⟨rfl, rfl⟩ := hs; cases h with | bc hn hm hr ht => exact .bc hn hm hr fun i hi => by cases hi
    · obtain ⟨rfl, rfl⟩ := hs; cases h with | sl hc hm F hr hv ht => exact .sl hc hm F hr hv fun i hi => by cases hi
    · rename_i heq; exact absurd heq (by simp)
    · subst hs; exact h
  | succ d ih =>
    have key : ∀ {T : Ty} {cs : List Value} {fs fs' : List AV}, RC g T (.st fs) cs → allP (sub d) fs fs' → RC g T (.st fs') cs := by
      intro T
      induction T with
      | cn T Ts _ ihs =>
        intro cs fs fs' h hp
        cases h with
        | cn h hs =>
          cases fs' with
          | nil => exact hp.elim
          | cons b m => exact .cn (ih h hp.1) (ihs hs hp.2)
      | nl => intro cs fs fs' h hp; cases h; cases fs' with | nil => exact .nl | cons b m => exact hp.elim
      | _ => intro cs fs fs' h hp; cases h
    intro T a b cs h hs
    unfold sub at hs
    split at hs
    · cases h; exact .nil1 hs
    · cases h; exact .nil2 hs
    · subst hs; cases h with | bs hc hm hr ht => exact .bs hc hm hr fun i hi => by cases hi
    · subst hs; cases h with | bc hn hm hr ht => exact RC.asb hn hm hr
    · obtain ⟨rfl, rfl⟩ := hs; cases h with | bc hn hm hr ht => exact .bc hn hm hr fun i hi => by cases hi
    · obtain ⟨rfl, rfl⟩ := hs; cases h with | sl hc hm F hr hv ht => exact .sl hc hm F hr hv fun i hi => by cases hi
    · rename_i heq; cases heq; exact key h hs
    · subst hs; exact h
theorem RV1.sub_ {d : Nat} {a b : AV} {v : Value} (h : RV1 g a v) (hs : sub d a b) : RV1 g b v := by
  rcases h with ⟨T, cs, h1, h2, h3⟩ | h
  · exact .inl ⟨T, cs, h1, h2.sub_ hs, h3⟩
  · exact .inr (h.sub_ hs)
theorem RV.rv1 {a : AV} {v : Value} (h : RV g a v) (h1 : isAny a = false) (h2 : ∀ az, a ≠ .tup az) : RV1 g a v := by
  cases a with
  | any => simp [isAny] at h1
  | tup az => exact absurd rfl (h2 az)
  | _ => exact h
/-- Some boxes and rows, in an order of their own. -/
def Gh.pick (g : Gh) (js ks : List Nat) : Gh := ⟨g.ro, js.filterMap (g.bx[·]?), ks.filterMap (g.rw[·]?)⟩
theorem pick_get {α : Type} {l : List α} : ∀ {js : List Nat}, (∀ j ∈ js, j < l.length) → ∀ i : Nat, (js.filterMap (l[·]?))[i]? = (js[i]?).bind (l[·]?)
  | [], _, i => by simp
  | j :: js, h, i => by
    have hj := h j List.mem_cons_self
    rw [List.filterMap_cons, List.getElem?_eq_getElem hj]
    cases i with
    | zero => simp [List.getElem?_eq_getElem hj]
    | succ i => simpa using pick_get (fun k hk => h k (List.mem_cons_of_mem _ hk)) i
def idx? (ks : List Nat) (i : Nat) : Option Nat := if ks.contains i then some (ks.idxOf i) else none
theorem idx_get {js : List Nat} {i : Nat} (h : i ∈ js) : js[js.idxOf i]? = some i := by
  have := List.idxOf_lt_length_of_mem h
  rw [List.getElem?_eq_getElem this]; simp
def pickB (js ks : List Nat) (bx : List (Ty × AV)) : List (Ty × AV) := js.filterMap fun j => (bx[j]?).map fun x => (x.1, ren (idx? js) (idx? ks) 4 x.2)
def bxs : List (Ty × AV) → List (Ty × AV) → Prop
  | [], [] => True
  | a :: l, b :: m => (a.1 = b.1 ∧ sub 4 a.2 b.2) ∧ bxs l m
  | _, _ => False
theorem bxs_get : ∀ {l m : List (Ty × AV)}, bxs l m → l.length = m.length ∧ ∀ (i : Nat) T b, m[i]? = some (T, b) → ∃ a, l[i]? = some (T, a) ∧ sub 4 a b
  | [], [], _ => ⟨rfl, fun i T b h => by simp at h⟩
  | a :: l, b :: m, h => by
    obtain ⟨h1, h2⟩ := bxs_get h.2
    refine ⟨by simp [h1], fun i T c hc => ?_⟩
    cases i with
    | zero => simp at hc; subst hc; exact ⟨a.2, by have := h.1.1; obtain ⟨a1, a2⟩ := a; simp at this ⊢; exact this, h.1.2⟩
    | succ i => simpa using h2 i T c (by simpa using hc)
theorem RC.pick_ {js ks : List Nat} (hj : ∀ j ∈ js, j < g.bx.length) (hk : ∀ k ∈ ks, k < g.rw.length) {d : Nat} {T : Ty} {a : AV} {cs : List Value} (h : RC g T a cs) (hu : uses (idx? js) d a = true) : RC (g.pick js ks) T (ren (idx? js) (idx? ks) d a) cs := by
  refine h.ren_ (g1 := g) (g2 := g.pick js ks) rfl (fun i j x hi hx => ?_) (fun i j x hi hx => ?_) hu
  · unfold idx? at hi
    split at hi
    · rename_i hc
      have hm : i ∈ js := by simpa using hc
      injection hi with hi; subst hi
      show (js.filterMap (g.bx[·]?))[_]? = _
      rw [pick_get hj, idx_get hm]; exact hx
    · cases hi
  · unfold idx? at hi
    split at hi
    · rename_i hc
      have hm : i ∈ ks := by simpa using hc
      injection hi with hi; subst hi
      show (ks.filterMap (g.rw[·]?))[_]? = _
      rw [pick_get hk, idx_get hm]; exact hx
    · cases hi
theorem RV.pick_ {js ks : List Nat} (hj : ∀ j ∈ js, j < g.bx.length) (hk : ∀ k ∈ ks, k < g.rw.length) {d : Nat} {a : AV} {v : Value} (h : RV g a v) (hu : uses (idx? js) (d + 1) a = true) : RV (g.pick js ks) (ren (idx? js) (idx? ks) (d + 1) a) v := by
  refine h.ren_ (g1 := g) (g2 := g.pick js ks) rfl (fun i j x hi hx => ?_) (fun i j x hi hx => ?_) hu
  · unfold idx? at hi
    split at hi
    · rename_i hc
      have hm : i ∈ js := by simpa using hc
      injection hi with hi; subst hi
      show (js.filterMap (g.bx[·]?))[_]? = _
      rw [pick_get hj, idx_get hm]; exact hx
    · cases hi
  · unfold idx? at hi
    split at hi
    · rename_i hc
      have hm : i ∈ ks := by simpa using hc
      injection hi with hi; subst hi
      show (ks.filterMap (g.rw[·]?))[_]? = _
      rw [pick_get hk, idx_get hm]; exact hx
    · cases hi
theorem nodup_get {js : List Nat} (h : js.Nodup) {i j k : Nat} (h1 : js[i]? = some k) (h2 : js[j]? = some k) : i = j := by
  obtain ⟨a1, b1⟩ := List.getElem?_eq_some_iff.1 h1
  obtain ⟨a2, b2⟩ := List.getElem?_eq_some_iff.1 h2
  have hp := List.pairwise_iff_getElem.1 h
  rcases Nat.lt_trichotomy i j with e | e | e
  · exact absurd (b1.trans b2.symm) (hp i j a1 a2 e)
  · exact e
  · exact absurd (b2.trans b1.symm) (hp j i a2 a1 e)
theorem Inv.pick {bx bx2 : List (Ty × AV)} {fz fz2 : List Nat} {rw_ rw2 : List (TypeId × Nat)} (h : Inv P w0 N g bx fz rw_ w) (js ks : List Nat) (hj : ∀ j ∈ js, j < bx.length) (hk : ∀ k ∈ ks, k < rw_.length) (nj : js.Nodup) (nk : ks.Nodup)
    (hu : ∀ j ∈ js, ∀ x, bx[j]? = some x → uses (idx? js) 4 x.2 = true) (hb : bxs (pickB js ks bx) bx2) (hf : ∀ i j, js[i]? = some j → j ∈ fz → i ∈ fz2) (hr : ks.filterMap (rw_[·]?) = rw2)
    {w1 : World} {N1 : Gh} (hfr : Fr w1 N1 (g.pick js ks) w) : Inv P w1 N1 (g.pick js ks) bx2 fz2 rw2 w := by
  have hj' : ∀ j ∈ js, j < g.bx.length := fun j hm => by rw [h.br.len]; exact hj j hm
  have hk' : ∀ k ∈ ks, k < g.rw.length := fun k hm => by have := hk k hm; rw [← h.wr, List.length_map] at this; exact this
  have gb : ∀ {i : Nat} {x : Bx}, (g.pick js ks).bx[i]? = some x → ∃ j, js[i]? = some j ∧ g.bx[j]? = some x := fun {i x} hx => by
    have hx' : (js.filterMap (g.bx[·]?))[i]? = some x := hx
    rw [pick_get hj'] at hx'
    exact Option.bind_eq_some_iff.1 hx'
  have gr : ∀ {i : Nat} {x : Rw}, (g.pick js ks).rw[i]? = some x → ∃ j, ks[i]? = some j ∧ g.rw[j]? = some x := fun {i x} hx => by
    have hx' : (ks.filterMap (g.rw[·]?))[i]? = some x := hx
    rw [pick_get hk'] at hx'
    exact Option.bind_eq_some_iff.1 hx'
  refine ⟨⟨h.mem.ro, fun i x hx => ?_, fun i x hx => ?_, fun i x hx => ?_, fun i x hx => ?_, fun i j x y hx hy he => ?_, fun i r k hr' => ?_, fun i r k hr' => ?_, fun i j x r hx hr' => ?_, fun i j r s k hr' hs h1 h2 => ?_⟩, hfr, ⟨?_, fun i T b hi => ?_⟩, fun i x hx hxf => ?_, ?_, fun r hm => ?_⟩
  · obtain ⟨j, _, h2⟩ := gb hx; exact h.mem.bx j x h2
  · obtain ⟨j, _, h2⟩ := gr hx; exact h.mem.rw j x h2
  · obtain ⟨j, _, h2⟩ := gb hx; exact h.mem.fro j x h2
  · obtain ⟨j, _, h2⟩ := gb hx; exact h.mem.bro j x h2
  · obtain ⟨k, h1, h2⟩ := gb hx; obtain ⟨l, h3, h4⟩ := gb hy
    have := h.mem.bb k l x y h2 h4 he; subst this
    exact nodup_get nj h1 h3
  · obtain ⟨j, _, h2⟩ := gr hr'; exact h.mem.rro j r k h2
  · obtain ⟨j, _, h2⟩ := gr hr'; exact h.mem.rwo j r k h2
  · obtain ⟨k, _, h2⟩ := gb hx; obtain ⟨l, _, h4⟩ := gr hr'; exact h.mem.rb k l x r h2 h4
  · obtain ⟨m, e1, e2⟩ := gr hr'; obtain ⟨l, e3, e4⟩ := gr hs
    have := h.mem.rr m l r s k e2 e4 h1 h2; subst this
    exact nodup_get nk e1 e3
  · have hlen : ∀ js : List Nat, (∀ j ∈ js, j < bx.length) → (js.filterMap (g.bx[·]?)).length = js.length ∧ ∀ f : Ty × AV → Ty × AV, (js.filterMap fun j => (bx[j]?).map f).length = js.length := by
      intro js
      induction js with
      | nil => intro _; exact ⟨rfl, fun _ => rfl⟩
      | cons j js ih =>
        intro hj
        have h1 := hj j List.mem_cons_self
        obtain ⟨e1, e2⟩ := ih fun k hk => hj k (List.mem_cons_of_mem _ hk)
        have h2 : j < g.bx.length := by rw [h.br.len]; exact h1
        refine ⟨by rw [List.filterMap_cons, List.getElem?_eq_getElem h2]; simp [e1], fun f => ?_⟩
        rw [List.filterMap_cons, List.getElem?_eq_getElem h1]; simp [e2 f]
    show (js.filterMap (g.bx[·]?)).length = _
    rw [(hlen js hj).1, ← (bxs_get hb).1]
    exact ((hlen js hj).2 _).symm
  · obtain ⟨a, ha, hs⟩ := (bxs_get hb).2 i T b hi
    have hpb : ∀ (js : List Nat) (f : Ty × AV → Ty × AV), (∀ j ∈ js, j < bx.length) → ∀ i : Nat, (js.filterMap fun j => (bx[j]?).map f)[i]? = (js[i]?).bind fun j => (bx[j]?).map f := by
      intro js f
      induction js with
      | nil => intro _ i; simp
      | cons j js ih =>
        intro hj i
        have h1 := hj j List.mem_cons_self
        rw [List.filterMap_cons, List.getElem?_eq_getElem h1]
        cases i with
        | zero => simp [List.getElem?_eq_getElem h1]
        | succ i => simpa using ih (fun k hk => hj k (List.mem_cons_of_mem _ hk)) i
    unfold pickB at ha
    rw [hpb js _ hj] at ha
    obtain ⟨j, hji, hx⟩ := Option.bind_eq_some_iff.1 ha
    obtain ⟨x, hx1, hx2⟩ := Option.map_eq_some_iff.1 hx
    simp only [Prod.mk.injEq] at hx2
    obtain ⟨rfl, rfl⟩ := hx2
    obtain ⟨y, hy, hty, hrc⟩ := h.br.at_ j x.1 x.2 hx1
    have hjm : j ∈ js := List.mem_of_getElem? hji
    refine ⟨y, ?_, hty, (hrc.pick_ hj' hk' (hu j hjm x hx1)).sub_ hs⟩
    show (js.filterMap (g.bx[·]?))[i]? = _
    rw [pick_get hj', hji]; exact hy
  · obtain ⟨j, h1, h2⟩ := gb hx
    exact hf i j h1 (h.fz j x h2 hxf)
  · rw [← hr, ← h.wr]
    show (ks.filterMap (g.rw[·]?)).map _ = _
    rw [List.map_filterMap]
    congr 1
    funext k
    rw [List.getElem?_map]
  · obtain ⟨k, _, hk2⟩ := List.mem_filterMap.1 (show r ∈ ks.filterMap (g.rw[·]?) from hm)
    exact h.wz r (List.mem_of_getElem? hk2)
end
end Go.Proofs.Ytpeefeioccglcaa
