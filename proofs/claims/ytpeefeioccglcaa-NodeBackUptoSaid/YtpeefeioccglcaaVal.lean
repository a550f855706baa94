/- Values, up to where they lie in memory: what is known of a frame and of memory, without addresses. -/
import Derived.Test.YtpeefeioccglcaaBase
import Derived.Test.YtpeefeioccglcaaSeg
import Derived.Lib.Hide
set_option linter.unusedSimpArgs false
set_option linter.unusedVariables false
namespace Go.Proofs.Ytpeefeioccglcaa
open Go Go.RowKit

/-- How a type lies in cells: one cell, an array of bytes, a struct (or an array, element by element). -/
inductive Ty where
  | sc
  | ba (n : Nat)
  | nl
  | cn (a : Ty) (az : Ty)
  deriving DecidableEq
def Ty.size : Ty → Nat
  | .sc => 1
  | .ba n => n
  | .nl => 0
  | .cn a az => a.size + az.size
def Ty.agg : Ty → Bool
  | .sc => false
  | _ => true

/-- A value, up to addresses. -/
inductive AV where
  | v (x : Value)
  | ba (l : List UInt8)
  | st (fs : List AV)
  | bs (l : List UInt8) (tok : Option Nat)
  | sl (T : Ty) (es : List AV) (tok : Option Nat)
  | ptr (i : Nat) (path : List Nat)
  | pti (i : Nat) (path : List Nat) (k : Nat)
  | win (i : Nat) (path : List Nat) (o n : Nat)
  | bc (full : List UInt8) (n : Nat) (tok : Option Nat)
  | ref (T : Ty) (a : AV)
  | tup (az : List AV)
  | any

structure Bx where
  blk : Nat
  tid : TypeId
  ty : Ty
  cells : List Value
  fz : Bool
/-- A row that grows: its slice, its cells, its room (noughts). -/
structure Rw where
  tid : TypeId
  es : Nat
  zero : List Value
  v : Value
  n : Nat
  cx : List Value
  m : Nat
structure Gh where
  ro : Nat → Nat → Option Value
  bx : List Bx
  rw : List Rw

/-- Where a field lies. -/
def Ty.loc : Ty → List Nat → Option (Nat × Ty)
  | T, [] => some (0, T)
  | .cn a _, 0 :: p => a.loc p
  | .cn a az, (k + 1) :: p => (az.loc (k :: p)).map fun x => (a.size + x.1, x.2)
  | _, _ :: _ => none

/-- What stays for ever. -/
def Gh.base (g : Gh) : Gh := ⟨g.ro, [], []⟩
inductive RC : Gh → Ty → AV → List Value → Prop
  | v {g : Gh} {x : Value} (h : x.oneCell' = true) : RC g .sc (.v x) [x]
  | ba {g : Gh} {n : Nat} {l : List UInt8} (h : l.length = n) : RC g (.ba n) (.ba l) (l.map B8)
  | nl {g : Gh} : RC g .nl (.st []) []
  | cn {g : Gh} {T Ts : Ty} {a : AV} {az : List AV} {cs ds : List Value} (h : RC g T a cs) (hs : RC g Ts (.st az) ds) : RC g (.cn T Ts) (.st (a :: az)) (cs ++ ds)
  | bs {g : Gh} {l : List UInt8} {tok : Option Nat} {A : Option Addr} {c : Nat} (hc : l.length ≤ c) (hm : c ≤ maxLen)
      (hr : l = [] ∨ ∃ b o, A = some ⟨b, o, none⟩ ∧ ∀ j (h : j < l.length), g.ro b (o + j) = some (B8 l[j]))
      (ht : ∀ i, tok = some i → ∃ r, g.rw[i]? = some r ∧ l.length ≤ r.n ∧ (r.n = l.length → r.v = .slice A l.length c ∧ r.cx = l.map B8)) : RC g .sc (.bs l tok) [.slice A l.length c]
  | sl {g : Gh} {T : Ty} {es : List AV} {tok : Option Nat} {A : Option Addr} {c : Nat} (hc : es.length ≤ c) (hm : c ≤ maxLen) (F : Nat → List Value)
      (hr : es = [] ∨ ∃ b o, A = some ⟨b, o, none⟩ ∧ ∀ k, k < es.length → ∀ j u, (F k)[j]? = some u → g.ro b (o + k * T.size + j) = some u)
      (hv : ∀ k (h : k < es.length), RC g.base T es[k] (F k))
      (ht : ∀ i, tok = some i → ∃ r, g.rw[i]? = some r ∧ es.length ≤ r.n ∧ (r.n = es.length → r.v = .slice A es.length c ∧ r.cx = (List.range es.length).flatMap F)) : RC g .sc (.sl T es tok) [.slice A es.length c]
  | ptr {g : Gh} {i : Nat} {path : List Nat} {x : Bx} {o : Nat} {T : Ty} (h : g.bx[i]? = some x) (ho : x.ty.loc path = some (o, T)) : RC g .sc (.ptr i path) [.pointer (some ⟨x.blk, o, none⟩)]
  | pti {g : Gh} {i : Nat} {path : List Nat} {k : Nat} {x : Bx} {o n : Nat} (h : g.bx[i]? = some x) (ho : x.ty.loc path = some (o, .ba n)) (hk : k < n) : RC g .sc (.pti i path k) [.pointer (some ⟨x.blk, o + k, none⟩)]
  | win {g : Gh} {i : Nat} {path : List Nat} {o1 n1 : Nat} {x : Bx} {o n c : Nat} {A : Option Addr} (h : g.bx[i]? = some x) (ho : x.ty.loc path = some (o, .ba n)) (hn : o1 + c = n) (hc : n1 ≤ c) (hm : c ≤ maxLen)
      (hA : c = 0 ∨ A = some ⟨x.blk, o + o1, none⟩) : RC g .sc (.win i path o1 n1) [.slice A n1 c]
  | bc {g : Gh} {l : List UInt8} {n : Nat} {tok : Option Nat} {A : Option Addr} (hn : n ≤ l.length) (hm : l.length ≤ maxLen)
      (hr : l = [] ∨ ∃ b o, A = some ⟨b, o, none⟩ ∧ ∀ j (h : j < l.length), g.ro b (o + j) = some (B8 l[j]))
      (ht : ∀ i, tok = some i → ∃ x, g.bx[i]? = some x ∧ A = some ⟨x.blk, 0, none⟩ ∧ x.ty = .ba l.length) : RC g .sc (.bc l n tok) [.slice A n l.length]
  | ref {g : Gh} {T : Ty} {a : AV} {b o : Nat} (cs : List Value) (h : RC g.base T a cs) (hr : ∀ j u, cs[j]? = some u → g.ro b (o + j) = some u) : RC g .sc (.ref T a) [.pointer (some ⟨b, o, none⟩)]

theorem RC.size {g : Gh} {T : Ty} {a : AV} {cs : List Value} (h : RC g T a cs) : cs.length = T.size := by
  induction h with
  | ba h => simpa [Ty.size] using h
  | cn h hs ih1 ih2 => rw [List.length_append, ih1, ih2]; rfl
  | _ => rfl
theorem RC.one {g : Gh} {T : Ty} {a : AV} {cs : List Value} (h : RC g T a cs) : ∀ u ∈ cs, u.oneCell' = true := by
  induction h with
  | v h => intro u hu; simp at hu; subst hu; exact h
  | ba h => intro u hu; obtain ⟨x, _, rfl⟩ := List.mem_map.1 hu; rfl
  | nl => intro u hu; cases hu
  | cn h hs ih1 ih2 => intro u hu; rcases List.mem_append.1 hu with hu | hu; exact ih1 u hu; exact ih2 u hu
  | _ => intro u hu; simp at hu; subst hu; rfl

/-- More is known: old cells, old blocks stand; rows may have grown. -/
structure Gh.le (g g' : Gh) : Prop where
  ro : ∀ b o u, g.ro b o = some u → g'.ro b o = some u
  bx : ∀ (i : Nat) (x : Bx), g.bx[i]? = some x → ∃ x', g'.bx[i]? = some x' ∧ x'.blk = x.blk ∧ x'.ty = x.ty
  rw : ∀ (i : Nat) (r : Rw), g.rw[i]? = some r → ∃ r', g'.rw[i]? = some r' ∧ r'.tid = r.tid ∧ r'.es = r.es ∧ r'.zero = r.zero ∧ r.n ≤ r'.n ∧ (r'.n = r.n → r' = r)
theorem Gh.le.refl (g : Gh) : g.le g := ⟨fun _ _ _ h => h, fun _ x h => ⟨x, h, rfl, rfl⟩, fun _ r h => ⟨r, h, rfl, rfl, rfl, Nat.le_refl _, fun _ => rfl⟩⟩
theorem Gh.le.trans {a b c : Gh} (h : a.le b) (k : b.le c) : a.le c :=
  ⟨fun b o u hu => k.ro _ _ _ (h.ro _ _ _ hu),
   fun i x hx => by obtain ⟨y, hy, e1, e2⟩ := h.bx i x hx; obtain ⟨z, hz, e3, e4⟩ := k.bx i y hy; exact ⟨z, hz, e3.trans e1, e4.trans e2⟩,
   fun i r hr => by
     obtain ⟨s, hs, e1, e2, e3, e4, e5⟩ := h.rw i r hr; obtain ⟨t, ht, f1, f2, f3, f4, f5⟩ := k.rw i s hs
     refine ⟨t, ht, f1.trans e1, f2.trans e2, f3.trans e3, Nat.le_trans e4 f4, fun e => ?_⟩
     have h1 := f5 (by omega); have h2 := e5 (by omega); rw [h1, h2]⟩
/-- The boxes stand as they stood. -/
def Bs (g g' : Gh) : Prop := ∀ (i : Nat) (x : Bx), g.bx[i]? = some x → ∃ y, g'.bx[i]? = some y ∧ y.blk = x.blk ∧ y.tid = x.tid ∧ y.cells = x.cells
theorem Bs.refl (g : Gh) : Bs g g := fun _ x h => ⟨x, h, rfl, rfl, rfl⟩
theorem Bs.trans {a b c : Gh} (h : Bs a b) (k : Bs b c) : Bs a c := fun i x hx => by obtain ⟨y, h1, h2, h3, h4⟩ := h i x hx; obtain ⟨z, k1, k2, k3, k4⟩ := k i y h1; exact ⟨z, k1, k2.trans h2, k3.trans h3, k4.trans h4⟩
def Gh.lex (g g' : Gh) : Prop := g.le g' ∧ Bs g g'
theorem Gh.lex.trans {a b c : Gh} (h : a.lex b) (k : b.lex c) : a.lex c := ⟨h.1.trans k.1, h.2.trans k.2⟩
theorem Gh.lex.refl (g : Gh) : g.lex g := ⟨Gh.le.refl g, Bs.refl g⟩
theorem Gh.le.base {a b : Gh} (h : a.le b) : a.base.le b.base := ⟨h.ro, fun i x hx => by simp [Gh.base] at hx, fun i r hr => by simp [Gh.base] at hr⟩
theorem Gh.base_le (g : Gh) : g.base.le g := ⟨fun _ _ _ h => h, fun i x hx => by simp [Gh.base] at hx, fun i r hr => by simp [Gh.base] at hr⟩
theorem RC.mono_ {g : Gh} {T : Ty} {a : AV} {cs : List Value} (h : RC g T a cs) : ∀ {g' : Gh}, g.le g' → RC g' T a cs := by
  induction h with
  | v h => intro g' hg; exact .v h
  | ba h => intro g' hg; exact .ba h
  | nl => intro g' hg; exact .nl
  | cn h hs ih1 ih2 => intro g' hg; exact .cn (ih1 hg) (ih2 hg)
  | bs hc hm hr ht =>
    intro g' hg
    refine .bs hc hm ?_ fun i hi => ?_
    · rcases hr with h | ⟨b, o, hA, hj⟩
      · exact .inl h
      · exact .inr ⟨b, o, hA, fun j hj' => hg.ro _ _ _ (hj j hj')⟩
    · obtain ⟨r, h1, h5, h6⟩ := ht i hi
      obtain ⟨s, hs, e1, e2, e3, e4, e5⟩ := hg.rw i r h1
      refine ⟨s, hs, Nat.le_trans h5 e4, fun e => ?_⟩
      have hsr := e5 (by omega); subst hsr; exact h6 e
  | sl hc hm F hr hv ht ih =>
    intro g' hg
    refine .sl hc hm F ?_ (fun k hk => ih k hk hg.base) fun i hi => ?_
    · rcases hr with h | ⟨b, o, hA, hj⟩
      · exact .inl h
      · exact .inr ⟨b, o, hA, fun k hk j u hu => hg.ro _ _ _ (hj k hk j u hu)⟩
    · obtain ⟨r, h1, h3, h4⟩ := ht i hi
      obtain ⟨s, hs, e1, e2, e3, e4, e5⟩ := hg.rw i r h1
      refine ⟨s, hs, Nat.le_trans h3 e4, fun e => ?_⟩
      have hsr := e5 (by omega); subst hsr; exact h4 e
  | ptr h ho => intro g' hg; obtain ⟨y, hy, e1, e2⟩ := hg.bx _ _ h; rw [← e1]; exact .ptr hy (by rw [e2]; exact ho)
  | pti h ho hk => intro g' hg; obtain ⟨y, hy, e1, e2⟩ := hg.bx _ _ h; rw [← e1]; exact .pti hy (by rw [e2]; exact ho) hk
  | win h ho hn hc hm hA => intro g' hg; obtain ⟨y, hy, e1, e2⟩ := hg.bx _ _ h; exact .win hy (by rw [e2]; exact ho) hn hc hm (by rw [e1]; exact hA)
  | bc hn hm hr ht =>
    intro g' hg
    refine .bc hn hm ?_ fun i hi => ?_
    · rcases hr with h | ⟨b, o, hA, hj⟩
      · exact .inl h
      · exact .inr ⟨b, o, hA, fun j hj' => hg.ro _ _ _ (hj j hj')⟩
    · obtain ⟨x, h1, h2, h3⟩ := ht i hi
      obtain ⟨y, hy, e1, e2⟩ := hg.bx _ _ h1
      exact ⟨y, hy, by rw [e1]; exact h2, e2.trans h3⟩
  | ref cs h hr ih => intro g' hg; exact .ref cs (ih hg.base) fun j u hu => hg.ro _ _ _ (hr j u hu)
theorem RC.mono {g g' : Gh} (hg : g.le g') {T : Ty} {a : AV} {cs : List Value} (h : RC g T a cs) : RC g' T a cs := h.mono_ hg
/-- A value without what may still change. -/
def strip : Nat → AV → AV
  | _, .bs l _ => .bs l none
  | _, .sl T es _ => .sl T es none
  | _, .bc l n _ => .bc l n none
  | d + 1, .st fs => .st (fs.map (strip d))
  | _, a => a
def pure_ : Nat → AV → Bool
  | _, .v _ => true
  | _, .ba _ => true
  | _, .bs _ _ => true
  | _, .bc _ _ _ => true
  | _, .sl _ _ _ => true
  | _, .ref _ _ => true
  | d + 1, .st fs => fs.all (pure_ d)
  | _, _ => false
theorem RC.strip_ {g : Gh} : ∀ {d : Nat} {T : Ty} {a : AV} {cs : List Value}, RC g T a cs → pure_ d a = true → RC g.base T (strip d a) cs := by
  intro d
  induction d with
  | zero =>
    intro T a cs h hp
    cases h with
    | v h => exact .v h
    | ba h => exact .ba h
    | bs hc hm hr ht => exact .bs hc hm hr fun i hi => by cases hi
    | sl hc hm F hr hv ht => exact .sl hc hm F hr hv fun i hi => by cases hi
    | bc hn hm hr ht => exact .bc hn hm hr fun i hi => by cases hi
    | ref cs h hr => exact .ref cs h hr
    | _ => simp [pure_] at hp
  | succ d ih =>
    intro T a cs h
    have key : ∀ {T : Ty} {cs : List Value} {fs : List AV}, RC g T (.st fs) cs → fs.all (pure_ d) = true → RC g.base T (.st (fs.map (strip d))) cs := by
      intro T
      induction T with
      | cn T Ts _ ihs =>
        intro cs fs h hp
        cases h with
        | cn h hs =>
          simp only [List.all_cons, Bool.and_eq_true] at hp
          exact .cn (ih h hp.1) (ihs hs hp.2)
      | nl => intro cs fs h hp; cases h; exact .nl
      | _ => intro cs fs h hp; cases h
    intro hp
    cases h with
    | v h => exact .v h
    | ba h => exact .ba h
    | bs hc hm hr ht => exact .bs hc hm hr fun i hi => by cases hi
    | sl hc hm F hr hv ht => exact .sl hc hm F hr hv fun i hi => by cases hi
    | bc hn hm hr ht => exact .bc hn hm hr fun i hi => by cases hi
    | ref cs h hr => exact .ref cs h hr
    | nl => exact .nl
    | cn h hs => exact key (.cn h hs) hp
    | _ => simp [pure_] at hp

/-- The part at a place: read, and written. -/
def AV.loc : AV → List Nat → Option AV
  | a, [] => some a
  | .st fs, k :: p => match fs[k]? with | some f => f.loc p | none => none
  | _, _ :: _ => none
def AV.put : AV → List Nat → AV → AV
  | _, [], b => b
  | .st fs, k :: p, b => .st (match fs[k]? with | some f => fs.set k (f.put p b) | none => fs)
  | a, _ :: _, _ => a
theorem RC.lens {g : Gh} {T T' : Ty} {a : AV} {cs : List Value} : ∀ {path : List Nat} {o : Nat}, RC g T a cs → T.loc path = some (o, T') →
    ∃ a', a.loc path = some a' ∧ ∃ pre mid post, cs = pre ++ mid ++ post ∧ pre.length = o ∧ RC g T' a' mid ∧ ∀ b nid, RC g T' b nid → RC g T (a.put path b) (pre ++ nid ++ post)
  | [], o, h, ht => by
    simp only [Ty.loc, Option.some.injEq, Prod.mk.injEq] at ht
    obtain ⟨rfl, rfl⟩ := ht
    exact ⟨a, by cases a <;> rfl, [], cs, [], by simp, rfl, h, fun b nid hb => by simpa [AV.put] using hb⟩
  | 0 :: p, o, h, ht => by
    cases h with
    | cn h hs =>
      rename_i T1 Ts a1 az c1 d1
      simp only [Ty.loc] at ht
      obtain ⟨a', h1, pre, mid, post, rfl, h3, h4, h5⟩ := RC.lens (path := p) h ht
      refine ⟨a', by simpa [AV.loc] using h1, pre, mid, post ++ d1, by simp, h3, h4, fun b nid hb => ?_⟩
      have := RC.cn (h5 b nid hb) hs
      simpa [AV.put, List.append_assoc] using this
    | _ => simp [Ty.loc] at ht
  | (k + 1) :: p, o, h, ht => by
    cases h with
    | cn h hs =>
      rename_i T1 Ts a1 az c1 d1
      simp only [Ty.loc, Option.map_eq_some_iff] at ht
      obtain ⟨⟨o', T''⟩, hx, he⟩ := ht
      simp only [Prod.mk.injEq] at he
      obtain ⟨rfl, rfl⟩ := he
      obtain ⟨a', h1, pre, mid, post, rfl, h3, h4, h5⟩ := RC.lens (path := k :: p) hs hx
      refine ⟨a', by simpa [AV.loc] using h1, c1 ++ pre, mid, post, by simp, by rw [List.length_append, h.size, h3], h4, fun b nid hb => ?_⟩
      have := RC.cn h (h5 b nid hb)
      cases hk : az[k]? <;> simpa [AV.put, List.append_assoc, hk] using this
    | _ => simp [Ty.loc] at ht
termination_by path => path.sum + path.length
decreasing_by all_goals (simp only [List.sum_cons, List.length_cons]; omega)
end Go.Proofs.Ytpeefeioccglcaa
