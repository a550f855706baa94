/- A2: Val Rel Ghost Qop Eqv. -/
import Derived.Test.YtgffimanhmpohaaGreatA1
import Derived.Lib.Hide
import Derived.Laws.MakeOwn
import Derived.Laws.StructEq
set_option linter.unusedSimpArgs false
set_option linter.unusedVariables false
namespace Go.Proofs.YtgffimanhmpohaaGreat
open Go Go.RowKit
inductive Ty where
  | sc
  | ba (n : Nat)
  | nl
  | cn (a : Ty) (az : Ty)
  /-- a slice's own memory, which grows; a map -/
  | vc (e : Nat) (T : Ty)
  | mp (K V : Ty)
  deriving DecidableEq
def Ty.size : Ty → Nat
  | .sc => 1
  | .ba n => n
  | .nl => 0
  | .cn a az => a.size + az.size
  | .vc _ _ => 0
  | .mp _ _ => 0
def Ty.grows : Ty → Bool
  | .vc _ _ => true
  | .mp _ _ => true
  | _ => false
def Ty.agg : Ty → Bool
  | .sc => false
  | _ => true
inductive AV where
  | v (x : Value)
  | ba (l : List UInt8)
  | st (fs : List AV)
  | bs (l : List UInt8) (tok : Option Nat)
  | sl (T : Ty) (es : List AV) (tok : Option Nat)
  | ptr (i : Nat) (path : List Nat)
  | pti (i : Nat) (path : List Nat) (k : Nat)
  | win (i : Nat) (path : List Nat) (o n : Nat)
  | bc (full : List UInt8) (n : Nat) (tok : Option Nat)
  | ref (T : Ty) (a : AV)
  | tup (az : List AV)
  /-- what a box that grows holds: elements (or bytes), and how often it has grown; a slice of it, from the front; a place in it -/
  | vc (γ : Nat) (es : List AV)
  | vb (γ : Nat) (l : List UInt8)
  | vw (i γ n : Nat)
  | pv (i γ k : Nat) (path : List Nat)
  | mp (ks vs : List AV)
  | mr (i : Nat)
  /-- a slice that stays as it is, of n elements, with its room; a slice of a box that grows, whose room is known -/
  | slc (T : Ty) (es : List AV) (n : Nat)
  | vwc (i γ n k : Nat)
  | any
structure Bx where
  blk : Nat
  tid : TypeId
  ty : Ty
  cells : List Value
  fz : Bool
  gen : Nat
  cap : Nat
  off : Bool
  mp : Option (Array MapEntry × Nat)
structure Rw where
  tid : TypeId
  es : Nat
  zero : List Value
  v : Value
  n : Nat
  cx : List Value
  m : Nat
structure Gh where
  ro : Nat → Nat → Option Value
  bx : List Bx
  rw : List Rw
def Ty.loc : Ty → List Nat → Option (Nat × Ty)
  | .vc _ _, _ => none
  | .mp _ _, _ => none
  | T, [] => some (0, T)
  | .cn a _, 0 :: p => a.loc p
  | .cn a az, (k + 1) :: p => (az.loc (k :: p)).map fun x => (a.size + x.1, x.2)
  | _, _ :: _ => none
theorem Ty.loc_nil {T : Ty} (h : T.grows = false) : T.loc [] = some (0, T) := by cases T <;> first | rfl | cases h
theorem Ty.loc_grows {T : Ty} {p : List Nat} {r : Nat × Ty} (h : T.loc p = some r) : T.grows = false := by cases T <;> first | rfl | (unfold Ty.loc at h; cases h)
def mkV (T : Ty) (cs : List Value) : Value := if T.agg then .agg cs.toArray else cs.headD undef
def Gh.base (g : Gh) : Gh := ⟨g.ro, [], []⟩
inductive RC : Gh → Ty → AV → List Value → Prop
  | v {g : Gh} {x : Value} (h : x.oneCell' = true) : RC g .sc (.v x) [x]
  | ba {g : Gh} {n : Nat} {l : List UInt8} (h : l.length = n) : RC g (.ba n) (.ba l) (l.map B8)
  | nl {g : Gh} : RC g .nl (.st []) []
  | cn {g : Gh} {T Ts : Ty} {a : AV} {az : List AV} {cs ds : List Value} (h : RC g T a cs) (hs : RC g Ts (.st az) ds) : RC g (.cn T Ts) (.st (a :: az)) (cs ++ ds)
  | bs {g : Gh} {l : List UInt8} {tok : Option Nat} {A : Option Addr} {c : Nat} (hc : l.length ≤ c) (hm : c ≤ maxLen)
      (hr : l = [] ∨ ∃ b o, A = some ⟨b, o, none⟩ ∧ ∀ j (h : j < l.length), g.ro b (o + j) = some (B8 l[j]))
      (ht : ∀ i, tok = some i → ∃ r, g.rw[i]? = some r ∧ l.length ≤ r.n ∧ (r.n = l.length → r.v = .slice A l.length c ∧ r.cx = l.map B8)) : RC g .sc (.bs l tok) [.slice A l.length c]
  | sl {g : Gh} {T : Ty} {es : List AV} {tok : Option Nat} {A : Option Addr} {c : Nat} (hc : es.length ≤ c) (hm : c ≤ maxLen) (F : Nat → List Value)
      (hr : es = [] ∨ ∃ b o, A = some ⟨b, o, none⟩ ∧ ∀ k, k < es.length → ∀ j u, (F k)[j]? = some u → g.ro b (o + k * T.size + j) = some u)
      (hv : ∀ k (h : k < es.length), RC g.base T es[k] (F k))
      (ht : ∀ i, tok = some i → ∃ r, g.rw[i]? = some r ∧ es.length ≤ r.n ∧ (r.n = es.length → r.v = .slice A es.length c ∧ r.cx = (List.range es.length).flatMap F)) : RC g .sc (.sl T es tok) [.slice A es.length c]
  | ptr {g : Gh} {i : Nat} {path : List Nat} {x : Bx} {o : Nat} {T : Ty} (h : g.bx[i]? = some x) (ho : x.ty.loc path = some (o, T)) : RC g .sc (.ptr i path) [.pointer (some ⟨x.blk, o, none⟩)]
  | pti {g : Gh} {i : Nat} {path : List Nat} {k : Nat} {x : Bx} {o n : Nat} (h : g.bx[i]? = some x) (ho : x.ty.loc path = some (o, .ba n)) (hk : k < n) : RC g .sc (.pti i path k) [.pointer (some ⟨x.blk, o + k, none⟩)]
  | win {g : Gh} {i : Nat} {path : List Nat} {o1 n1 : Nat} {x : Bx} {o n c : Nat} {A : Option Addr} (h : g.bx[i]? = some x) (ho : x.ty.loc path = some (o, .ba n)) (hn : o1 + c = n) (hc : n1 ≤ c) (hm : c ≤ maxLen)
      (hA : c = 0 ∨ A = some ⟨x.blk, o + o1, none⟩) : RC g .sc (.win i path o1 n1) [.slice A n1 c]
  | bc {g : Gh} {l : List UInt8} {n : Nat} {tok : Option Nat} {A : Option Addr} (hn : n ≤ l.length) (hm : l.length ≤ maxLen)
      (hr : l = [] ∨ ∃ b o, A = some ⟨b, o, none⟩ ∧ ∀ j (h : j < l.length), g.ro b (o + j) = some (B8 l[j]))
      (ht : ∀ i, tok = some i → ∃ x, g.bx[i]? = some x ∧ A = some ⟨x.blk, 0, none⟩ ∧ x.ty = .ba l.length) : RC g .sc (.bc l n tok) [.slice A n l.length]
  | ref {g : Gh} {T : Ty} {a : AV} {b o : Nat} (cs : List Value) (h : RC g.base T a cs) (hr : ∀ j u, cs[j]? = some u → g.ro b (o + j) = some u) : RC g .sc (.ref T a) [.pointer (some ⟨b, o, none⟩)]
  | vw {g : Gh} {i γ n c e : Nat} {x : Bx} {T : Ty} {A : Option Addr} (h : g.bx[i]? = some x) (hT : x.ty = .vc e T) (hg : γ ≤ x.gen) (hn : n ≤ c) (hm : c ≤ maxLen)
      (hx : x.gen = γ → c = x.cap ∧ (x.off = true ∧ A = none ∨ x.off = false ∧ A = some ⟨x.blk, 0, none⟩)) : RC g .sc (.vw i γ n) [.slice A n c]
  | pv {g : Gh} {i γ k b o e : Nat} {path : List Nat} {x : Bx} {T T' : Ty} (h : g.bx[i]? = some x) (hT : x.ty = .vc e T) (hg : γ ≤ x.gen) (ho : T.loc path = some (o, T'))
      (hx : x.gen = γ → x.off = false ∧ k < x.cap ∧ b = x.blk) : RC g .sc (.pv i γ k path) [.pointer (some ⟨b, k * T.size + o, none⟩)]
  | mr {g : Gh} {i : Nat} {x : Bx} {K V : Ty} (h : g.bx[i]? = some x) (hT : x.ty = .mp K V) : RC g .sc (.mr i) [.map (some x.blk)]
  | slc {g : Gh} {T : Ty} {es : List AV} {n : Nat} {A : Option Addr} (hn : n ≤ es.length) (hm : es.length ≤ maxLen) (F : Nat → List Value)
      (hr : es = [] ∨ ∃ b o, A = some ⟨b, o, none⟩ ∧ ∀ k, k < es.length → ∀ j u, (F k)[j]? = some u → g.ro b (o + k * T.size + j) = some u)
      (hv : ∀ k (h : k < es.length), RC g.base T es[k] (F k)) : RC g .sc (.slc T es n) [.slice A n es.length]
  | vwc {g : Gh} {i γ n k : Nat} {v : Value} (h : RC g .sc (.vw i γ n) [v]) (hk : ∀ x, g.bx[i]? = some x → x.gen = γ → x.cap = k) : RC g .sc (.vwc i γ n k) [v]
theorem RC.size {g : Gh} {T : Ty} {a : AV} {cs : List Value} (h : RC g T a cs) : cs.length = T.size := by
  induction h with
  | ba h => simpa [Ty.size] using h
  | cn h hs ih1 ih2 => rw [List.length_append, ih1, ih2]; rfl
  | _ => rfl
theorem RC.one {g : Gh} {T : Ty} {a : AV} {cs : List Value} (h : RC g T a cs) : ∀ u ∈ cs, u.oneCell' = true := by
  induction h with
  | v h => intro u hu; simp at hu; subst hu; exact h
  | ba h => intro u hu; obtain ⟨x, _, rfl⟩ := List.mem_map.1 hu; rfl
  | nl => intro u hu; cases hu
  | cn h hs ih1 ih2 => intro u hu; rcases List.mem_append.1 hu with hu | hu; exact ih1 u hu; exact ih2 u hu
  | vwc h hk ih => exact ih
  | _ => intro u hu; simp at hu; subst hu; rfl
def Ty.isVc : Ty → Bool
  | .vc _ _ => true
  | _ => false
theorem Ty.isVc_of {T : Ty} (h : T.grows = false) : T.isVc = false := by cases T <;> first | rfl | cases h
theorem RC.grows {g : Gh} {T : Ty} {a : AV} {cs : List Value} (h : RC g T a cs) : T.grows = false := by cases h <;> rfl
theorem Bx.same (x : Bx) : x.ty = x.ty ∧ x.gen ≤ x.gen ∧ (x.gen = x.gen ∨ x.ty.isVc = false → x.blk = x.blk ∧ x.off = x.off ∧ x.cap = x.cap) := ⟨rfl, Nat.le_refl _, fun _ => ⟨rfl, rfl, rfl⟩⟩
structure Gh.le (g g' : Gh) : Prop where
  ro : ∀ b o u, g.ro b o = some u → g'.ro b o = some u
  bx : ∀ (i : Nat) (x : Bx), g.bx[i]? = some x → ∃ x', g'.bx[i]? = some x' ∧ x'.ty = x.ty ∧ x.gen ≤ x'.gen ∧ (x'.gen = x.gen ∨ x.ty.isVc = false → x'.blk = x.blk ∧ x'.off = x.off ∧ x'.cap = x.cap)
  rw : ∀ (i : Nat) (r : Rw), g.rw[i]? = some r → ∃ r', g'.rw[i]? = some r' ∧ r'.tid = r.tid ∧ r'.es = r.es ∧ r'.zero = r.zero ∧ r.n ≤ r'.n ∧ (r'.n = r.n → r' = r)
theorem Gh.le.refl (g : Gh) : g.le g := ⟨fun _ _ _ h => h, fun _ x h => ⟨x, h, x.same⟩, fun _ r h => ⟨r, h, rfl, rfl, rfl, Nat.le_refl _, fun _ => rfl⟩⟩
theorem Gh.le.trans {a b c : Gh} (h : a.le b) (k : b.le c) : a.le c :=
  ⟨fun b o u hu => k.ro _ _ _ (h.ro _ _ _ hu),
   fun i x hx => by
     obtain ⟨y, hy, e1, e2, e3⟩ := h.bx i x hx
     obtain ⟨z, hz, f1, f2, f3⟩ := k.bx i y hy
     refine ⟨z, hz, f1.trans e1, Nat.le_trans e2 f2, fun hh => ?_⟩
     obtain ⟨a1, a2, a3⟩ := e3 (hh.imp (fun e => by omega) id)
     obtain ⟨b1, b2, b3⟩ := f3 (hh.imp (fun e => by omega) (fun e => by rw [e1]; exact e))
     exact ⟨b1.trans a1, b2.trans a2, b3.trans a3⟩,
   fun i r hr => by
     obtain ⟨s, hs, e1, e2, e3, e4, e5⟩ := h.rw i r hr; obtain ⟨t, ht, f1, f2, f3, f4, f5⟩ := k.rw i s hs
     refine ⟨t, ht, f1.trans e1, f2.trans e2, f3.trans e3, Nat.le_trans e4 f4, fun e => ?_⟩
     have h1 := f5 (by omega); have h2 := e5 (by omega); rw [h1, h2]⟩
def Bs (g g' : Gh) : Prop := ∀ (i : Nat) (x : Bx), g.bx[i]? = some x → ∃ y, g'.bx[i]? = some y ∧ y.blk = x.blk ∧ y.tid = x.tid ∧ y.cells = x.cells ∧ y.off = x.off ∧ y.mp = x.mp
theorem Bs.refl (g : Gh) : Bs g g := fun _ x h => ⟨x, h, rfl, rfl, rfl, rfl, rfl⟩
theorem Bs.trans {a b c : Gh} (h : Bs a b) (k : Bs b c) : Bs a c := fun i x hx => by obtain ⟨y, h1, h2, h3, h4, h5, h6⟩ := h i x hx; obtain ⟨z, k1, k2, k3, k4, k5, k6⟩ := k i y h1; exact ⟨z, k1, k2.trans h2, k3.trans h3, k4.trans h4, k5.trans h5, k6.trans h6⟩
def Gh.lex (g g' : Gh) : Prop := g.le g' ∧ Bs g g'
theorem Gh.lex.trans {a b c : Gh} (h : a.lex b) (k : b.lex c) : a.lex c := ⟨h.1.trans k.1, h.2.trans k.2⟩
theorem Gh.lex.refl (g : Gh) : g.lex g := ⟨Gh.le.refl g, Bs.refl g⟩
theorem Gh.le.base {a b : Gh} (h : a.le b) : a.base.le b.base := ⟨h.ro, fun i x hx => by simp [Gh.base] at hx, fun i r hr => by simp [Gh.base] at hr⟩
theorem Gh.base_le (g : Gh) : g.base.le g := ⟨fun _ _ _ h => h, fun i x hx => by simp [Gh.base] at hx, fun i r hr => by simp [Gh.base] at hr⟩
theorem RC.mono_ {g : Gh} {T : Ty} {a : AV} {cs : List Value} (h : RC g T a cs) : ∀ {g' : Gh}, g.le g' → RC g' T a cs := by
  induction h with
  | v h => intro g' hg; exact .v h
  | ba h => intro g' hg; exact .ba h
  | nl => intro g' hg; exact .nl
  | cn h hs ih1 ih2 => intro g' hg; exact .cn (ih1 hg) (ih2 hg)
  | bs hc hm hr ht =>
    intro g' hg
    refine .bs hc hm ?_ fun i hi => ?_
    · rcases hr with h | ⟨b, o, hA, hj⟩
      · exact .inl h
      exact .inr ⟨b, o, hA, fun j hj' => hg.ro _ _ _ (hj j hj')⟩
    obtain ⟨r, h1, h5, h6⟩ := ht i hi
    obtain ⟨s, hs, e1, e2, e3, e4, e5⟩ := hg.rw i r h1
    refine ⟨s, hs, Nat.le_trans h5 e4, fun e => ?_⟩
    have hsr := e5 (by omega); subst hsr; exact h6 e
  | sl hc hm F hr hv ht ih =>
    intro g' hg
    refine .sl hc hm F ?_ (fun k hk => ih k hk hg.base) fun i hi => ?_
    · rcases hr with h | ⟨b, o, hA, hj⟩
      · exact .inl h
      exact .inr ⟨b, o, hA, fun k hk j u hu => hg.ro _ _ _ (hj k hk j u hu)⟩
    obtain ⟨r, h1, h3, h4⟩ := ht i hi
    obtain ⟨s, hs, e1, e2, e3, e4, e5⟩ := hg.rw i r h1
    refine ⟨s, hs, Nat.le_trans h3 e4, fun e => ?_⟩
    have hsr := e5 (by omega); subst hsr; exact h4 e
  | ptr h ho => intro g' hg; obtain ⟨y, hy, e2, _, e1⟩ := hg.bx _ _ h; have e1 := (e1 (.inr (Ty.isVc_of (Ty.loc_grows ho)))).1; rw [← e1]; exact .ptr hy (by rw [e2]; exact ho)
  | pti h ho hk => intro g' hg; obtain ⟨y, hy, e2, _, e1⟩ := hg.bx _ _ h; have e1 := (e1 (.inr (Ty.isVc_of (Ty.loc_grows ho)))).1; rw [← e1]; exact .pti hy (by rw [e2]; exact ho) hk
  | win h ho hn hc hm hA => intro g' hg; obtain ⟨y, hy, e2, _, e1⟩ := hg.bx _ _ h; have e1 := (e1 (.inr (Ty.isVc_of (Ty.loc_grows ho)))).1; exact .win hy (by rw [e2]; exact ho) hn hc hm (by rw [e1]; exact hA)
  | bc hn hm hr ht =>
    intro g' hg
    refine .bc hn hm ?_ fun i hi => ?_
    · rcases hr with h | ⟨b, o, hA, hj⟩
      · exact .inl h
      exact .inr ⟨b, o, hA, fun j hj' => hg.ro _ _ _ (hj j hj')⟩
    obtain ⟨x, h1, h2, h3⟩ := ht i hi
    obtain ⟨y, hy, e2, _, e1⟩ := hg.bx _ _ h1
    have e1 := (e1 (.inr (by rw [h3]; rfl))).1
    exact ⟨y, hy, by rw [e1]; exact h2, e2.trans h3⟩
  | ref cs h hr ih => intro g' hg; exact .ref cs (ih hg.base) fun j u hu => hg.ro _ _ _ (hr j u hu)
  | vw h hT hγ hn hm hx =>
    intro g' hg
    obtain ⟨y, hy, e1, e2, e3⟩ := hg.bx _ _ h
    refine .vw hy (e1.trans hT) (Nat.le_trans hγ e2) hn hm fun e => ?_
    have e4 : _ := hx (by omega)
    obtain ⟨f1, f2, f3⟩ := e3 (.inl (by omega))
    rw [f1, f2, f3]; exact e4
  | pv h hT hγ ho hx =>
    intro g' hg
    obtain ⟨y, hy, e1, e2, e3⟩ := hg.bx _ _ h
    refine .pv hy (e1.trans hT) (Nat.le_trans hγ e2) ho fun e => ?_
    have e4 : _ := hx (by omega)
    obtain ⟨f1, f2, f3⟩ := e3 (.inl (by omega))
    rw [f1, f2, f3]; exact e4
  | mr h hT => intro g' hg; obtain ⟨y, hy, e2, _, e1⟩ := hg.bx _ _ h; have e1 := (e1 (.inr (by rw [hT]; rfl))).1; rw [← e1]; exact .mr hy (e2.trans hT)
  | slc hn hm F hr hv ih =>
    intro g' hg
    refine .slc hn hm F ?_ fun k hk => ih k hk hg.base
    rcases hr with h | ⟨b, o, hA, hj⟩
    · exact .inl h
    exact .inr ⟨b, o, hA, fun k hk j u hu => hg.ro _ _ _ (hj k hk j u hu)⟩
  | vwc h hk ih =>
    intro g' hg
    refine .vwc (ih hg) fun y hy hgen => ?_
    cases h with
    | vw h hT hγ hn hm hx =>
      obtain ⟨y', hy', e1, e2, e3⟩ := hg.bx _ _ h
      rw [hy] at hy'; injection hy' with hy'; subst hy'
      have e4 := hk _ h (by omega)
      obtain ⟨_, _, f3⟩ := e3 (.inl (by omega))
      exact f3.trans e4
theorem RC.mono {g g' : Gh} (hg : g.le g') {T : Ty} {a : AV} {cs : List Value} (h : RC g T a cs) : RC g' T a cs := h.mono_ hg
def strip : Nat → AV → AV
  | _, .bs l _ => .bs l none
  | _, .sl T es _ => .sl T es none
  | _, .bc l n _ => .bc l n none
  | d + 1, .st fs => .st (fs.map (strip d))
  | _, a => a
def pure_ : Nat → AV → Bool
  | _, .v _ => true
  | _, .ba _ => true
  | _, .bs _ _ => true
  | _, .bc _ _ _ => true
  | _, .sl _ _ _ => true
  | _, .ref _ _ => true
  | _, .slc _ _ _ => true
  | d + 1, .st fs => fs.all (pure_ d)
  | _, _ => false
theorem RC.strip_ {g : Gh} : ∀ {d : Nat} {T : Ty} {a : AV} {cs : List Value}, RC g T a cs → pure_ d a = true → RC g.base T (strip d a) cs := by
  intro d
  induction d with
  | zero =>
    intro T a cs h hp
    cases h with
    | v h => exact .v h
    | ba h => exact .ba h
    | bs hc hm hr ht => exact .bs hc hm hr fun i hi => by cases hi
    | sl hc hm F hr hv ht => exact .sl hc hm F hr hv fun i hi => by cases hi
    | bc hn hm hr ht => exact .bc hn hm hr fun i hi => by cases hi
    | ref cs h hr => exact .ref cs h hr
    | slc hn hm F hr hv => exact .slc hn hm F hr hv
    | _ => simp [pure_] at hp
  | succ d ih =>
    intro T a cs h
    have key : ∀ {T : Ty} {cs : List Value} {fs : List AV}, RC g T (.st fs) cs → fs.all (pure_ d) = true → RC g.base T (.st (fs.map (strip d))) cs := by
      intro T
      induction T with
      | cn T Ts _ ihs =>
        intro cs fs h hp
        cases h with
        | cn h hs =>
          simp only [List.all_cons, Bool.and_eq_true] at hp
          exact .cn (ih h hp.1) (ihs hs hp.2)
      | nl => intro cs fs h hp; cases h; exact .nl
      | _ => intro cs fs h hp; cases h
    intro hp
    cases h with
    | v h => exact .v h
    | ba h => exact .ba h
    | bs hc hm hr ht => exact .bs hc hm hr fun i hi => by cases hi
    | sl hc hm F hr hv ht => exact .sl hc hm F hr hv fun i hi => by cases hi
    | bc hn hm hr ht => exact .bc hn hm hr fun i hi => by cases hi
    | ref cs h hr => exact .ref cs h hr
    | slc hn hm F hr hv => exact .slc hn hm F hr hv
    | nl => exact .nl
    | cn h hs => exact key (.cn h hs) hp
    | _ => simp [pure_] at hp
def AV.loc : AV → List Nat → Option AV
  | a, [] => some a
  | .st fs, k :: p => match fs[k]? with | some f => f.loc p | none => none
  | _, _ :: _ => none
def AV.put : AV → List Nat → AV → AV
  | _, [], b => b
  | .st fs, k :: p, b => .st (match fs[k]? with | some f => fs.set k (f.put p b) | none => fs)
  | a, _ :: _, _ => a
theorem RC.lens {g : Gh} {T T' : Ty} {a : AV} {cs : List Value} : ∀ {path : List Nat} {o : Nat}, RC g T a cs → T.loc path = some (o, T') →
    ∃ a', a.loc path = some a' ∧ ∃ pre mid post, cs = pre ++ mid ++ post ∧ pre.length = o ∧ RC g T' a' mid ∧ ∀ b nid, RC g T' b nid → RC g T (a.put path b) (pre ++ nid ++ post)
  | [], o, h, ht => by
    rw [Ty.loc_nil h.grows] at ht
    simp only [Option.some.injEq, Prod.mk.injEq] at ht
    obtain ⟨rfl, rfl⟩ := ht
    exact ⟨a, by cases a <;> rfl, [], cs, [], by simp, rfl, h, fun b nid hb => by simpa [AV.put] using hb⟩
  | 0 :: p, o, h, ht => by
    cases h with
    | cn h hs =>
      rename_i T1 Ts a1 az c1 d1
      simp only [Ty.loc] at ht
      obtain ⟨a', h1, pre, mid, post, rfl, h3, h4, h5⟩ := RC.lens (path := p) h ht
      refine ⟨a', by simpa [AV.loc] using h1, pre, mid, post ++ d1, by simp, h3, h4, fun b nid hb => ?_⟩
      have := RC.cn (h5 b nid hb) hs
      simpa [AV.put, List.append_assoc] using this
    | _ => simp [Ty.loc] at ht
  | (k + 1) :: p, o, h, ht => by
    cases h with
    | cn h hs =>
      rename_i T1 Ts a1 az c1 d1
      simp only [Ty.loc, Option.map_eq_some_iff] at ht
      obtain ⟨⟨o', T''⟩, hx, he⟩ := ht
      simp only [Prod.mk.injEq] at he
      obtain ⟨rfl, rfl⟩ := he
      obtain ⟨a', h1, pre, mid, post, rfl, h3, h4, h5⟩ := RC.lens (path := k :: p) hs hx
      refine ⟨a', by simpa [AV.loc] using h1, c1 ++ pre, mid, post, by simp, by rw [List.length_append, h.size, h3], h4, fun b nid hb => ?_⟩
      have := RC.cn h (h5 b nid hb)
      cases hk : az[k]? <;> simpa [AV.put, List.append_assoc, hk] using this
    | _ => simp [Ty.loc] at ht
termination_by path => path.sum + path.length
decreasing_by all_goals (simp only [List.sum_cons, List.length_cons]; omega)
structure Kept (w w' : World) (N : Nat → Prop) : Prop where
  os : w'.os = w.os
  tape : w'.tape = w.tape
  output : w'.output = w.output
  size : w.heap.size ≤ w'.heap.size
  block : ∀ k, k < w.heap.size → ¬ N k → w'.heap[k]? = w.heap[k]?
theorem Kept.refl (w : World) (N : Nat → Prop) : Kept w w N := ⟨rfl, rfl, rfl, Nat.le_refl _, fun _ _ _ => rfl⟩
theorem Kept.trans {a b c : World} {N M : Nat → Prop} (h : Kept a b N) (k : Kept b c M) (hM : ∀ i, i < a.heap.size → M i → N i) : Kept a c N :=
  ⟨k.os.trans h.os, k.tape.trans h.tape, k.output.trans h.output, Nat.le_trans h.size k.size, fun i hi hn => (k.block i (Nat.lt_of_lt_of_le hi h.size) (fun hm => hn (hM i hi hm))).trans (h.block i hi hn)⟩
theorem Kept.of_grown {a b : World} {N : Nat → Prop} {row : Option Nat} (h : a.grownBy b row) (hN : ∀ k, row = some k → N k) : Kept a b N := ⟨h.os, h.tape, h.output, h.size, fun k hk hn => h.block k hk (fun e => hn (hN k e.symm))⟩
theorem Kept.put {a b : World} {N : Nat → Prop} (h : Kept a b N) {g : Nat} (i : Nat) (u : Value) (hg : N g) : Kept a (b.setCell ⟨g, i, none⟩ u) N :=
  ⟨h.os, h.tape, h.output, by rw [World.size_setCell]; exact h.size, fun k hk hn => (heap_setCell_other b ⟨g, i, none⟩ k u (fun e => hn (by rw [e]; exact hg))).trans (h.block k hk hn)⟩
theorem Kept.row {a b : World} {N : Nat → Prop} (h : Kept a b N) {g : Nat} (cs : Array Value) (hg : a.heap.size ≤ g ∨ N g) : Kept a (b.setRow g cs) N :=
  ⟨h.os, h.tape, h.output, by rw [size_setRow]; exact h.size, fun k hk hn => (setRow_other b g k cs (fun e => by subst e; rcases hg with hg | hg; omega; exact hn hg)).trans (h.block k hk hn)⟩
theorem Kept.below {a b : World} {N : Nat → Prop} {B : Nat} (h : Kept a b N) (hB : B ≤ a.heap.size) (hN : ∀ k, k < B → ¬ N k) : Below B a b := ⟨h.os, h.tape, h.output, h.size, fun k hk => h.block k (by omega) (hN k hk)⟩
theorem Kept.none {a b : World} (h : Kept a b fun _ => False) : Below a.heap.size a b := h.below (Nat.le_refl _) fun _ _ => id
theorem Blk.kept {w w' : World} {g : Nat} {t : TypeId} {cs : Array Value} {N : Nat → Prop} (h : Blk w g t cs) (k : Kept w w' N) (hN : ¬ N g) : Blk w' g t cs := (k.block g h.lt hN).trans h
theorem Own.slice {α : Type} {E : El α} {w : World} {base : Nat} {v : Value} {xs sp : List α} (h : Own E w base v xs sp) : ∃ A n c, v = .slice A n c := by
  obtain ⟨A, hv, _⟩ := h.form; exact ⟨A, _, _, hv⟩
theorem Blk.heap {w W : World} {g : Nat} {t : TypeId} {cs : Array Value} (h : Blk w g t cs) (e : W.heap = w.heap) : Blk W g t cs := by unfold Blk at *; rw [e]; exact h
def noughts (r : Rw) : List Value := (List.replicate r.m r.zero).flatten
structure Row (w : World) (r : Rw) : Prop where
  pos : 0 < r.es
  zl : r.zero.length = r.es
  one : ∀ u ∈ r.cx ++ r.zero, u.oneCell' = true
  len : r.cx.length = r.n * r.es
  at_ : (r.v = .slice none 0 0 ∧ r.n = 0 ∧ r.m = 0) ∨ ∃ k, r.v = .slice (some ⟨k, 0, none⟩) r.n (r.n + r.m) ∧ Blk w k r.tid (r.cx ++ noughts r).toArray ∧ r.n + r.m ≤ maxLen
structure Bx.On (x : Bx) (w : World) : Prop where
  c : x.mp = none → Blk w x.blk x.tid x.cells.toArray
  m : ∀ e, x.mp = some e → w.heap[x.blk]? = some (.map e.1 e.2)
theorem Bx.On.lt {x : Bx} {w : World} (h : x.On w) : x.blk < w.heap.size := by
  cases e : x.mp with
  | none => exact (h.c e).lt
  | some m => exact (Array.getElem?_eq_some_iff.1 (h.m m e)).1
theorem Bx.On.keep {x : Bx} {w w' : World} (h : x.On w) (hk : w'.heap[x.blk]? = w.heap[x.blk]?) : x.On w' := ⟨fun e => hk.trans (h.c e), fun m e => hk.trans (h.m m e)⟩
theorem Bx.On.of {x : Bx} {w : World} (hm : x.mp = none) (h : Blk w x.blk x.tid x.cells.toArray) : x.On w := ⟨fun _ => h, fun m e => by rw [hm] at e; cases e⟩
structure Mem (g : Gh) (w : World) : Prop where
  ro : ∀ b o u, g.ro b o = some u → w.cell? ⟨b, o, none⟩ = some u
  bx : ∀ (i : Nat) (x : Bx), g.bx[i]? = some x → x.off = false → x.On w
  offc : ∀ (i : Nat) (x : Bx), g.bx[i]? = some x → x.off = true → x.cells = []
  mpc : ∀ (i : Nat) (x : Bx), g.bx[i]? = some x → x.mp.isSome = true → x.cells = []
  rw : ∀ (i : Nat) (r : Rw), g.rw[i]? = some r → Row w r
  fro : ∀ (i : Nat) (x : Bx), g.bx[i]? = some x → x.fz = true → ∀ o u, x.cells[o]? = some u → g.ro x.blk o = some u
  bro : ∀ (i : Nat) (x : Bx), g.bx[i]? = some x → x.off = false → x.fz = false → ∀ o, g.ro x.blk o = none
  bb : ∀ (i j : Nat) (x y : Bx), g.bx[i]? = some x → g.bx[j]? = some y → x.off = false → y.off = false → x.blk = y.blk → i = j
  rro : ∀ (i : Nat) (r : Rw) (k : Nat), g.rw[i]? = some r → r.v.ownBlock = some k → ∀ o, r.n * r.es ≤ o → g.ro k o = none
  rwo : ∀ (i : Nat) (r : Rw) (k : Nat), g.rw[i]? = some r → r.v.ownBlock = some k → ∀ o u, r.cx[o]? = some u → g.ro k o = some u
  rb : ∀ (i j : Nat) (x : Bx) (r : Rw), g.bx[i]? = some x → g.rw[j]? = some r → x.off = false → r.v.ownBlock ≠ some x.blk
  rr : ∀ (i j : Nat) (r s : Rw) (k : Nat), g.rw[i]? = some r → g.rw[j]? = some s → r.v.ownBlock = some k → s.v.ownBlock = some k → i = j
def Gh.has (N : Gh) (b : Nat) : Prop := (∃ x ∈ N.bx, x.off = false ∧ x.blk = b) ∨ ∃ r ∈ N.rw, r.v.ownBlock = some b
structure Fr (w0 : World) (N g : Gh) (w : World) : Prop where
  kept : Kept w0 w N.has
  bx : ∀ (i : Nat) (x : Bx), g.bx[i]? = some x → x.off = false → w0.heap.size ≤ x.blk ∨ ∃ y, N.bx[i]? = some y ∧ y.off = false ∧ y.blk = x.blk
  rw : ∀ (i : Nat) (r : Rw) (k : Nat), g.rw[i]? = some r → r.v.ownBlock = some k → w0.heap.size ≤ k ∨ ∃ s, N.rw[i]? = some s ∧ s.v.ownBlock = some k
  ro : ∀ b, b < w0.heap.size → ¬ N.has b → ∀ o, g.ro b o = N.ro b o
  le : N.le g
def RV1 (g : Gh) (a : AV) (v : Value) : Prop := (∃ T cs, T.agg = true ∧ RC g T a cs ∧ v = .agg cs.toArray) ∨ RC g .sc a [v]
def RV (g : Gh) : AV → Value → Prop
  | .any, _ => True
  | .tup az, v => ∃ vs : List Value, v = .tuple vs.toArray ∧ vs.length = az.length ∧ ∀ (i : Nat) a u, az[i]? = some a → vs[i]? = some u → RV1 g a u
  | a, v => RV1 g a v
theorem RV1.mono {g g' : Gh} (hg : g.le g') {a : AV} {v : Value} (h : RV1 g a v) : RV1 g' a v := by
  rcases h with ⟨T, cs, h1, h2, h3⟩ | h
  · exact .inl ⟨T, cs, h1, h2.mono hg, h3⟩
  exact .inr (h.mono hg)
theorem RV.mono {g g' : Gh} (hg : g.le g') {a : AV} {v : Value} (h : RV g a v) : RV g' a v := by
  cases a with
  | any => trivial
  | tup az => obtain ⟨vs, h1, h2, h3⟩ := h; exact ⟨vs, h1, h2, fun i a u ha hu => (h3 i a u ha hu).mono hg⟩
  | _ => exact RV1.mono hg h
theorem RV1.rv {g : Gh} {a : AV} {v : Value} (h : RV1 g a v) : RV g a v := by
  cases a with
  | any => trivial
  | tup az => rcases h with ⟨T, cs, _, h, _⟩ | h <;> cases h
  | _ => exact h
abbrev Gd := Option (Nat × Bool)
structure St where
  t : List (Nat × Gd × AV)
  bx : List (Ty × AV)
  fz : List Nat
  rw : List (TypeId × Nat)
def gholds (a : Act) : Gd → Prop
  | none => True
  | some (k, b) => a.tmps.getD k undef = .bool b
structure FR (g : Gh) (nt : Nat) (st : St) (a : Act) : Prop where
  sz : a.tmps.size = nt
  df : a.defers = []
  t : ∀ p ∈ st.t, gholds a p.2.1 → RV g p.2.2 (a.tmps.getD p.1 undef)
  u : ∀ p ∈ st.t, ¬ gholds a p.2.1 → a.tmps.getD p.1 undef = undef
def BC (g : Gh) (T : Ty) (a : AV) (x : Bx) : Prop :=
  (x.off = false ∧ x.mp = none ∧ RC g T a x.cells) ∨
  (∃ T' γ es F sp, (∃ e, T = .vc e T' ∧ x.tid = e) ∧ a = .vc γ es ∧ x.mp = none ∧ x.gen = γ ∧ 0 < T'.size ∧ (x.cap ≤ maxLen ∧ (x.off = true → x.cap = 0)) ∧ x.cells = (List.range es.length).flatMap F ++ sp ∧ x.cells.length = x.cap * T'.size ∧ (∀ u ∈ sp, u.oneCell' = true) ∧ ∀ k (h : k < es.length), RC g.base T' es[k] (F k)) ∨
  (∃ γ l l2, (∃ e, T = .vc e .sc ∧ x.tid = e) ∧ a = .vb γ l ∧ x.mp = none ∧ x.gen = γ ∧ (x.cap ≤ maxLen ∧ (x.off = true → x.cap = 0)) ∧ x.cells = (l ++ l2).map B8 ∧ x.cells.length = x.cap) ∨
  (∃ K V ks vs es clk, T = .mp K V ∧ a = .mp ks vs ∧ x.off = false ∧ x.mp = some (es, clk) ∧ x.cells = [] ∧ ks.length = es.size ∧ vs.length = es.size ∧
    (∀ k (h : k < es.size) (h1 : k < ks.length) (h2 : k < vs.length), ∃ cs ds, RC g.base K ks[k] cs ∧ es[k].key = mkV K cs ∧ RC g.base V vs[k] ds ∧ es[k].val = mkV V ds))
theorem BC.pl {g : Gh} {T : Ty} {a : AV} {x : Bx} (h : RC g T a x.cells) (ho : x.off = false) (hm : x.mp = none) : BC g T a x := .inl ⟨ho, hm, h⟩
theorem BC.mono {g g' : Gh} (hg : g.le g') {T : Ty} {a : AV} {x : Bx} (h : BC g T a x) : BC g' T a x := by
  rcases h with ⟨h1, h2, h⟩ | ⟨T', γ, es, F, sp, h1, h2, h3, h4, h5, h6, h7, h8, h9, h10⟩ | h | ⟨K, V, ks, vs, es, clk, h1, h2, h3, h4, h5, h6, h7, h8⟩
  · exact .inl ⟨h1, h2, h.mono hg⟩
  · exact .inr (.inl ⟨T', γ, es, F, sp, h1, h2, h3, h4, h5, h6, h7, h8, h9, fun k hk => (h10 k hk).mono hg.base⟩)
  · exact .inr (.inr (.inl h))
  exact .inr (.inr (.inr ⟨K, V, ks, vs, es, clk, h1, h2, h3, h4, h5, h6, h7, fun k hk k1 k2 => by
    obtain ⟨cs, ds, e1, e2, e3, e4⟩ := h8 k hk k1 k2
    exact ⟨cs, ds, e1.mono hg.base, e2, e3.mono hg.base, e4⟩⟩))
theorem BC.rc {g : Gh} {T : Ty} {a : AV} {x : Bx} (h : BC g T a x) (hg : T.grows = false) : x.off = false ∧ x.mp = none ∧ RC g T a x.cells := by
  rcases h with h | ⟨T', γ, es, F, sp, ⟨_, rfl, _⟩, _⟩ | ⟨γ, l, l2, ⟨_, rfl, _⟩, _⟩ | ⟨K, V, ks, vs, es, clk, rfl, _⟩
  · exact h
  all_goals cases hg
theorem BC.rc_of {g : Gh} {T : Ty} {a : AV} {x : Bx} (h : BC g T a x) (h1 : ∀ γ es, a ≠ .vc γ es) (h2 : ∀ γ l, a ≠ .vb γ l) (h3 : ∀ ks vs, a ≠ .mp ks vs) : x.off = false ∧ x.mp = none ∧ RC g T a x.cells := by
  rcases h with h | ⟨T', γ, es, F, sp, _, e, _⟩ | ⟨γ, l, l2, _, e, _⟩ | ⟨K, V, ks, vs, es, clk, _, e, _⟩
  · exact h
  · exact absurd e (h1 _ _)
  · exact absurd e (h2 _ _)
  exact absurd e (h3 _ _)
theorem BC.fzs {g : Gh} {T : Ty} {a : AV} {x : Bx} (h : BC g T a x) : BC g T a { x with fz := true } := h
structure BR (g : Gh) (bx : List (Ty × AV)) : Prop where
  len : g.bx.length = bx.length
  at_ : ∀ (i : Nat) T a, bx[i]? = some (T, a) → ∃ x, g.bx[i]? = some x ∧ x.ty = T ∧ BC g T a x
def zeroOf (P : Program) (t : TypeId) : List Value := match P.info? t with
  | some i => (match i.zero with | some z => z.cells.toList | none => [])
  | none => []
structure Inv (P : Program) (w0 : World) (N g : Gh) (bx : List (Ty × AV)) (fz : List Nat) (rw : List (TypeId × Nat)) (w : World) : Prop where
  mem : Mem g w
  fr : Fr w0 N g w
  br : BR g bx
  fz : ∀ (i : Nat) (x : Bx), g.bx[i]? = some x → x.fz = true → i ∈ fz
  wr : g.rw.map (fun r => (r.tid, r.n)) = rw
  wz : ∀ r ∈ g.rw, r.es = P.cellsOf r.tid ∧ r.zero = zeroOf P r.tid
def Rel (P : Program) (w0 : World) (N : Gh) (nt : Nat) (st : St) (a : Act) (w : World) : Prop :=
  ∃ g, Inv P w0 N g st.bx st.fz st.rw w ∧ FR g nt st a
def find (d : Nat) : List (Nat × Gd × AV) → Option (Gd × AV)
  | [] => none
  | (k, x) :: l => if k = d then some x else find d l
def St.tmp (st : St) (c : Gd) (d : Nat) : AV :=
  match find d st.t with
  | some (none, a) => a
  | some (some k, a) => if c = some k then a else .any
  | none => .any
def St.ev (st : St) (c : Gd) : Operand → AV
  | .const (.agg _) => .any
  | .const (.tuple _) => .any
  | .const v => .v v
  | .tmp d => st.tmp c d
  | .func f => .v (.func (.func f) #[] #[])
  | _ => .any
theorem find_mem {d : Nat} {x : Gd × AV} : ∀ {l : List (Nat × Gd × AV)}, find d l = some x → (d, x) ∈ l
  | (k, y) :: l, h => by
    unfold find at h
    split at h
    · rename_i e; subst e; injection h with h; subst h; exact List.mem_cons_self
    exact List.mem_cons_of_mem _ (find_mem h)
theorem RC.rvp {g : Gh} {a : AV} {u : Value} (h : RC g .sc a [u]) : RV g a u := (show RV1 g a u from .inr h).rv
theorem RV.v_of {g : Gh} {v : Value} (h : v.oneCell' = true) : RV g (.v v) v := (.inr (.v h) : RV1 g (.v v) v)
theorem tmp_sound {g : Gh} {nt : Nat} {st : St} {a : Act} (hF : FR g nt st a) {c : Gd} (hc : gholds a c) (d : Nat) : RV g (st.tmp c d) (a.tmps.getD d undef) := by
  unfold St.tmp
  split
  · rename_i y hf; exact hF.t _ (find_mem hf) trivial
  · rename_i k y hf
    split
    · rename_i e; subst e; exact hF.t _ (find_mem hf) hc
    trivial
  trivial
theorem ev_sound {g : Gh} {nt : Nat} {st : St} {a : Act} (hF : FR g nt st a) {c : Gd} (hc : gholds a c) (x : Operand) : RV g (st.ev c x) (a.eval x) := by
  cases x with
  | tmp d => exact tmp_sound hF hc d
  | const v => cases v <;> first | trivial | exact RV.v_of rfl
  | global g => trivial
  | func f => exact RV.v_of rfl
theorem RV.v_inv {g : Gh} {x u : Value} (h : RV g (.v x) u) : u = x := by
  rcases (show RV1 g (.v x) u from h) with ⟨T, cs, h1, h2, _⟩ | h
  · cases h2; simp [Ty.agg] at h1
  cases h; rfl
theorem RV.bs_inv {g : Gh} {l : List UInt8} {tok : Option Nat} {u : Value} (h : RV g (.bs l tok) u) : RC g .sc (.bs l tok) [u] := by
  rcases (show RV1 g (.bs l tok) u from h) with ⟨T, cs, h1, h2, _⟩ | h
  · cases h2; simp [Ty.agg] at h1
  exact h
theorem RV.sl_inv {g : Gh} {T : Ty} {es : List AV} {tok : Option Nat} {u : Value} (h : RV g (.sl T es tok) u) : RC g .sc (.sl T es tok) [u] := by
  rcases (show RV1 g (.sl T es tok) u from h) with ⟨T, cs, h1, h2, _⟩ | h
  · cases h2; simp [Ty.agg] at h1
  exact h
theorem RV.ptr_inv {g : Gh} {i : Nat} {p : List Nat} {u : Value} (h : RV g (.ptr i p) u) : RC g .sc (.ptr i p) [u] := by
  rcases (show RV1 g (.ptr i p) u from h) with ⟨T, cs, h1, h2, _⟩ | h
  · cases h2; simp [Ty.agg] at h1
  exact h
theorem RV.pti_inv {g : Gh} {i k : Nat} {p : List Nat} {u : Value} (h : RV g (.pti i p k) u) : RC g .sc (.pti i p k) [u] := by
  rcases (show RV1 g (.pti i p k) u from h) with ⟨T, cs, h1, h2, _⟩ | h
  · cases h2; simp [Ty.agg] at h1
  exact h
theorem RV.win_inv {g : Gh} {i o n : Nat} {p : List Nat} {u : Value} (h : RV g (.win i p o n) u) : RC g .sc (.win i p o n) [u] := by
  rcases (show RV1 g (.win i p o n) u from h) with ⟨T, cs, h1, h2, _⟩ | h
  · cases h2; simp [Ty.agg] at h1
  exact h
theorem RV.bc_inv {g : Gh} {l : List UInt8} {n : Nat} {tok : Option Nat} {u : Value} (h : RV g (.bc l n tok) u) : RC g .sc (.bc l n tok) [u] := by
  rcases (show RV1 g (.bc l n tok) u from h) with ⟨T, cs, h1, h2, _⟩ | h
  · cases h2; simp [Ty.agg] at h1
  exact h
theorem RV.ref_inv {g : Gh} {T : Ty} {a : AV} {u : Value} (h : RV g (.ref T a) u) : RC g .sc (.ref T a) [u] := by
  rcases (show RV1 g (.ref T a) u from h) with ⟨T, cs, h1, h2, _⟩ | h
  · cases h2; simp [Ty.agg] at h1
  exact h
theorem RV.vw_inv {g : Gh} {i γ n : Nat} {u : Value} (h : RV g (.vw i γ n) u) : RC g .sc (.vw i γ n) [u] := by
  rcases (show RV1 g (.vw i γ n) u from h) with ⟨T, cs, h1, h2, _⟩ | h
  · cases h2; simp [Ty.agg] at h1
  exact h
theorem RV.pv_inv {g : Gh} {i γ k : Nat} {p : List Nat} {u : Value} (h : RV g (.pv i γ k p) u) : RC g .sc (.pv i γ k p) [u] := by
  rcases (show RV1 g (.pv i γ k p) u from h) with ⟨T, cs, h1, h2, _⟩ | h
  · cases h2; simp [Ty.agg] at h1
  exact h
theorem RV.mr_inv {g : Gh} {i : Nat} {u : Value} (h : RV g (.mr i) u) : RC g .sc (.mr i) [u] := by
  rcases (show RV1 g (.mr i) u from h) with ⟨T, cs, h1, h2, _⟩ | h
  · cases h2; simp [Ty.agg] at h1
  exact h
theorem RV.ba_inv {g : Gh} {l : List UInt8} {u : Value} (h : RV g (.ba l) u) : u = .agg (l.map B8).toArray := by
  rcases (show RV1 g (.ba l) u from h) with ⟨T, cs, h1, h2, h3⟩ | h
  · cases h2; exact h3
  cases h
theorem RV.st_inv {g : Gh} {fs : List AV} {u : Value} (h : RV g (.st fs) u) : ∃ T cs, T.agg = true ∧ RC g T (.st fs) cs ∧ u = .agg cs.toArray := by
  rcases (show RV1 g (.st fs) u from h) with h | h
  · exact h
  cases h
section
variable {P : Program} {w0 w : World} {N : Gh} {g : Gh} {bx : List (Ty × AV)} {fz : List Nat} {rw_ : List (TypeId × Nat)}
theorem Mem.lt (h : Mem g w) {b o : Nat} {u : Value} (hr : g.ro b o = some u) : b < w.heap.size := by
  have := h.ro b o u hr
  unfold World.cell? at this
  cases hb : w.heap[b]? with
  | none => simp [hb] at this
  | some x => exact (Array.getElem?_eq_some_iff.1 hb).1
theorem Mem.ro_new (h : Mem g w) (o : Nat) : g.ro w.heap.size o = none := by
  cases hr : g.ro w.heap.size o with
  | none => rfl
  | some u => exact absurd (h.lt hr) (Nat.lt_irrefl _)
theorem Row.lt {r : Rw} (h : Row w r) {k : Nat} (hk : r.v.ownBlock = some k) : k < w.heap.size := by
  rcases h.at_ with ⟨e, _⟩ | ⟨j, e, hb, _⟩
  · rw [e] at hk; simp [Value.ownBlock] at hk
  rw [e] at hk; simp [Value.ownBlock] at hk; subst hk; exact hb.lt
theorem Row.keep {r : Rw} {w' : World} (h : Row w r) (hk : ∀ k, r.v.ownBlock = some k → w'.heap[k]? = w.heap[k]?) : Row w' r := by
  refine ⟨h.pos, h.zl, h.one, h.len, ?_⟩
  rcases h.at_ with e | ⟨k, e, hb, hm⟩
  · exact .inl e
  exact .inr ⟨k, e, (hk k (by rw [e]; rfl)).trans hb, hm⟩
theorem Inv.keep {w' : World} (h : Inv P w0 N g bx fz rw_ w) (hk : ∀ k, k < w.heap.size → w'.heap[k]? = w.heap[k]?) (hs : w.heap.size ≤ w'.heap.size) (ho : w'.os = w.os) (ht : w'.tape = w.tape) (hp : w'.output = w.output) : Inv P w0 N g bx fz rw_ w' where
  mem := {
    ro := fun b o u hr => (World.cell?_of_block (a := ⟨b, o, none⟩) (hk b (h.mem.lt hr))).trans (h.mem.ro b o u hr)
    bx := fun i x hx ho => (h.mem.bx i x hx ho).keep (hk _ (h.mem.bx i x hx ho).lt)
    offc := h.mem.offc, mpc := h.mem.mpc
    rw := fun i r hr => (h.mem.rw i r hr).keep fun k hk' => hk k ((h.mem.rw i r hr).lt hk')
    fro := h.mem.fro, bro := h.mem.bro, bb := h.mem.bb, rro := h.mem.rro, rwo := h.mem.rwo, rb := h.mem.rb, rr := h.mem.rr }
  fr := ⟨h.fr.kept.trans (M := fun _ => False) ⟨ho, ht, hp, hs, fun k hk' _ => hk k hk'⟩ (fun _ _ => False.elim), h.fr.bx, h.fr.rw, h.fr.ro, h.fr.le⟩
  br := h.br
  fz := h.fz
  wr := h.wr
  wz := h.wz
theorem Inv.drew (h : Inv P w0 N g bx fz rw_ w) : Inv P w0 N g bx fz rw_ w.drew := h.keep (fun _ _ => rfl) (Nat.le_refl _) rfl rfl rfl
theorem getElem?_snoc {α : Type} {l : List α} {x y : α} {i : Nat} (h : (l ++ [x])[i]? = some y) : l[i]? = some y ∨ (i = l.length ∧ y = x) := by
  rcases Nat.lt_trichotomy i l.length with h1 | h1 | h1
  · rw [List.getElem?_append_left h1] at h; exact .inl h
  · subst h1; rw [List.getElem?_append_right (Nat.le_refl _), Nat.sub_self] at h; simp at h; exact .inr ⟨rfl, h.symm⟩
  rw [List.getElem?_append_right (by omega)] at h
  obtain ⟨k, hk⟩ : ∃ k, i - l.length = k + 1 := ⟨i - l.length - 1, by omega⟩
  rw [hk] at h; simp at h
theorem Inv.boxG (h : Inv P w0 N g bx fz rw_ w) {x : Bx} {a : AV} {w' : World} (hfz : x.fz = false) (hw : w.grownBy w' none) (hx : x.off = false → x.blk = w.heap.size ∧ x.On w') (hoc : x.off = true → x.cells = []) (hmc : x.mp.isSome = true → x.cells = []) (hbc : BC g x.ty a x) :
    ∃ g', g.lex g' ∧ Inv P w0 N g' (bx ++ [(x.ty, a)]) fz rw_ w' ∧ g'.bx[bx.length]? = some x := by
  let g' : Gh := { g with bx := g.bx ++ [x] }
  have hle : g.le g' := ⟨fun _ _ _ h => h, fun i y hy => ⟨y, by show (g.bx ++ [x])[i]? = some y; rw [List.getElem?_append_left (List.getElem?_eq_some_iff.1 hy).1]; exact hy, y.same⟩, fun _ r h => ⟨r, h, rfl, rfl, rfl, Nat.le_refl _, fun _ => rfl⟩⟩
  have hnew : g'.bx[bx.length]? = some x := by show (g.bx ++ [x])[bx.length]? = some x; rw [← h.br.len]; simp
  have hk := h.keep (w' := w') (fun k hk => hw.block k hk (fun e => by cases e)) hw.size hw.os hw.tape hw.output
  have old : ∀ i y, g'.bx[i]? = some y → g.bx[i]? = some y ∨ (i = g.bx.length ∧ y = x) := fun i y hy => getElem?_snoc hy
  have hbs : Bs g g' := fun i y hy => ⟨y, by show (g.bx ++ [x])[i]? = some y; rw [List.getElem?_append_left (List.getElem?_eq_some_iff.1 hy).1]; exact hy, rfl, rfl, rfl, rfl, rfl⟩
  refine ⟨g', ⟨hle, hbs⟩, ⟨⟨hk.mem.ro, fun i y hy hyo => ?_, fun i y hy hyo => ?_, fun i y hy hyo => ?_, hk.mem.rw, fun i y hy hf => ?_, fun i y hy hyo hf => ?_, fun i j y z hy hz hyo hzo he => ?_, hk.mem.rro, hk.mem.rwo, fun i j y r hy hr2 hyo => ?_, hk.mem.rr⟩, ⟨hk.fr.kept, fun i y hy hyo => ?_, hk.fr.rw, hk.fr.ro, h.fr.le.trans hle⟩, ⟨?_, fun i T' a' hi => ?_⟩, fun i y hy hf => ?_, h.wr, h.wz⟩, hnew⟩
  · rcases old i y hy with h1 | ⟨_, rfl⟩
    · exact hk.mem.bx i y h1 hyo
    exact (hx hyo).2
  · rcases old i y hy with h1 | ⟨_, rfl⟩
    · exact h.mem.offc i y h1 hyo
    exact hoc hyo
  · rcases old i y hy with h1 | ⟨_, rfl⟩
    · exact h.mem.mpc i y h1 hyo
    exact hmc hyo
  · rcases old i y hy with h1 | ⟨_, rfl⟩
    · exact h.mem.fro i y h1 hf
    rw [hfz] at hf; cases hf
  · rcases old i y hy with h1 | ⟨_, rfl⟩
    · exact h.mem.bro i y h1 hyo hf
    rw [(hx hyo).1]; exact h.mem.ro_new
  · rcases old i y hy with h1 | ⟨e1, rfl⟩ <;> rcases old j z hz with h2 | ⟨e2, rfl⟩
    · exact h.mem.bb i j y z h1 h2 hyo hzo he
    · have := (h.mem.bx i y h1 hyo).lt; have e3 := (hx hzo).1; omega
    · have := (h.mem.bx j z h2 hzo).lt; have e3 := (hx hyo).1; omega
    omega
  · rcases old i y hy with h1 | ⟨e1, rfl⟩
    · exact h.mem.rb i j y r h1 hr2 hyo
    intro e; rw [(hx hyo).1] at e; have := (h.mem.rw j r hr2).lt e; exact Nat.lt_irrefl _ this
  · rcases old i y hy with h1 | ⟨e1, rfl⟩
    · exact h.fr.bx i y h1 hyo
    rw [(hx hyo).1]; exact .inl h.fr.kept.size
  · show (g.bx ++ [x]).length = _; simp [h.br.len]
  · rcases getElem?_snoc hi with h1 | ⟨e1, e2⟩
    · obtain ⟨y, hy, h2, h3⟩ := h.br.at_ i T' a' h1
      exact ⟨y, by show (g.bx ++ [x])[i]? = some y; rw [List.getElem?_append_left (List.getElem?_eq_some_iff.1 hy).1]; exact hy, h2, h3.mono hle⟩
    injection e2 with e2 e3; subst e1 e2 e3
    exact ⟨x, hnew, rfl, hbc.mono hle⟩
  rcases old i y hy with h1 | ⟨e1, rfl⟩
  · exact h.fz i y h1 hf
  rw [hfz] at hf; cases hf
theorem grown_alloc (w : World) (o : Obj) : w.grownBy (w.alloc o) none := ⟨rfl, rfl, rfl, by simp, fun k hk _ => Below.heap_alloc w o k hk⟩
theorem grown_row (w : World) (b : Nat) (cs : Array Value) : w.grownBy (w.setRow b cs) (some b) := ⟨rfl, rfl, rfl, by rw [size_setRow]; exact Nat.le_refl _, fun k _ hn => setRow_other w b k cs (fun e => hn (by rw [e]))⟩
theorem Inv.box (h : Inv P w0 N g bx fz rw_ w) {T : Ty} {a : AV} {cs : List Value} (hr : RC g T a cs) (tid : TypeId) :
    ∃ g', g.lex g' ∧ Inv P w0 N g' (bx ++ [(T, a)]) fz rw_ (w.alloc (.cells cs.toArray tid)) ∧ RV g' (.ptr bx.length []) (.pointer (some ⟨w.heap.size, 0, none⟩)) := by
  obtain ⟨g', h1, h2, h3⟩ := h.boxG (x := ⟨w.heap.size, tid, T, cs, false, 0, 0, false, none⟩) (a := a) rfl (grown_alloc w _) (fun _ => ⟨rfl, .of rfl (Blk.new w tid cs.toArray)⟩) (fun e => by cases e) (fun e => by cases e) (.pl hr rfl rfl)
  exact ⟨g', h1, h2, (RC.ptr h3 (Ty.loc_nil hr.grows)).rvp⟩
theorem getElem?_set_cases {α : Type} {l : List α} {i j : Nat} {x y : α} (h : (l.set i x)[j]? = some y) : (j = i ∧ y = x ∧ i < l.length) ∨ (j ≠ i ∧ l[j]? = some y) := by
  rw [List.getElem?_set] at h
  by_cases e : i = j
  · subst e
    rw [if_pos rfl] at h
    by_cases hl : i < l.length
    · rw [if_pos hl] at h; injection h with h; exact .inl ⟨rfl, h.symm, hl⟩
    rw [if_neg hl] at h; cases h
  rw [if_neg e] at h; exact .inr ⟨fun e' => e e'.symm, h⟩
def Bx.own (x : Bx) : Option Nat := if x.off then none else some x.blk
theorem Inv.upd (h : Inv P w0 N g bx fz rw_ w) {i : Nat} {x x' : Bx} {w' : World} {a : AV} (hx : g.bx[i]? = some x) (hfz : i ∉ fz) (hw : w.grownBy w' x.own) (hty : x'.ty = x.ty) (hf' : x'.fz = false) (hgen : x.gen ≤ x'.gen)
    (hsame : x'.gen = x.gen ∨ x.ty.isVc = false → x'.blk = x.blk ∧ x'.off = x.off ∧ x'.cap = x.cap) (hon : x'.off = false → x'.On w' ∧ (x'.blk = w.heap.size ∨ x.off = false ∧ x'.blk = x.blk)) (hoc : x'.off = true → x'.cells = []) (hmc : x'.mp.isSome = true → x'.cells = []) (hbc : BC g x.ty a x') :
    ∃ g', g.le g' ∧ Inv P w0 N g' (bx.set i (x.ty, a)) fz rw_ w' ∧ g'.bx[i]? = some x' := by
  have hil : i < g.bx.length := (List.getElem?_eq_some_iff.1 hx).1
  have hxf : x.fz = false := by cases hf : x.fz with | false => rfl | true => exact absurd (h.fz i x hx hf) hfz
  let g' : Gh := { g with bx := g.bx.set i x' }
  have old : ∀ j y, g'.bx[j]? = some y → (j = i ∧ y = x') ∨ (j ≠ i ∧ g.bx[j]? = some y) := fun j y hy => by
    rcases getElem?_set_cases hy with ⟨h1, h2, _⟩ | h1
    · exact .inl ⟨h1, h2⟩
    exact .inr h1
  have hnew : g'.bx[i]? = some x' := by show (g.bx.set i x')[i]? = some x'; rw [List.getElem?_set]; simp [hil]
  have hle : g.le g' := ⟨fun _ _ _ h => h, fun j y hy => by
    by_cases e : j = i
    · subst e; rw [hx] at hy; injection hy with hy; subst hy
      exact ⟨x', hnew, hty, hgen, hsame⟩
    exact ⟨y, by show (g.bx.set i x')[j]? = some y; rw [List.getElem?_set, if_neg (fun e' => e e'.symm)]; exact hy, y.same⟩, fun _ r h => ⟨r, h, rfl, rfl, rfl, Nat.le_refl _, fun _ => rfl⟩⟩
  have hne : ∀ k, k < w.heap.size → (x.off = false → k ≠ x.blk) → w'.heap[k]? = w.heap[k]? := fun k hk hn => hw.block k hk fun e => by
    unfold Bx.own at e
    cases ho : x.off
    · rw [ho] at e; injection e with e; exact hn ho e
    rw [ho] at e; cases e
  refine ⟨g', hle, ⟨⟨fun b o u hr' => ?_, fun j y hy hyo => ?_, fun j y hy hyo => ?_, fun j y hy hyo => ?_, fun j r hr' => ?_, fun j y hy hf => ?_, fun j y hy hyo hf => ?_, fun j k y z hy hz hyo hzo he => ?_, h.mem.rro, h.mem.rwo, fun j k y r hy hr' hyo => ?_, h.mem.rr⟩, ⟨?_, fun j y hy hyo => ?_, h.fr.rw, h.fr.ro, h.fr.le.trans hle⟩, ⟨?_, fun j T' a' hi => ?_⟩, fun j y hy hf => ?_, h.wr, h.wz⟩, hnew⟩
  · exact (World.cell?_of_block (a := ⟨b, o, none⟩) (hne b (h.mem.lt hr') fun ho e => by have := h.mem.bro i x hx ho hxf o; rw [← e] at this; have hr2 : g.ro b o = some u := hr'; rw [this] at hr2; cases hr2)).trans (h.mem.ro b o u hr')
  · rcases old j y hy with ⟨e, rfl⟩ | ⟨e, h1⟩
    · exact (hon hyo).1
    have := h.mem.bx j y h1 hyo
    exact this.keep (hne _ this.lt fun ho e' => e (h.mem.bb j i y x h1 hx hyo ho e'))
  · rcases old j y hy with ⟨e, rfl⟩ | ⟨e, h1⟩
    · exact hoc hyo
    exact h.mem.offc j y h1 hyo
  · rcases old j y hy with ⟨e, rfl⟩ | ⟨e, h1⟩
    · exact hmc hyo
    exact h.mem.mpc j y h1 hyo
  · exact (h.mem.rw j r hr').keep fun k hk => hne k ((h.mem.rw j r hr').lt hk) fun ho e => h.mem.rb i j x r hx hr' ho (by rw [hk, e])
  · rcases old j y hy with ⟨e, rfl⟩ | ⟨e, h1⟩
    · rw [hf'] at hf; cases hf
    exact h.mem.fro j y h1 hf
  · rcases old j y hy with ⟨e, rfl⟩ | ⟨e, h1⟩
    · intro o
      rcases (hon hyo).2 with e1 | ⟨e1, e2⟩
      · rw [e1]; exact h.mem.ro_new o
      rw [e2]; exact h.mem.bro i x hx e1 hxf o
    exact h.mem.bro j y h1 hyo hf
  · rcases old j y hy with ⟨e, rfl⟩ | ⟨e, h1⟩ <;> rcases old k z hz with ⟨e2, rfl⟩ | ⟨e2, h2⟩
    · omega
    · rcases (hon hyo).2 with e1 | ⟨e1, e3⟩
      · have := (h.mem.bx k z h2 hzo).lt; omega
      exact absurd (h.mem.bb i k x z hx h2 e1 hzo (e3 ▸ he)) (fun e' => e2 e'.symm)
    · rcases (hon hzo).2 with e1 | ⟨e1, e3⟩
      · have := (h.mem.bx j y h1 hyo).lt; omega
      exact absurd (h.mem.bb j i y x h1 hx hyo e1 (e3 ▸ he)) e
    exact h.mem.bb j k y z h1 h2 hyo hzo he
  · rcases old j y hy with ⟨e, rfl⟩ | ⟨e, h1⟩
    · rcases (hon hyo).2 with e1 | ⟨e1, e3⟩
      · intro e4; rw [e1] at e4; have := (h.mem.rw k r hr').lt e4; omega
      rw [e3]; exact h.mem.rb i k x r hx hr' e1
    exact h.mem.rb j k y r h1 hr' hyo
  · refine h.fr.kept.trans (Kept.of_grown (N := fun k => x.own = some k) hw fun k hk => hk) fun k hk hk' => ?_
    unfold Bx.own at hk'
    cases ho : x.off
    · rw [ho] at hk'; injection hk' with hk'
      rcases h.fr.bx i x hx ho with h1 | ⟨y, h1, h2, h3⟩
      · omega
      exact .inl ⟨y, List.mem_of_getElem? h1, h2, h3.trans hk'⟩
    rw [ho] at hk'; cases hk'
  · rcases old j y hy with ⟨e, rfl⟩ | ⟨e, h1⟩
    · subst e
      rcases (hon hyo).2 with e1 | ⟨e1, e3⟩
      · rw [e1]; exact .inl h.fr.kept.size
      rw [e3]; exact h.fr.bx j x hx e1
    exact h.fr.bx j y h1 hyo
  · show (g.bx.set i x').length = _; simp [h.br.len]
  · rcases getElem?_set_cases hi with ⟨e1, e2, _⟩ | ⟨e1, h1⟩
    · injection e2 with e2 e3; subst e1 e2 e3
      exact ⟨x', hnew, hty, hbc.mono hle⟩
    obtain ⟨y, hy, h2, h3⟩ := h.br.at_ j T' a' h1
    exact ⟨y, by show (g.bx.set i x')[j]? = some y; rw [List.getElem?_set, if_neg (fun e' => e1 e'.symm)]; exact hy, h2, h3.mono hle⟩
  rcases old j y hy with ⟨e, rfl⟩ | ⟨e, h1⟩
  · rw [hf'] at hf; cases hf
  exact h.fz j y h1 hf
theorem Inv.set (h : Inv P w0 N g bx fz rw_ w) {i : Nat} {x : Bx} (hx : g.bx[i]? = some x) (ho : x.off = false) (hm : x.mp = none) (hfz : i ∉ fz) {a : AV} {cs : List Value} (hr : RC g x.ty a cs) :
    ∃ g', g.le g' ∧ Inv P w0 N g' (bx.set i (x.ty, a)) fz rw_ (w.setRow x.blk cs.toArray) := by
  have hxf : x.fz = false := by cases hf : x.fz with | false => rfl | true => exact absurd (h.fz i x hx hf) hfz
  have hb := (h.mem.bx i x hx ho).c hm
  obtain ⟨g', h1, h2, _⟩ := h.upd (x' := { x with cells := cs }) (a := a) hx hfz (w' := w.setRow x.blk cs.toArray) (by unfold Bx.own; rw [ho]; exact grown_row w _ _) rfl hxf (Nat.le_refl _) (fun _ => ⟨rfl, rfl, rfl⟩)
    (fun _ => ⟨.of hm (hb.row cs.toArray), .inr ⟨ho, rfl⟩⟩) (fun e => by rw [show ({ x with cells := cs } : Bx).off = x.off from rfl, ho] at e; cases e) (fun e => by rw [show ({ x with cells := cs } : Bx).mp = x.mp from rfl, hm] at e; cases e) (.pl hr ho hm)
  exact ⟨g', h1, h2⟩
theorem Inv.freeze (h : Inv P w0 N g bx fz rw_ w) {i : Nat} {x : Bx} (hx : g.bx[i]? = some x) (ho : x.off = false) (hmp : x.mp = none) (hNi : N.bx.length ≤ i) :
    ∃ g', g.lex g' ∧ Inv P w0 N g' bx (i :: fz) rw_ w ∧ (∃ x', g'.bx[i]? = some x' ∧ x'.blk = x.blk ∧ x'.cells = x.cells ∧ x'.ty = x.ty ∧ x'.gen = x.gen ∧ x'.cap = x.cap ∧ x'.off = false) ∧ ∀ o u, x.cells[o]? = some u → g'.ro x.blk o = some u := by
  cases hxf : x.fz with
  | true => exact ⟨g, Gh.lex.refl g, ⟨h.mem, h.fr, h.br, fun j y hy hf => List.mem_cons_of_mem _ (h.fz j y hy hf), h.wr, h.wz⟩, ⟨x, hx, rfl, rfl, rfl, rfl, rfl, ho⟩, h.mem.fro i x hx hxf⟩
  | false =>
  have hil : i < g.bx.length := (List.getElem?_eq_some_iff.1 hx).1
  have hnone := h.mem.bro i x hx ho hxf
  have hblk := (h.mem.bx i x hx ho).c hmp
  let x' : Bx := { x with fz := true }
  let g' : Gh := { g with ro := fun b o => if b = x.blk then x.cells[o]? else g.ro b o, bx := g.bx.set i x' }
  have hnew : g'.bx[i]? = some x' := by show (g.bx.set i x')[i]? = some x'; rw [List.getElem?_set]; simp [hil]
  have old : ∀ j y, g'.bx[j]? = some y → (j = i ∧ y = x') ∨ (j ≠ i ∧ g.bx[j]? = some y) := fun j y hy => by
    rcases getElem?_set_cases hy with ⟨h1, h2, _⟩ | h1
    · exact .inl ⟨h1, h2⟩
    exact .inr h1
  have roo : ∀ b, b ≠ x.blk → ∀ o, g'.ro b o = g.ro b o := fun b hb o => by show (if b = x.blk then _ else _) = _; rw [if_neg hb]
  have ros : ∀ o, g'.ro x.blk o = x.cells[o]? := fun o => by show (if x.blk = x.blk then _ else _) = _; rw [if_pos rfl]
  have hle : g.le g' := ⟨fun b o u hu => by
      by_cases e : b = x.blk
      · subst e; rw [hnone] at hu; cases hu
      rw [roo b e]; exact hu, fun j y hy => by
    by_cases e : j = i
    · subst e; rw [hx] at hy; injection hy with hy; subst hy
      exact ⟨x', hnew, x.same⟩
    exact ⟨y, by show (g.bx.set i x')[j]? = some y; rw [List.getElem?_set, if_neg (fun e' => e e'.symm)]; exact hy, y.same⟩, fun _ r h => ⟨r, h, rfl, rfl, rfl, Nat.le_refl _, fun _ => rfl⟩⟩
  have hbs : Bs g g' := fun j y hy => by
    by_cases e : j = i
    · subst e; rw [hx] at hy; injection hy with hy; subst hy; exact ⟨x', hnew, rfl, rfl, rfl, rfl, rfl⟩
    exact ⟨y, by show (g.bx.set i x')[j]? = some y; rw [List.getElem?_set, if_neg (fun e' => e e'.symm)]; exact hy, rfl, rfl, rfl, rfl, rfl⟩
  refine ⟨g', ⟨hle, hbs⟩, ⟨⟨fun b o u hr' => ?_, fun j y hy hyo => ?_, fun j y hy hyo => ?_, fun j y hy hyo => ?_, h.mem.rw, fun j y hy hf => ?_, fun j y hy hyo hf => ?_, fun j k y z hy hz hyo hzo he => ?_, fun j r k hr' hk o ho' => ?_, fun j r k hr' hk o u hu => hle.ro _ _ _ (h.mem.rwo j r k hr' hk o u hu), fun j k y r hy hr' hyo => ?_, h.mem.rr⟩, ⟨h.fr.kept, fun j y hy hyo => ?_, h.fr.rw, fun b hb hn o => ?_, h.fr.le.trans hle⟩, ⟨?_, fun j T' a' hi => ?_⟩, fun j y hy hf => ?_, h.wr, h.wz⟩, ⟨x', hnew, rfl, rfl, rfl, rfl, rfl, ho⟩, fun o u hu => by rw [ros]; exact hu⟩
  · by_cases e : b = x.blk
    · subst e; rw [ros] at hr'; rw [hblk.cell]; simpa using hr'
    rw [roo b e] at hr'; exact h.mem.ro b o u hr'
  · rcases old j y hy with ⟨e, rfl⟩ | ⟨e, h1⟩
    · exact ⟨(h.mem.bx i x hx ho).c, (h.mem.bx i x hx ho).m⟩
    exact h.mem.bx j y h1 hyo
  · rcases old j y hy with ⟨e, rfl⟩ | ⟨e, h1⟩
    · exact h.mem.offc i x hx hyo
    exact h.mem.offc j y h1 hyo
  · rcases old j y hy with ⟨e, rfl⟩ | ⟨e, h1⟩
    · exact h.mem.mpc i x hx hyo
    exact h.mem.mpc j y h1 hyo
  · rcases old j y hy with ⟨e, rfl⟩ | ⟨e, h1⟩
    · intro o u hu; rw [show x'.blk = x.blk from rfl, ros]; exact hu
    intro o u hu
    have hyo : y.off = false := by cases e' : y.off with | false => rfl | true => rw [h.mem.offc j y h1 e'] at hu; simp at hu
    rw [roo _ fun e' => e (h.mem.bb j i y x h1 hx hyo ho e')]; exact h.mem.fro j y h1 hf o u hu
  · rcases old j y hy with ⟨e, rfl⟩ | ⟨e, h1⟩
    · cases hf
    intro o; rw [roo _ fun e' => e (h.mem.bb j i y x h1 hx hyo ho e')]; exact h.mem.bro j y h1 hyo hf o
  · rcases old j y hy with ⟨e, rfl⟩ | ⟨e, h1⟩ <;> rcases old k z hz with ⟨e2, rfl⟩ | ⟨e2, h2⟩
    · omega
    · exact absurd (h.mem.bb i k x z hx h2 ho hzo he) (fun e' => e2 e'.symm)
    · exact absurd (h.mem.bb j i y x h1 hx hyo ho he) e
    exact h.mem.bb j k y z h1 h2 hyo hzo he
  · rw [roo k fun e => h.mem.rb i j x r hx hr' ho (by rw [hk, e])]; exact h.mem.rro j r k hr' hk o ho'
  · rcases old j y hy with ⟨e, rfl⟩ | ⟨e, h1⟩
    · exact h.mem.rb i k x r hx hr' ho
    exact h.mem.rb j k y r h1 hr' hyo
  · rcases old j y hy with ⟨e, rfl⟩ | ⟨e, h1⟩
    · subst e; exact h.fr.bx j x hx ho
    exact h.fr.bx j y h1 hyo
  · rw [roo b fun e => by
      subst e
      rcases h.fr.bx i x hx ho with h1 | ⟨y, h1, _⟩
      · omega
      rw [List.getElem?_eq_none hNi] at h1; cases h1]
    exact h.fr.ro b hb hn o
  · show (g.bx.set i x').length = _; simp [h.br.len]
  · obtain ⟨y, hy, h2, h3⟩ := h.br.at_ j T' a' hi
    by_cases e : j = i
    · subst e; rw [hx] at hy; injection hy with hy; subst hy
      exact ⟨x', hnew, h2, (h3.mono hle).fzs⟩
    exact ⟨y, by show (g.bx.set i x')[j]? = some y; rw [List.getElem?_set, if_neg (fun e' => e e'.symm)]; exact hy, h2, h3.mono hle⟩
  rcases old j y hy with ⟨e, rfl⟩ | ⟨e, h1⟩
  · subst e; exact List.mem_cons_self
  exact List.mem_cons_of_mem _ (h.fz j y h1 hf)
theorem Inv.row (h : Inv P w0 N g bx fz rw_ w) {r : Rw} (hR : Row (w.alloc (.cells (r.cx ++ noughts r).toArray r.tid)) r) (hv : r.v = .slice (some ⟨w.heap.size, 0, none⟩) r.n (r.n + r.m)) (hz : r.es = P.cellsOf r.tid ∧ r.zero = zeroOf P r.tid) :
    ∃ g', g.lex g' ∧ Inv P w0 N g' bx fz (rw_ ++ [(r.tid, r.n)]) (w.alloc (.cells (r.cx ++ noughts r).toArray r.tid)) ∧ g'.rw[rw_.length]? = some r ∧ ∀ j u, r.cx[j]? = some u → g'.ro w.heap.size j = some u := by
  let g' : Gh := { g with ro := fun b o => if b = w.heap.size then r.cx[o]? else g.ro b o, rw := g.rw ++ [r] }
  have hlen : g.rw.length = rw_.length := by rw [← h.wr]; simp
  have hnew : g'.rw[rw_.length]? = some r := by show (g.rw ++ [r])[rw_.length]? = some r; rw [← hlen]; simp
  have hro := h.mem.ro_new
  have roo : ∀ b, b ≠ w.heap.size → ∀ o, g'.ro b o = g.ro b o := fun b hb o => by show (if b = w.heap.size then _ else _) = _; rw [if_neg hb]
  have ros : ∀ o, g'.ro w.heap.size o = r.cx[o]? := fun o => by show (if w.heap.size = w.heap.size then _ else _) = _; rw [if_pos rfl]
  have hle : g.le g' := ⟨fun b o u hu => by rw [roo b fun e => by subst e; exact absurd (h.mem.lt hu) (Nat.lt_irrefl _)]; exact hu, fun _ y hy => ⟨y, hy, y.same⟩,
    fun i s hs => ⟨s, by show (g.rw ++ [r])[i]? = some s; rw [List.getElem?_append_left (List.getElem?_eq_some_iff.1 hs).1]; exact hs, rfl, rfl, rfl, Nat.le_refl _, fun _ => rfl⟩⟩
  have hk := h.keep (w' := w.alloc (.cells (r.cx ++ noughts r).toArray r.tid)) (fun k hk => Below.heap_alloc w _ k hk) (by simp) rfl rfl rfl
  have old : ∀ i s, g'.rw[i]? = some s → g.rw[i]? = some s ∨ (i = g.rw.length ∧ s = r) := fun i s hs => getElem?_snoc hs
  have hob : r.v.ownBlock = some w.heap.size := by rw [hv]; rfl
  refine ⟨g', ⟨hle, fun i x hx => ⟨x, hx, rfl, rfl, rfl, rfl, rfl⟩⟩, ⟨⟨fun b o u hu => ?_, hk.mem.bx, h.mem.offc, h.mem.mpc, fun i s hs => ?_, fun i y hy hf o u hu => hle.ro _ _ _ (h.mem.fro i y hy hf o u hu), fun i y hy hyo hf o => ?_, h.mem.bb, fun i s k hs hk' o ho => ?_, fun i s k hs hk' o u hu => (by
      rcases old i s hs with h1 | ⟨_, rfl⟩
      · exact hle.ro _ _ _ (h.mem.rwo i s k h1 hk' o u hu)
      rw [hob] at hk'; injection hk' with hk'; subst hk'; rw [ros]; exact hu), fun i j y s hy hs hyo => ?_, fun i j s t k hs ht hsk htk => ?_⟩,
    ⟨hk.fr.kept, h.fr.bx, fun i s k hs hsk => ?_, fun b hb hn o => ?_, h.fr.le.trans hle⟩, ⟨h.br.len, fun i T a hi => ?_⟩, h.fz, ?_, fun s hs => ?_⟩, hnew, fun j u hu => by rw [ros]; exact hu⟩
  · by_cases e : b = w.heap.size
    · subst e
      rw [ros] at hu
      rw [(Blk.new w r.tid (r.cx ++ noughts r).toArray).cell, List.getElem?_toArray, List.getElem?_append_left (List.getElem?_eq_some_iff.1 hu).1]; exact hu
    rw [roo b e] at hu; exact hk.mem.ro b o u hu
  · rcases old i s hs with h1 | ⟨_, rfl⟩
    · exact hk.mem.rw i s h1
    exact hR
  · rw [roo _ fun e => by have := (h.mem.bx i y hy hyo).lt; omega]; exact h.mem.bro i y hy hyo hf o
  · rcases old i s hs with h1 | ⟨_, rfl⟩
    · rw [roo k fun e => by have := (h.mem.rw i s h1).lt hk'; omega]; exact h.mem.rro i s k h1 hk' o ho
    rw [hob] at hk'; injection hk' with hk'; subst hk'
    rw [ros, List.getElem?_eq_none]; rw [hR.len]; exact ho
  · rcases old j s hs with h1 | ⟨_, rfl⟩
    · exact h.mem.rb i j y s hy h1 hyo
    rw [hob]; intro e; injection e with e; have := (h.mem.bx i y hy hyo).lt; omega
  · rcases old i s hs with h1 | ⟨e1, rfl⟩ <;> rcases old j t ht with h2 | ⟨e2, rfl⟩
    · exact h.mem.rr i j s t k h1 h2 hsk htk
    · rw [hob] at htk; injection htk with htk; have := (h.mem.rw i s h1).lt hsk; omega
    · rw [hob] at hsk; injection hsk with hsk; have := (h.mem.rw j t h2).lt htk; omega
    omega
  · rcases old i s hs with h1 | ⟨e1, rfl⟩
    · exact h.fr.rw i s k h1 hsk
    rw [hob] at hsk; injection hsk with hsk; rw [← hsk]; exact .inl h.fr.kept.size
  · rw [roo b fun e => by have := h.fr.kept.size; omega]; exact h.fr.ro b hb hn o
  · obtain ⟨y, hy, h2, h3⟩ := h.br.at_ i T a hi
    exact ⟨y, hy, h2, h3.mono hle⟩
  · show (g.rw ++ [r]).map (fun r => (r.tid, r.n)) = _; simp [h.wr]
  rcases List.mem_append.1 (show s ∈ g.rw ++ [r] from hs) with h1 | h1
  · exact h.wz s h1
  simp at h1; subst h1; exact hz
theorem Inv.rowNil (h : Inv P w0 N g bx fz rw_ w) {r : Rw} (hR : Row w r) (hv : r.v = .slice none 0 0) (hn : r.n = 0) (hz : r.es = P.cellsOf r.tid ∧ r.zero = zeroOf P r.tid) :
    ∃ g', g.lex g' ∧ Inv P w0 N g' bx fz (rw_ ++ [(r.tid, r.n)]) w ∧ g'.rw[rw_.length]? = some r := by
  let g' : Gh := { g with rw := g.rw ++ [r] }
  have hlen : g.rw.length = rw_.length := by rw [← h.wr]; simp
  have hnew : g'.rw[rw_.length]? = some r := by show (g.rw ++ [r])[rw_.length]? = some r; rw [← hlen]; simp
  have hle : g.le g' := ⟨fun b o u hu => hu, fun _ y hy => ⟨y, hy, y.same⟩,
    fun i s hs => ⟨s, by show (g.rw ++ [r])[i]? = some s; rw [List.getElem?_append_left (List.getElem?_eq_some_iff.1 hs).1]; exact hs, rfl, rfl, rfl, Nat.le_refl _, fun _ => rfl⟩⟩
  have old : ∀ i s, g'.rw[i]? = some s → g.rw[i]? = some s ∨ (i = g.rw.length ∧ s = r) := fun i s hs => getElem?_snoc hs
  have hob : r.v.ownBlock = none := by rw [hv]; rfl
  refine ⟨g', ⟨hle, fun i x hx => ⟨x, hx, rfl, rfl, rfl, rfl, rfl⟩⟩, ⟨⟨h.mem.ro, h.mem.bx, h.mem.offc, h.mem.mpc, fun i s hs => ?_, h.mem.fro, h.mem.bro, h.mem.bb, fun i s k hs hk' o ho => ?_, fun i s k hs hk' o u hu => (by
      rcases old i s hs with h1 | ⟨_, rfl⟩
      · exact h.mem.rwo i s k h1 hk' o u hu
      rw [hob] at hk'; cases hk'), fun i j y s hy hs hyo => ?_, fun i j s t k hs ht hsk htk => ?_⟩,
    ⟨h.fr.kept, h.fr.bx, fun i s k hs hsk => ?_, h.fr.ro, h.fr.le.trans hle⟩, ⟨h.br.len, fun i T a hi => ?_⟩, h.fz, ?_, fun s hs => ?_⟩, hnew⟩
  · rcases old i s hs with h1 | ⟨_, rfl⟩
    · exact h.mem.rw i s h1
    exact hR
  · rcases old i s hs with h1 | ⟨_, rfl⟩
    · exact h.mem.rro i s k h1 hk' o ho
    rw [hob] at hk'; cases hk'
  · rcases old j s hs with h1 | ⟨_, rfl⟩
    · exact h.mem.rb i j y s hy h1 hyo
    rw [hob]; intro e; cases e
  · rcases old i s hs with h1 | ⟨e1, rfl⟩
    · rcases old j t ht with h2 | ⟨e2, rfl⟩
      · exact h.mem.rr i j s t k h1 h2 hsk htk
      rw [hob] at htk; cases htk
    rw [hob] at hsk; cases hsk
  · rcases old i s hs with h1 | ⟨e1, rfl⟩
    · exact h.fr.rw i s k h1 hsk
    rw [hob] at hsk; cases hsk
  · obtain ⟨y, hy, h2, h3⟩ := h.br.at_ i T a hi
    exact ⟨y, hy, h2, h3.mono hle⟩
  · show (g.rw ++ [r]).map (fun r => (r.tid, r.n)) = _; simp [h.wr]
  rcases List.mem_append.1 (show s ∈ g.rw ++ [r] from hs) with h1 | h1
  · exact h.wz s h1
  simp at h1; subst h1; exact hz
theorem Inv.grow (h : Inv P w0 N g bx fz rw_ w) {i : Nat} {r r' : Rw} {w' : World} (hr : g.rw[i]? = some r) (hR : Row w' r') (ht : r'.tid = r.tid) (he : r'.es = r.es) (hz : r'.zero = r.zero) {ys : List Value} (hc : r'.cx = r.cx ++ ys) (hlt : r.n < r'.n)
    (hg : w.grownBy w' r.v.ownBlock) (ho : r'.v.ownBlock = r.v.ownBlock ∨ r'.v.ownBlock = some w.heap.size) (hgn : r'.v.ownBlock = r.v.ownBlock ∨ w.grownBy w' none) :
    ∃ g', g.lex g' ∧ Inv P w0 N g' bx fz (rw_.set i (r'.tid, r'.n)) w' ∧ g'.rw[i]? = some r' ∧ ∀ k, r'.v.ownBlock = some k → ∀ j u, r'.cx[j]? = some u → g'.ro k j = some u := by
  have hil : i < g.rw.length := (List.getElem?_eq_some_iff.1 hr).1
  have hrow := h.mem.rw i r hr
  let g' : Gh := { g with ro := fun b o => if r'.v.ownBlock = some b then r'.cx[o]? else g.ro b o, rw := g.rw.set i r' }
  have hnew : g'.rw[i]? = some r' := by show (g.rw.set i r')[i]? = some r'; rw [List.getElem?_set]; simp [hil]
  have roo : ∀ b, r'.v.ownBlock ≠ some b → ∀ o, g'.ro b o = g.ro b o := fun b hb o => by show (if _ then _ else _) = _; rw [if_neg hb]
  have ros : ∀ b, r'.v.ownBlock = some b → ∀ o, g'.ro b o = r'.cx[o]? := fun b hb o => by show (if _ then _ else _) = _; rw [if_pos hb]
  have rold : ∀ b o u, r'.v.ownBlock = some b → g.ro b o = some u → r'.cx[o]? = some u := by
    intro b o u hb hu
    rcases ho with ho | ho
    · rw [ho] at hb
      have hlt2 : o < r.cx.length := by
        rw [hrow.len]
        rcases Nat.lt_or_ge o (r.n * r.es) with h1 | h1
        · exact h1
        rw [h.mem.rro i r b hr hb o h1] at hu; cases hu
      have hcell := h.mem.ro b o u hu
      rcases hrow.at_ with ⟨e, _⟩ | ⟨k, e, hb2, _⟩
      · rw [e] at hb; simp [Value.ownBlock] at hb
      rw [e] at hb; simp [Value.ownBlock] at hb; subst hb
      rw [hb2.cell, List.getElem?_toArray, List.getElem?_append_left hlt2] at hcell
      rw [hc, List.getElem?_append_left hlt2]; exact hcell
    rw [ho] at hb; injection hb with hb; subst hb
    exact absurd (h.mem.lt hu) (Nat.lt_irrefl _)
  have old : ∀ j s, g'.rw[j]? = some s → (j = i ∧ s = r') ∨ (j ≠ i ∧ g.rw[j]? = some s) := fun j s hs => by
    rcases getElem?_set_cases hs with ⟨h1, h2, _⟩ | h1
    · exact .inl ⟨h1, h2⟩
    exact .inr h1
  have hle : g.le g' := ⟨fun b o u hu => by
      by_cases e : r'.v.ownBlock = some b
      · rw [ros b e]; exact rold b o u e hu
      rw [roo b e]; exact hu, fun _ y hy => ⟨y, hy, y.same⟩, fun j s hs => by
    by_cases e : j = i
    · subst e; rw [hr] at hs; injection hs with hs; subst hs
      exact ⟨r', hnew, ht, he, hz, Nat.le_of_lt hlt, fun e => by omega⟩
    exact ⟨s, by show (g.rw.set i r')[j]? = some s; rw [List.getElem?_set, if_neg (fun e' => e e'.symm)]; exact hs, rfl, rfl, rfl, Nat.le_refl _, fun _ => rfl⟩⟩
  have hob : ∀ k, r'.v.ownBlock = some k → r.v.ownBlock = some k ∨ k = w.heap.size := fun k hk => by
    rcases ho with ho | ho
    · rw [ho] at hk; exact .inl hk
    rw [ho] at hk; injection hk with hk; exact .inr hk.symm
  have hbk : ∀ k, k < w.heap.size → r.v.ownBlock ≠ some k → w'.heap[k]? = w.heap[k]? := fun k hk hne => hg.block k hk fun e => hne e.symm
  refine ⟨g', ⟨hle, fun i x hx => ⟨x, hx, rfl, rfl, rfl, rfl, rfl⟩⟩, ⟨⟨fun b o u hu => ?_, fun j y hy hyo => ?_, h.mem.offc, h.mem.mpc, fun j s hs => ?_, fun j y hy hf o u hu => hle.ro _ _ _ (h.mem.fro j y hy hf o u hu), fun j y hy hyo hf o => ?_, h.mem.bb, fun j s k hs hk' o ho' => ?_, fun j s k hs hk' o u hu => (by
      rcases old j s hs with ⟨e, rfl⟩ | ⟨e, h1⟩
      · rw [ros k hk']; exact hu
      exact hle.ro _ _ _ (h.mem.rwo j s k h1 hk' o u hu)), fun j k y s hy hs hyo => ?_, fun j l s t k hs ht' hsk htk => ?_⟩,
    ⟨h.fr.kept.trans (M := fun k => r.v.ownBlock = some k) (Kept.of_grown hg fun k hk => hk) (fun k hk hk' => by
      rcases h.fr.rw i r k hr hk' with h1 | ⟨s, h1, h2⟩
      · omega
      exact .inr ⟨s, List.mem_of_getElem? h1, h2⟩), h.fr.bx, fun j s k hs hsk => ?_, fun b hb hn o => ?_, h.fr.le.trans hle⟩, ⟨h.br.len, fun j T a hi => ?_⟩, h.fz, ?_, fun s hs => ?_⟩, hnew, fun k hk j u hu => by rw [ros k hk]; exact hu⟩
  · by_cases e : r'.v.ownBlock = some b
    · rw [ros b e] at hu
      rcases hR.at_ with ⟨e', _⟩ | ⟨k, e', hb2, _⟩
      · rw [e'] at e; simp [Value.ownBlock] at e
      rw [e'] at e; simp [Value.ownBlock] at e; subst e
      rw [hb2.cell, List.getElem?_toArray, List.getElem?_append_left (List.getElem?_eq_some_iff.1 hu).1]; exact hu
    rw [roo b e] at hu
    by_cases e2 : r.v.ownBlock = some b
    · -- the elder block, left behind
      have hcell := h.mem.ro b o u hu
      have hb := h.mem.lt hu
      have hcell' : w'.heap[b]? = w.heap[b]? := by
        rcases hgn with h1 | h1
        · exact absurd (h1.trans e2) e
        exact h1.block b hb (fun e => by cases e)
      exact (World.cell?_of_block (a := ⟨b, o, none⟩) hcell').trans hcell
    exact (World.cell?_of_block (a := ⟨b, o, none⟩) (hbk b (h.mem.lt hu) e2)).trans (h.mem.ro b o u hu)
  · have := h.mem.bx j y hy hyo
    exact this.keep (hbk _ this.lt (fun e => h.mem.rb j i y r hy hr hyo e))
  · rcases old j s hs with ⟨e, rfl⟩ | ⟨e, h1⟩
    · exact hR
    exact (h.mem.rw j s h1).keep fun k hk => hbk k ((h.mem.rw j s h1).lt hk) fun e' => e (h.mem.rr j i s r k h1 hr hk e')
  · by_cases e : r'.v.ownBlock = some y.blk
    · rcases hob _ e with h1 | h1
      · exact absurd h1 (h.mem.rb j i y r hy hr hyo)
      have := (h.mem.bx j y hy hyo).lt; omega
    rw [roo _ e]; exact h.mem.bro j y hy hyo hf o
  · rcases old j s hs with ⟨e, rfl⟩ | ⟨e, h1⟩
    · rw [ros k hk', List.getElem?_eq_none]; rw [hR.len]; exact ho'
    rw [roo k fun e' => by
      rcases hob _ e' with h2 | h2
      · exact e (h.mem.rr j i s r k h1 hr hk' h2)
      have := (h.mem.rw j s h1).lt hk'; omega]
    exact h.mem.rro j s k h1 hk' o ho'
  · rcases old k s hs with ⟨e, rfl⟩ | ⟨e, h1⟩
    · intro e'
      rcases hob _ e' with h2 | h2
      · exact h.mem.rb j i y r hy hr hyo h2
      have := (h.mem.bx j y hy hyo).lt; omega
    exact h.mem.rb j k y s hy h1 hyo
  · rcases old j s hs with ⟨e, rfl⟩ | ⟨e, h1⟩ <;> rcases old l t ht' with ⟨e2, rfl⟩ | ⟨e2, h2⟩
    · omega
    · rcases hob _ hsk with h3 | h3
      · exact absurd (h.mem.rr i l r t k hr h2 h3 htk) (fun e' => e2 e'.symm)
      have := (h.mem.rw l t h2).lt htk; omega
    · rcases hob _ htk with h3 | h3
      · exact absurd (h.mem.rr j i s r k h1 hr hsk h3) e
      have := (h.mem.rw j s h1).lt hsk; omega
    exact h.mem.rr j l s t k h1 h2 hsk htk
  · rcases old j s hs with ⟨e, rfl⟩ | ⟨e, h1⟩
    · rcases hob _ hsk with h3 | h3
      · subst e; exact h.fr.rw j r k hr h3
      rw [h3]; exact .inl h.fr.kept.size
    exact h.fr.rw j s k h1 hsk
  · rw [roo b fun e' => by
      rcases hob _ e' with h3 | h3
      · rcases h.fr.rw i r b hr h3 with h4 | ⟨s, h4, h5⟩
        · omega
        exact hn (.inr ⟨s, List.mem_of_getElem? h4, h5⟩)
      have := h.fr.kept.size; omega]
    exact h.fr.ro b hb hn o
  · obtain ⟨y, hy, h2, h3⟩ := h.br.at_ j T a hi
    exact ⟨y, hy, h2, h3.mono hle⟩
  · show (g.rw.set i r').map (fun r => (r.tid, r.n)) = _
    rw [List.map_set, ← h.wr]
  rcases List.mem_or_eq_of_mem_set (show s ∈ g.rw.set i r' from hs) with h1 | rfl
  · exact h.wz s h1
  have := h.wz r (List.mem_of_getElem? hr); rw [ht, he, hz]; exact this
end
inductive D where
  | int (k : IntKind)
  | bool
  | str
  | ptr (e : Nat)
  | slc (e : Nat)
  | arr (n e : Nat)
  | rcd (fs : List (Nat × Nat))
  | oth
structure TI where
  d : D
  ty : Ty
  zero : AV
  bytes : Nat
def D.ok (P : Program) (t : TypeId) : D → Prop
  | .int k => P.underlying t = some (.int k)
  | .bool => P.underlying t = some .bool
  | .str => P.underlying t = some .string
  | .ptr e => P.underlying t = some (.pointer e)
  | .slc e => P.underlying t = some (.slice e)
  | .arr n e => P.underlying t = some (.array n e) ∧ (P.info? e).isSome = true
  | .rcd fs => ∃ F, P.underlying t = some (.struct F) ∧ F.toList.map (fun f => (f.offset, f.type)) = fs ∧ ∀ f ∈ F.toList, f.name ≠ "_" ∧ (P.info? f.type).isSome = true
  | .oth => True
structure TI.ok (P : Program) (t : TypeId) (i : TI) : Prop where
  info : ∃ inf z, P.info? t = some inf ∧ inf.size = i.ty.size ∧ inf.bytes = i.bytes ∧ inf.zero = some z ∧ ∀ g, RC g i.ty i.zero z.cells.toList
  agg : (P.underlying t).isSome = true ∧ aggB (P.underlying t) = i.ty.agg
  d : i.d.ok P t
  iz : ∀ k, i.d = .int k → i.zero = .v (.int k 0)
  eq : i.ty.agg = true → P.eqGuardType P.depth t = false ∧ P.stoodInHeld t = false
abbrev Tab := List (Nat × TI)
def Tab.ok (P : Program) (τ : Tab) : Prop := ∀ p ∈ τ, p.2.ok P p.1
def Tab.get (t : Nat) : Tab → Option TI
  | [] => none
  | (k, i) :: l => if k = t then some i else Tab.get t l
theorem Tab.get_ok {P : Program} {t : Nat} {i : TI} : ∀ {τ : Tab}, τ.ok P → Tab.get t τ = some i → i.ok P t
  | (k, j) :: l, h, hg => by
    unfold Tab.get at hg
    split at hg
    · rename_i e; subst e; injection hg with hg; subst hg; exact h _ List.mem_cons_self
    exact Tab.get_ok (fun p hp => h p (List.mem_cons_of_mem _ hp)) hg
abbrev QR := Option (AV × Prop)
def ilo : IntKind → Int
  | .i64 => -9223372036854775808
  | .i32 => -2147483648
  | .i16 => -32768
  | .i8 => -128
  | _ => 0
def ihi : IntKind → Int
  | .i64 => 9223372036854775807
  | .i32 => 2147483647
  | .i16 => 32767
  | .i8 => 127
  | .u8 => 255
  | .u16 => 65535
  | .u32 => 4294967295
  | .u64 => 18446744073709551615
theorem wrap_in (k : IntKind) (n : Int) (h : ilo k ≤ n ∧ n ≤ ihi k) : k.wrap n = n := by
  cases k <;> simp only [ilo, ihi] at h <;> simp [IntKind.wrap, IntKind.bits, IntKind.signed] <;> omega
def fitI (k : IntKind) (n : Int) : AV × Prop := if k.signed then (.v (.int k n), ilo k ≤ n ∧ n ≤ ihi k) else (.v (.int k (k.wrap n)), True)
theorem fitI_sound {g : Gh} {k : IntKind} {n : Int} (h : (fitI k n).2) : RV g (fitI k n).1 (.int k (k.wrap n)) := by
  cases hs : k.signed
  · simp only [fitI, hs, Bool.false_eq_true, if_false] at h ⊢; exact RV.v_of (v := .int k (k.wrap n)) rfl
  simp only [fitI, hs, if_true] at h ⊢; rw [wrap_in k n h]; exact RV.v_of (v := .int k n) rfl
def binI (op : BinOp) (k : IntKind) (a b : Int) : QR :=
  match op with
  | .add => some (fitI k (a + b))
  | .sub => some (fitI k (a - b))
  | .mul => some (fitI k (a * b))
  | .quo => some (.v (.int k (a / b)), 0 ≤ a ∧ 0 < b ∧ a ≤ ihi k)
  | .rem => some (.v (.int k (a % b)), 0 ≤ a ∧ 0 < b)
  | .and => some (.v (.int k (bits .and k a b)), True)
  | .or => some (.v (.int k (bits .or k a b)), True)
  | .xor => some (.v (.int k (bits .xor k a b)), True)
  | .andNot => some (.v (.int k (bits .andNot k a b)), True)
  | .eql => some (.v (.bool (decide (a = b))), True)
  | .neq => some (.v (.bool (!decide (a = b))), True)
  | .lss => some (.v (.bool (decide (a < b))), True)
  | .leq => some (.v (.bool (decide (a ≤ b))), True)
  | .gtr => some (.v (.bool (decide (b < a))), True)
  | .geq => some (.v (.bool (decide (b ≤ a))), True)
  | _ => none
def bin (op : BinOp) : AV → AV → QR
  | .v (.int k a), .v (.int k' b) =>
    match op with
    | .shl => some (.v (.int k (k.wrap (a * 2 ^ (min b.toNat k.bits)))), 0 ≤ b)
    | .shr => some (.v (.int k (a / (2 ^ (min b.toNat k.bits)))), 0 ≤ b)
    | _ => if k = k' then binI op k a b else none
  | .v (.string a), .v (.string b) =>
    match op with
    | .eql => some (.v (.bool (a.toList == b.toList)), True)
    | .neq => some (.v (.bool (!(a.toList == b.toList))), True)
    | _ => none
  | _, _ => none
section
variable {g : Gh} {P : Program}
theorem binI_sound {op : BinOp} {k : IntKind} {a b : Int} {r : AV} {c : Prop} (h : binI op k a b = some (r, c)) (hc : c) (xT : TypeId) :
    ∃ z, RV g r z ∧ ∀ w, (binOp op xT (.int k a) (.int k b)).run P w = .ok z w := by
  have fit : ∀ n, some (fitI k n) = some (r, c) → RV g r (.int k (k.wrap n)) := fun n e => by
    injection e with e
    have h1 : (fitI k n).1 = r := by rw [e]
    have h2 : (fitI k n).2 = c := by rw [e]
    rw [← h1]; exact fitI_sound (by rw [h2]; exact hc)
  cases op <;> simp only [binI] at h <;> try (cases h; done)
  case add => exact ⟨_, fit _ h, fun w => by simp [binOp, Op.intArith]⟩
  case sub => exact ⟨_, fit _ h, fun w => by simp [binOp, Op.intArith]⟩
  case mul => exact ⟨_, fit _ h, fun w => by simp [binOp, Op.intArith]⟩
  case quo =>
    simp only [Option.some.injEq, Prod.mk.injEq] at h
    obtain ⟨rfl, rfl⟩ := h
    obtain ⟨h1, h2, h3⟩ := hc
    refine ⟨_, RV.v_of rfl, fun w => ?_⟩
    have e1 : a.tdiv b = a / b := Int.tdiv_eq_ediv_of_nonneg h1
    have e2 : k.wrap (a / b) = a / b := wrap_in k _ ⟨by
      have := Int.ediv_nonneg h1 (Int.le_of_lt h2); cases k <;> simp only [ilo] <;> omega, Int.le_trans (Int.ediv_le_self _ h1) h3⟩
    have hb : b ≠ 0 := by omega
    simp [binOp, Op.intDiv, hb, e1, e2]
  case rem =>
    simp only [Option.some.injEq, Prod.mk.injEq] at h
    obtain ⟨rfl, rfl⟩ := h
    obtain ⟨h1, h2⟩ := hc
    refine ⟨_, RV.v_of rfl, fun w => ?_⟩
    have e1 : a.tmod b = a % b := Int.tmod_eq_emod_of_nonneg h1
    have hb : b ≠ 0 := by omega
    simp [binOp, Op.intDiv, hb, e1]
  all_goals
    simp only [Option.some.injEq, Prod.mk.injEq] at h
    obtain ⟨rfl, rfl⟩ := h
    refine ⟨_, RV.v_of rfl, fun w => ?_⟩
    first
      | (simp [binOp, Op.intBits, bits]; done)
      | (simp [binOp, Op.intCmp]; done)
      | (simp [binOp, Op.intCmp]; rfl)
theorem bin_sound {op : BinOp} {x y r : AV} {c : Prop} (h : bin op x y = some (r, c)) (hc : c) {u v : Value} (hx : RV g x u) (hy : RV g y v) (xT : TypeId) :
    ∃ z, RV g r z ∧ ∀ w, (binOp op xT u v).run P w = .ok z w := by
  unfold bin at h
  split at h
  · rename_i k a k' b
    have e1 := hx.v_inv; have e2 := hy.v_inv; subst e1 e2
    split at h
    · simp only [Option.some.injEq, Prod.mk.injEq] at h
      obtain ⟨rfl, rfl⟩ := h
      exact ⟨_, RV.v_of rfl, fun w => by simp [binOp, Op.shift, Int.not_lt.2 hc]⟩
    · simp only [Option.some.injEq, Prod.mk.injEq] at h
      obtain ⟨rfl, rfl⟩ := h
      refine ⟨_, RV.v_of rfl, fun w => ?_⟩
      have e : a.fdiv (2 ^ (min b.toNat k.bits)) = a / (2 ^ (min b.toNat k.bits)) := Int.fdiv_eq_ediv_of_nonneg _ (Int.le_of_lt (Int.pow_pos (by decide)))
      simp [binOp, Op.shift, Int.not_lt.2 hc, e]
    split at h
    · rename_i e; subst e; exact binI_sound h hc xT
    cases h
  · rename_i a b
    have e1 := hx.v_inv; have e2 := hy.v_inv; subst e1 e2
    split at h <;> first | (cases h; done) | skip
    all_goals
      simp only [Option.some.injEq, Prod.mk.injEq] at h
      obtain ⟨rfl, rfl⟩ := h
      exact ⟨_, RV.v_of rfl, fun w => by simp [binOp, Op.stringOp]⟩
  cases h
def fit : Ty → AV → Prop
  | .ba n, .ba l => l.length = n
  | .nl, .st [] => True
  | .cn T Ts, .st (a :: az) => fit T a ∧ fit Ts (.st az)
  | .sc, .v _ => True
  | .sc, .bs _ _ => True
  | .sc, .bc _ _ _ => True
  | .sc, .sl _ _ _ => True
  | .sc, .ptr _ _ => True
  | .sc, .pti _ _ _ => True
  | .sc, .win _ _ _ _ => True
  | .sc, .ref _ _ => True
  | .sc, .vw _ _ _ => True
  | .sc, .pv _ _ _ _ => True
  | .sc, .mr _ => True
  | .sc, .slc _ _ _ => True
  | .sc, .vwc _ _ _ _ => True
  | _, _ => False
theorem RC.fit {T' : Ty} {a : AV} {cs : List Value} (h : RC g T' a cs) : ∀ {T : Ty}, fit T a → RC g T a cs := by
  induction h with
  | v h => intro T hf; cases T <;> simp only [Proofs.YtgffimanhmpohaaGreat.fit] at hf; exact .v h
  | ba h => intro T hf; cases T <;> simp only [Proofs.YtgffimanhmpohaaGreat.fit] at hf; exact .ba hf
  | nl => intro T hf; cases T <;> simp only [Proofs.YtgffimanhmpohaaGreat.fit] at hf; exact .nl
  | cn h hs ih1 ih2 => intro T hf; cases T <;> simp only [Proofs.YtgffimanhmpohaaGreat.fit] at hf; exact .cn (ih1 hf.1) (ih2 hf.2)
  | bs hc hm hr ht => intro T hf; cases T <;> simp only [Proofs.YtgffimanhmpohaaGreat.fit] at hf; exact .bs hc hm hr ht
  | sl hc hm F hr hv ht ih => intro T hf; cases T <;> simp only [Proofs.YtgffimanhmpohaaGreat.fit] at hf; exact .sl hc hm F hr hv ht
  | bc hn hm hr ht => intro T hf; cases T <;> simp only [Proofs.YtgffimanhmpohaaGreat.fit] at hf; exact .bc hn hm hr ht
  | ptr h ho => intro T hf; cases T <;> simp only [Proofs.YtgffimanhmpohaaGreat.fit] at hf; exact .ptr h ho
  | pti h ho hk => intro T hf; cases T <;> simp only [Proofs.YtgffimanhmpohaaGreat.fit] at hf; exact .pti h ho hk
  | win h ho hn hc hm hA => intro T hf; cases T <;> simp only [Proofs.YtgffimanhmpohaaGreat.fit] at hf; exact .win h ho hn hc hm hA
  | ref cs h hr ih => intro T hf; cases T <;> simp only [Proofs.YtgffimanhmpohaaGreat.fit] at hf; exact .ref cs h hr
  | vw h hT hg hn hm hx => intro T hf; cases T <;> simp only [Proofs.YtgffimanhmpohaaGreat.fit] at hf; exact .vw h hT hg hn hm hx
  | pv h hT hg ho hx => intro T hf; cases T <;> simp only [Proofs.YtgffimanhmpohaaGreat.fit] at hf; exact .pv h hT hg ho hx
  | mr h hT => intro T hf; cases T <;> simp only [Proofs.YtgffimanhmpohaaGreat.fit] at hf; exact .mr h hT
  | slc hn hm F hr hv ih => intro T hf; cases T <;> simp only [Proofs.YtgffimanhmpohaaGreat.fit] at hf; exact .slc hn hm F hr hv
  | vwc h hk ih => intro T hf; cases T <;> simp only [Proofs.YtgffimanhmpohaaGreat.fit] at hf; exact .vwc h hk
theorem RC.agg_of {T : Ty} {a : AV} {cs : List Value} (h : RC g T a cs) (hT : T.agg = false) : ∃ u, cs = [u] ∧ T = .sc := by
  cases h <;> first | exact ⟨_, rfl, rfl⟩ | (simp [Ty.agg] at hT)
theorem RV.fit {T : Ty} {a : AV} {v : Value} (h : RV g a v) (hf : fit T a) : ∃ cs, RC g T a cs ∧ v = mkV T cs := by
  have h1 : RV1 g a v := by
    cases a with
    | any => cases T <;> simp only [Proofs.YtgffimanhmpohaaGreat.fit] at hf
    | tup az => cases T <;> simp only [Proofs.YtgffimanhmpohaaGreat.fit] at hf
    | _ => exact h
  rcases h1 with ⟨T', cs, h1, h2, h3⟩ | h1
  · refine ⟨cs, h2.fit hf, ?_⟩
    have hTa : T.agg = true := by
      cases h2 <;> first | (simp [Ty.agg] at h1; done) | (cases T <;> simp only [Proofs.YtgffimanhmpohaaGreat.fit] at hf <;> rfl)
    rw [mkV, if_pos hTa]; exact h3
  have h2 := h1.fit hf
  refine ⟨_, h2, ?_⟩
  have hTa : T = .sc := by cases h1 <;> (cases T <;> simp only [Proofs.YtgffimanhmpohaaGreat.fit] at hf <;> rfl)
  subst hTa; rfl
theorem RC.rv {T : Ty} {a : AV} {cs : List Value} (h : RC g T a cs) : RV1 g a (mkV T cs) := by
  cases hT : T.agg with
  | true => exact .inl ⟨T, cs, hT, h, by simp [mkV, hT]⟩
  | false => obtain ⟨u, rfl, rfl⟩ := h.agg_of hT; exact .inr h
theorem RV1.rv' {a : AV} {v : Value} (h : RV1 g a v) : RV g a v := h.rv
theorem mkV_cells {T : Ty} {a : AV} {cs : List Value} (h : RC g T a cs) : (mkV T cs).cells.toList = cs := by
  cases hT : T.agg with
  | true => simp [mkV, hT, Value.cells]
  | false =>
    obtain ⟨u, rfl, rfl⟩ := h.agg_of hT
    have := h.one u (by simp)
    cases u <;> first | rfl | (simp [Value.oneCell'] at this)
theorem TI.ok.isAgg {t : TypeId} {i : TI} (h : i.ok P t) (w : World) : (isAgg t).run P w = .ok i.ty.agg w := by
  obtain ⟨h1, h2⟩ := h.agg
  cases hu : P.underlying t with
  | none => rw [hu] at h1; cases h1
  | some d =>
    unfold Go.isAgg
    rw [Sem.run_bind, run_underlying hu w, ← h2, hu]
    cases d <;> simp [aggB]
theorem TI.ok.sizeOf {t : TypeId} {i : TI} (h : i.ok P t) (w : World) : (sizeOf t).run P w = .ok i.ty.size w := by
  obtain ⟨inf, z, h1, h2, _⟩ := h.info
  simp [Go.sizeOf, typeInfo, h1, h2]
theorem run_loadV {t : TypeId} {i : TI} (h : i.ok P t) {a : AV} {cs : List Value} (hr : RC g i.ty a cs) {w : World} {b o : Nat} (hc : ∀ j u, cs[j]? = some u → w.cell? ⟨b, o + j, none⟩ = some u) :
    (loadVar t ⟨b, o, none⟩).run P w = .ok (mkV i.ty cs) w := by
  unfold loadVar
  rw [Sem.run_bind, h.isAgg w]
  simp only [Result.andThen_ok]
  cases hT : i.ty.agg with
  | true =>
    have hl := run_loadCells_list (P := P) w ⟨b, o, none⟩ cs (fun j v hv => by rw [addr_add]; exact hc j v hv)
    rw [hr.size] at hl
    simp [h.sizeOf w, hl, mkV, hT]
  | false =>
    obtain ⟨u, rfl, hi⟩ := hr.agg_of hT
    have := hc 0 u rfl
    rw [Nat.add_zero] at this
    simp [this, mkV, hT]
theorem run_part {t : TypeId} {i : TI} (h : i.ok P t) {a : AV} {pre mid post : List Value} {xs : Array Value} {off : Nat} (hx : xs.toList = pre ++ mid ++ post) (ho : pre.length = off) (hr : RC g i.ty a mid) (w : World) :
    (Go.part t xs off).run P w = .ok (mkV i.ty mid) w := by
  unfold Go.part
  rw [Sem.run_bind, h.isAgg w]
  simp only [Result.andThen_ok]
  cases hT : i.ty.agg with
  | true =>
    have e : xs.extract off (off + i.ty.size) = mid.toArray := by
      apply Array.toList_inj.1
      rw [Array.toList_extract, hx, ← hr.size, ← ho]
      simp
    simp [h.sizeOf w, e, mkV, hT]
  | false =>
    obtain ⟨u, rfl, hi⟩ := hr.agg_of hT
    have e : xs[off]? = some u := by rw [← Array.getElem?_toList, hx, ← ho]; simp
    simp [e, mkV, hT]
end
def eqF (τ : Tab) (f : TypeId → AV → AV → Option Bool) : Nat → Ty → List (Nat × Nat) → List AV → List AV → Option Bool
  | _, .nl, [], [], [] => some true
  | off, .cn T Ts, (o, t) :: fs, a :: az, b :: bz =>
    if o = off then
      match Tab.get t τ with
      | some i => if i.ty = T then (match f t a b, eqF τ f (off + T.size) Ts fs az bz with
        | some r, some s => some (r && s)
        | _, _ => none) else none
      | none => none
    else none
  | _, _, _, _, _ => none
def eqA (τ : Tab) : Nat → TypeId → AV → AV → Option Bool
  | 0, _, _, _ => none
  | d + 1, t, x, y =>
    match Tab.get t τ with
    | none => none
    | some i =>
      match i.d, x, y with
      | .int _, .v (.int k a), .v (.int k' b) => if k = k' then some (decide (a = b)) else none
      | .bool, .v (.bool a), .v (.bool b) => some (a == b)
      | .str, .v (.string a), .v (.string b) => some (a.toList == b.toList)
      | .ptr _, .v (.pointer none), .v (.pointer none) => some true
      | .ptr _, .ptr _ _, .v (.pointer none) => some false
      | .ptr _, .v (.pointer none), .ptr _ _ => some false
      | .ptr _, .ref _ _, .v (.pointer none) => some false
      | .ptr _, .v (.pointer none), .ref _ _ => some false
      | .ptr _, .pv _ _ _ _, .v (.pointer none) => some false
      | .ptr _, .v (.pointer none), .pv _ _ _ _ => some false
      | .arr n e, .ba a, .ba b => match Tab.get e τ with
        | some j => match j.d with | .int .u8 => if j.ty = .sc ∧ i.ty = .ba n then some (decide (a = b)) else none | _ => none
        | none => none
      | .rcd fs, .st az, .st bz => eqF τ (eqA τ d) 0 i.ty fs az bz
      | _, _, _ => none
section
variable {g : Gh} {P : Program}
theorem RC.v_inv {T : Ty} {x : Value} {cs : List Value} (h : RC g T (.v x) cs) : T = .sc ∧ cs = [x] := by cases h; exact ⟨rfl, rfl⟩
theorem RC.ba_inv {T : Ty} {l : List UInt8} {cs : List Value} (h : RC g T (.ba l) cs) : T = .ba l.length ∧ cs = l.map B8 := by cases h with | ba h => subst h; exact ⟨rfl, rfl⟩
theorem RC.ptr_inv {T : Ty} {i : Nat} {p : List Nat} {cs : List Value} (h : RC g T (.ptr i p) cs) : T = .sc ∧ ∃ x o T', g.bx[i]? = some x ∧ x.ty.loc p = some (o, T') ∧ cs = [.pointer (some ⟨x.blk, o, none⟩)] := by
  cases h with | ptr h ho => exact ⟨rfl, _, _, _, h, ho, rfl⟩
theorem RC.pv_one {T : Ty} {i γ k : Nat} {p : List Nat} {cs : List Value} (h : RC g T (.pv i γ k p) cs) : T = .sc ∧ ∃ b o, cs = [.pointer (some ⟨b, o, none⟩)] := by cases h; exact ⟨rfl, _, _, rfl⟩
theorem RC.ref_one {T T' : Ty} {a : AV} {cs : List Value} (h : RC g T (.ref T' a) cs) : T = .sc ∧ ∃ b o, cs = [.pointer (some ⟨b, o, none⟩)] := by
  cases h with | ref cs h hr => exact ⟨rfl, _, _, rfl⟩
theorem mkV_sc (u : Value) : mkV .sc [u] = u := rfl
theorem run_part_byte {e : TypeId} {j : TI} (h : j.ok P e) (hj : j.ty = .sc) (l : List UInt8) (k : Nat) (hk : k < l.length) (w : World) : (Go.part e (l.map B8).toArray (k * 1)).run P w = .ok (B8 l[k]) w := by
  unfold Go.part
  rw [Sem.run_bind, h.isAgg w, hj]
  simp [Ty.agg, hk]
theorem part_one {e : TypeId} {j : TI} (h : j.ok P e) (hj : j.ty = .sc) (xs : Array Value) (k : Nat) (u : Value) (hk : xs[k]? = some u) (w : World) : (Go.part e xs (k * 1)).run P w = .ok u w := by
  unfold Go.part
  rw [Sem.run_bind, h.isAgg w, hj]
  simp [Ty.agg, hk]
theorem eqBytes_aux {e : TypeId} {j : TI} (h : j.ok P e) (hj : j.ty = .sc) (hd : P.underlying e = some (.int .u8)) (a b : List UInt8) (D : Nat) (hl : b.length = a.length) (f : Nat → Option Bool × PUnit.{1} → Sem (ForInStep (Option Bool × PUnit.{1})))
    (hf : ∀ k s w, (f k s).run P w = (((Go.part e (a.map B8).toArray (k * 1)).run P w).andThen fun x w => ((Go.part e (b.map B8).toArray (k * 1)).run P w).andThen fun y w => ((Op.equalIn (D + 1) e x y).run P w).andThen fun r w => .ok (if r = true then ForInStep.yield ⟨none, PUnit.unit⟩ else ForInStep.done ⟨some false, PUnit.unit⟩) w)) :
    ∀ m s, s + m = a.length → ∀ w, (forIn (List.range' s m) (⟨none, PUnit.unit⟩ : Option Bool × PUnit.{1}) f).run P w = .ok ⟨if a.drop s = b.drop s then none else some false, PUnit.unit⟩ w := by
  intro m
  induction m with
  | zero =>
    intro s hs w
    have e1 : a.drop s = [] := List.drop_of_length_le (by omega)
    have e2 : b.drop s = [] := List.drop_of_length_le (by omega)
    simp [e1, e2]
  | succ m ih =>
    intro s hs w
    have h1 : s < a.length := by omega
    have h2 : s < b.length := by omega
    rw [List.range'_succ, List.forIn_cons, Sem.run_bind, hf]
    have ea : (a.map B8).toArray[s]? = some (B8 a[s]) := by simp [h1]
    have eb : (b.map B8).toArray[s]? = some (B8 b[s]) := by simp [h2]
    rw [part_one h hj _ _ _ ea, Result.andThen_ok, part_one h hj _ _ _ eb, Result.andThen_ok, run_equalIn_int _ _ _ _ _ _ _ hd]
    simp only [Result.andThen_ok]
    rw [List.drop_eq_getElem_cons h1, List.drop_eq_getElem_cons h2]
    by_cases hx : a[s] = b[s]
    · have : ((a[s].toNat : Int) == (b[s].toNat : Int)) = true := by rw [hx]; simp
      rw [this, if_pos rfl]
      rw [ih (s + 1) (by omega) w, hx]
      simp only [List.cons.injEq, true_and]
    have : ((a[s].toNat : Int) == (b[s].toNat : Int)) = false := by
      rw [beq_eq_false_iff_ne]; intro e1; exact hx (UInt8.toNat_inj.1 (by omega))
    rw [this, if_neg Bool.false_ne_true]
    simp only [List.cons.injEq, hx, false_and, if_false, Sem.run_pure]
theorem run_eqBytes {t e : TypeId} {j : TI} (a b : List UInt8) (ht : P.underlying t = some (.array a.length e)) (h : j.ok P e) (hj : j.ty = .sc) (hd : P.underlying e = some (.int .u8)) (hl : b.length = a.length) (D : Nat) (w : World) :
    (Op.equalIn (D + 2) t (.agg (a.map B8).toArray) (.agg (b.map B8).toArray)).run P w = .ok (decide (a = b)) w := by
  have hs := h.sizeOf w
  rw [hj] at hs
  simp only [Ty.size] at hs
  rw [Op.equalIn]
  simp only [Sem.run_bind, run_underlying ht, Result.andThen_ok, hs, Std.Legacy.Range.forIn_eq_forIn_range', Std.Legacy.Range.size, Nat.sub_zero, Nat.add_sub_cancel, Nat.div_one]
  rw [eqBytes_aux h hj hd a b D hl _ (fun k s w => by
    simp only [Sem.run_bind]
    congr 1; funext x w; congr 1; funext y w; congr 1; funext r w
    cases r <;> rfl) a.length 0 (by omega) w]
  simp only [List.drop_zero, Result.andThen_ok]
  by_cases e : a = b <;> simp [e]
theorem RC.st_inv {T : Ty} {a : AV} {az : List AV} {cs : List Value} {Ts : Ty} (h : RC g (.cn T Ts) (.st (a :: az)) cs) : ∃ c d, cs = c ++ d ∧ RC g T a c ∧ RC g Ts (.st az) d := by
  cases h with | cn h hs => exact ⟨_, _, rfl, h, hs⟩
theorem eqF_sound {τ : Tab} (hτ : τ.ok P) {f : TypeId → AV → AV → Option Bool} {D : Nat}
    (hf : ∀ t x y r i cs ds, Tab.get t τ = some i → f t x y = some r → RC g i.ty x cs → RC g i.ty y ds → ∀ w, (Op.equalIn D t (mkV i.ty cs) (mkV i.ty ds)).run P w = .ok r w) :
    ∀ (F : List Field) (Ts : Ty) (off : Nat) (az bz : List AV) (r : Bool) (xs ys : Array Value) (px py cs ds : List Value),
      eqF τ f off Ts (F.map fun f => (f.offset, f.type)) az bz = some r → (∀ f ∈ F, f.name ≠ "_") → RC g Ts (.st az) cs → RC g Ts (.st bz) ds → xs.toList = px ++ cs → px.length = off → ys.toList = py ++ ds → py.length = off →
      ∀ w, (Op.eqFields D xs ys F).run P w = .ok r w := by
  intro F
  induction F with
  | nil =>
    intro Ts off az bz r xs ys px py cs ds he _ h1 h2 _ _ _ _ w
    cases Ts <;> cases az <;> cases bz <;> simp [eqF] at he
    subst he; simp [Op.eqFields]
  | cons f0 F ih =>
    intro Ts off az bz r xs ys px py cs ds he hn h1 h2 hx hpx hy hpy w
    cases Ts <;> cases az <;> cases bz <;> simp only [List.map_cons, eqF, reduceCtorEq] at he
    rename_i T Ts a az b bz
    split at he
    · rename_i e1
      split at he
      · rename_i i hi
        split at he
        · rename_i e2
          split at he
          · rename_i r1 s1 hr hs
            injection he with he; subst he e2
            obtain ⟨c1, d1, rfl, g1, g2⟩ := h1.st_inv
            obtain ⟨c2, d2, rfl, k1, k2⟩ := h2.st_inv
            have hi' := Tab.get_ok hτ hi
            have p1 := run_part hi' (pre := px) (mid := c1) (post := d1) (xs := xs) (off := f0.offset) (by rw [hx, List.append_assoc]) (by omega) g1
            have p2 := run_part hi' (pre := py) (mid := c2) (post := d2) (xs := ys) (off := f0.offset) (by rw [hy, List.append_assoc]) (by omega) k1
            have p3 := hf _ _ _ _ _ _ _ hi hr g1 k1
            have hnm := hn f0 List.mem_cons_self
            have p4 := ih Ts (off + i.ty.size) az bz s1 xs ys (px ++ c1) (py ++ c2) d1 d2 hs (fun f hf => hn f (List.mem_cons_of_mem _ hf)) g2 k2 (by rw [hx, List.append_assoc]) (by rw [List.length_append, g1.size, hpx]) (by rw [hy, List.append_assoc]) (by rw [List.length_append, k1.size, hpy])
            simp only [Op.eqFields, if_pos hnm, Sem.run_bind, p1, p2, p3, Result.andThen_ok]
            cases r1
            · simp
            simp [p4]
          cases he
        cases he
      cases he
    cases he
theorem eqA_sound {τ : Tab} (hτ : τ.ok P) : ∀ (d : Nat) (t : TypeId) (x y : AV) (r : Bool) (i : TI) (cs ds : List Value), Tab.get t τ = some i → eqA τ d t x y = some r → RC g i.ty x cs → RC g i.ty y ds →
    ∀ D, d < D → ∀ w, (Op.equalIn D t (mkV i.ty cs) (mkV i.ty ds)).run P w = .ok r w := by
  intro d
  induction d with
  | zero => intro t x y r i cs ds _ h; simp [eqA] at h
  | succ d ih =>
    intro t x y r i cs ds hi h h1 h2 D hD w
    have hok := Tab.get_ok hτ hi
    have hd := hok.d
    obtain ⟨D, rfl⟩ : ∃ D', D = D' + 1 := ⟨D - 1, by omega⟩
    simp only [eqA, hi] at h
    split at h
    · rename_i hid
      rw [hid] at hd
      obtain ⟨e1, rfl⟩ := h1.v_inv; obtain ⟨_, rfl⟩ := h2.v_inv
      rw [e1, mkV_sc, mkV_sc]
      split at h
      · rename_i e; subst e; injection h with h; subst h
        rw [run_equalIn_int w D t _ _ _ _ hd]; rfl
      cases h
    · rename_i hid
      rw [hid] at hd
      obtain ⟨e1, rfl⟩ := h1.v_inv; obtain ⟨_, rfl⟩ := h2.v_inv
      rw [e1, mkV_sc, mkV_sc]
      injection h with h; subst h
      exact run_equalIn_bool' w D t _ _ hd
    · rename_i hid
      rw [hid] at hd
      obtain ⟨e1, rfl⟩ := h1.v_inv; obtain ⟨_, rfl⟩ := h2.v_inv
      rw [e1, mkV_sc, mkV_sc]
      injection h with h; subst h
      exact run_equalIn_string w D t _ _ hd
    · rename_i hid
      rw [hid] at hd
      obtain ⟨e1, rfl⟩ := h1.v_inv; obtain ⟨_, rfl⟩ := h2.v_inv
      rw [e1, mkV_sc]
      injection h with h; subst h
      simp [Op.equalIn, run_underlying (show P.underlying t = _ from hd)]
    · rename_i hid
      rw [hid] at hd
      obtain ⟨_, rfl⟩ := h2.v_inv
      obtain ⟨e1, x, o, T', _, _, rfl⟩ := h1.ptr_inv
      injection h with h; subst h
      rw [e1, mkV_sc, mkV_sc]
      simp [Op.equalIn, run_underlying (show P.underlying t = _ from hd)]
    · rename_i hid
      rw [hid] at hd
      obtain ⟨_, rfl⟩ := h1.v_inv
      obtain ⟨e1, x, o, T', _, _, rfl⟩ := h2.ptr_inv
      injection h with h; subst h
      rw [e1, mkV_sc, mkV_sc]
      simp [Op.equalIn, run_underlying (show P.underlying t = _ from hd)]
    · rename_i hid
      rw [hid] at hd
      obtain ⟨_, rfl⟩ := h2.v_inv
      obtain ⟨e1, b, o, rfl⟩ := h1.ref_one
      injection h with h; subst h
      rw [e1, mkV_sc, mkV_sc]
      simp [Op.equalIn, run_underlying (show P.underlying t = _ from hd)]
    · rename_i hid
      rw [hid] at hd
      obtain ⟨_, rfl⟩ := h1.v_inv
      obtain ⟨e1, b, o, rfl⟩ := h2.ref_one
      injection h with h; subst h
      rw [e1, mkV_sc, mkV_sc]
      simp [Op.equalIn, run_underlying (show P.underlying t = _ from hd)]
    · rename_i hid
      rw [hid] at hd
      obtain ⟨_, rfl⟩ := h2.v_inv
      obtain ⟨e1, b, o, rfl⟩ := h1.pv_one
      injection h with h; subst h
      rw [e1, mkV_sc, mkV_sc]
      simp [Op.equalIn, run_underlying (show P.underlying t = _ from hd)]
    · rename_i hid
      rw [hid] at hd
      obtain ⟨_, rfl⟩ := h1.v_inv
      obtain ⟨e1, b, o, rfl⟩ := h2.pv_one
      injection h with h; subst h
      rw [e1, mkV_sc, mkV_sc]
      simp [Op.equalIn, run_underlying (show P.underlying t = _ from hd)]
    · rename_i n e a b hid
      rw [hid] at hd
      split at h
      · rename_i j hj
        split at h
        · rename_i hjd
          split at h
          · rename_i hjt
            obtain ⟨hjt, hin⟩ := hjt
            injection h with h; subst h
            have hjok := Tab.get_ok hτ hj
            have hjd' := hjok.d
            rw [hjd] at hjd'
            obtain ⟨e1, rfl⟩ := h1.ba_inv; obtain ⟨e2, rfl⟩ := h2.ba_inv
            have e2' := e1.symm.trans e2
            injection e2' with e2'
            have hn : n = a.length := by rw [hin] at e1; injection e1
            subst hn
            obtain ⟨D, rfl⟩ : ∃ D', D = D' + 1 := ⟨D - 1, by omega⟩
            rw [e1]
            exact run_eqBytes a b hd.1 hjok hjt hjd' e2'.symm D w
          cases h
        cases h
      cases h
    · rename_i fs az bz hid
      rw [hid] at hd
      obtain ⟨F, hF, hfs, hnm⟩ := hd
      subst hfs
      have hT : i.ty.agg = true := by have := hok.agg.2; rw [hF] at this; exact this.symm
      have hst := (hok.eq hT).2
      have hfo : P.fieldsOf t = F := by simp [Program.fieldsOf, hF]
      rw [mkV, mkV, if_pos hT, if_pos hT, run_equalIn_struct w D t _ _ (by rw [hfo]; exact hF) hst, hfo]
      exact eqF_sound hτ (fun t x y r i cs ds a1 a2 a3 a4 w => ih t x y r i cs ds a1 a2 a3 a4 D (by omega) w) F.toList i.ty 0 az bz r _ _ [] [] cs ds h (fun f hf => (hnm f hf).1) h1 h2 (by simp) rfl (by simp) rfl w
    cases h
end
section
variable {g : Gh}
theorem flat_len {F : Nat → List Value} {s : Nat} : ∀ m, (∀ k, k < m → (F k).length = s) → ((List.range m).flatMap F).length = m * s := by
  intro m
  induction m with
  | zero => intro _; simp
  | succ m ih => intro h; rw [List.range_succ, List.flatMap_append, List.length_append, ih fun k hk => h k (by omega)]; simp [h m (by omega), Nat.add_mul]
theorem flat_get {F : Nat → List Value} {s : Nat} : ∀ m, (∀ k, k < m → (F k).length = s) → ∀ k i u, k < m → (F k)[i]? = some u → ((List.range m).flatMap F)[k * s + i]? = some u := by
  intro m
  induction m with
  | zero => intro _ k i u hk; omega
  | succ m ih =>
    intro h k i u hk hu
    have hl := flat_len m fun k hk => h k (by omega)
    rw [List.range_succ, List.flatMap_append]
    have hi : i < s := by rw [← h k hk]; exact (List.getElem?_eq_some_iff.1 hu).1
    by_cases hkm : k < m
    · have : (k + 1) * s ≤ m * s := Nat.mul_le_mul_right s hkm
      rw [Nat.add_mul, Nat.one_mul] at this
      rw [List.getElem?_append_left (by rw [hl]; omega)]
      exact ih (fun k hk => h k (by omega)) k i u hkm hu
    obtain rfl : k = m := by omega
    rw [List.getElem?_append_right (by rw [hl]; omega), hl, Nat.add_sub_cancel_left]; simpa using hu
theorem flat_get' {F : Nat → List Value} {s : Nat} : ∀ m, (∀ k, k < m → (F k).length = s) → ∀ j u, ((List.range m).flatMap F)[j]? = some u → ∃ k, k < m ∧ ∃ i, (F k)[i]? = some u ∧ j = k * s + i := by
  intro m
  induction m with
  | zero => intro _ j u hu; simp at hu
  | succ m ih =>
    intro h j u hu
    have hl := flat_len m fun k hk => h k (by omega)
    rw [List.range_succ, List.flatMap_append] at hu
    by_cases hj : j < m * s
    · rw [List.getElem?_append_left (by rw [hl]; exact hj)] at hu
      obtain ⟨k, hk, i, h1, h2⟩ := ih (fun k hk => h k (by omega)) j u hu
      exact ⟨k, by omega, i, h1, h2⟩
    rw [List.getElem?_append_right (by rw [hl]; omega), hl] at hu
    exact ⟨m, by omega, j - m * s, by simpa using hu, by omega⟩
theorem RC.vw_inv {T : Ty} {i γ n : Nat} {cs : List Value} (h : RC g T (.vw i γ n) cs) : T = .sc ∧ ∃ (x : Bx) (e : Nat) (T' : Ty) (A : Option Addr) (c : Nat), cs = [.slice A n c] ∧ g.bx[i]? = some x ∧ x.ty = .vc e T' ∧ γ ≤ x.gen ∧ n ≤ c ∧ c ≤ maxLen ∧
    (x.gen = γ → c = x.cap ∧ (x.off = true ∧ A = none ∨ x.off = false ∧ A = some ⟨x.blk, 0, none⟩)) := by
  cases h with | vw h hT hg hn hm hx => exact ⟨rfl, _, _, _, _, _, rfl, h, hT, hg, hn, hm, hx⟩
theorem RC.pv_inv {T : Ty} {i γ k : Nat} {p : List Nat} {cs : List Value} (h : RC g T (.pv i γ k p) cs) : T = .sc ∧ ∃ (x : Bx) (e : Nat) (T1 T2 : Ty) (b o : Nat), cs = [.pointer (some ⟨b, k * T1.size + o, none⟩)] ∧ g.bx[i]? = some x ∧ x.ty = .vc e T1 ∧ γ ≤ x.gen ∧ T1.loc p = some (o, T2) ∧ (x.gen = γ → x.off = false ∧ k < x.cap ∧ b = x.blk) := by
  cases h with | pv h hT hg ho hx => exact ⟨rfl, _, _, _, _, _, _, rfl, h, hT, hg, ho, hx⟩
theorem BC.vc_inv {T : Ty} {γ : Nat} {es : List AV} {x : Bx} (h : BC g T (.vc γ es) x) : ∃ T' F sp, (∃ e, T = .vc e T' ∧ x.tid = e) ∧ x.mp = none ∧ x.gen = γ ∧ 0 < T'.size ∧ (x.cap ≤ maxLen ∧ (x.off = true → x.cap = 0)) ∧ x.cells = (List.range es.length).flatMap F ++ sp ∧ x.cells.length = x.cap * T'.size ∧ (∀ u ∈ sp, u.oneCell' = true) ∧ ∀ k (h : k < es.length), RC g.base T' es[k] (F k) := by
  rcases h with ⟨_, _, h⟩ | ⟨T', γ', es', F, sp, h1, h2, h3, h4, h5, h6, h7, h8, h9, h10⟩ | ⟨_, _, _, _, h, _⟩ | ⟨_, _, _, _, _, _, _, h, _⟩
  · cases h
  · injection h2 with e1 e2; subst e1 e2; exact ⟨T', F, sp, h1, h3, h4, h5, h6, h7, h8, h9, h10⟩
  · cases h
  cases h
theorem BC.vb_inv {T : Ty} {γ : Nat} {l : List UInt8} {x : Bx} (h : BC g T (.vb γ l) x) : ∃ l2, (∃ e, T = .vc e .sc ∧ x.tid = e) ∧ x.mp = none ∧ x.gen = γ ∧ (x.cap ≤ maxLen ∧ (x.off = true → x.cap = 0)) ∧ x.cells = (l ++ l2).map B8 ∧ x.cells.length = x.cap := by
  rcases h with ⟨_, _, h⟩ | ⟨T', γ', es', F, sp, h1, h2, _⟩ | ⟨γ', l', l2, h1, h2, h3⟩ | ⟨_, _, _, _, _, _, _, h, _⟩
  · cases h
  · cases h2
  · injection h2 with e1 e2; subst e1 e2; exact ⟨l2, h1, h3⟩
  cases h
end
end Go.Proofs.YtgffimanhmpohaaGreat
