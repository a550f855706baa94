/- Operations without effect, all kinds. -/
import Derived.Test.YtpeefeioccglcaaEqv
import Derived.Test.YtpeefeioccglcaaKit
set_option linter.unusedSimpArgs false
set_option linter.unusedVariables false
namespace Go.Proofs.Ytpeefeioccglcaa
open Go Go.RowKit
def un (op : UnOp) : AV → QR
  | .v (.bool b) => match op with | .not => some (.v (.bool (!b)), True) | _ => none
  | .v (.int k n) => match op with | .neg => some (fitI k (0 - n)) | .xor => some (.v (.int k (bits .xor k (if k.signed then -1 else k.max) n)), True) | _ => none
  | _ => none
def convI (k' k : IntKind) (n : Int) : AV × Prop := if k.bits ≤ k'.bits then (.v (.int k' n), ilo k' ≤ n ∧ n ≤ ihi k') else (.v (.int k' (k'.wrap n)), True)
def isByte (τ : Tab) (e : Nat) : Bool := match Tab.get e τ with | some j => (match j.d with | .int .u8 => decide (j.ty = .sc) | _ => false) | none => false
def tyIs (τ : Tab) (e : Nat) (T : Ty) : Bool := match Tab.get e τ with | some j => decide (j.ty = T) | none => false
def conv (τ : Tab) (src dst : Nat) (x : AV) : QR :=
  match Tab.get src τ, Tab.get dst τ with
  | some s, some i =>
    match i.d, x with
    | .int k', .v (.int k n) => some (convI k' k n)
    | .str, .bs l _ => (match s.d with | .slc e => if isByte τ e then some (.v (.string (strOf l)), True) else none | _ => none)
    | .str, .v (.string b) => some (.v (.string b), True)
    | _, _ => none
  | _, _ => none
def fieldA (τ : Tab) (bx : List (Ty × AV)) (s : Nat) (x : AV) (f : Nat) : QR :=
  match Tab.get s τ with
  | none => none
  | some i =>
    match i.d, i.ty.loc [f] with
    | .rcd fs, some (o, T') =>
      (match fs[f]? with
      | some (o', t') =>
        if o = o' ∧ T'.size ≠ 0 ∧ tyIs τ t' T' = true then
          (match x with
          | .ptr b path => (match bx[b]? with
            | some (T, _) => (match T.loc path with
              | some (_, T2) => if T2 = i.ty then some (.ptr b (path ++ [f]), True) else none
              | none => none)
            | none => none)
          | .ref T a => if T = i.ty then (match a.loc [f] with | some a' => some (.ref T' a', True) | none => none) else none
          | _ => none)
        else none
      | none => none)
    | _, _ => none
def elemB (l : List UInt8) (n : Int) : AV := .v (.int .u8 ((l.getD n.toNat 0).toNat : Int))
def indexA (τ : Tab) (bx : List (Ty × AV)) (t : Nat) (x ix : AV) : QR :=
  match ix with
  | .v (.int _ n) =>
    match Tab.get t τ with
    | none => none
    | some i =>
      match i.d, x with
      | .slc e, .bs l _ => if tyIs τ e .sc then some (.ref .sc (elemB l n), 0 ≤ n ∧ n < l.length) else none
      | .slc e, .sl T es _ => if tyIs τ e T then some (.ref T (es.getD n.toNat .any), 0 ≤ n ∧ n < es.length) else none
      | .slc e, .win b path o m => if tyIs τ e .sc then some (.pti b path (o + n.toNat), 0 ≤ n ∧ n < m) else none
      | .arr m e, .ptr b path => (match bx[b]? with
        | some (T, _) => (match T.loc path with
          | some (_, .ba m') => if m' = m ∧ tyIs τ e .sc = true then some (.pti b path n.toNat, 0 ≤ n ∧ n < m) else none
          | _ => none)
        | none => none)
      | _, _ => none
  | _ => none
def ld (τ : Tab) (bx : List (Ty × AV)) (t : Nat) (x : AV) : QR :=
  match Tab.get t τ with
  | none => none
  | some i =>
    match x with
    | .ptr b path => (match bx[b]? with
      | some (T, a) => (match T.loc path, a.loc path with
        | some (_, T2), some a' => if T2 = i.ty then some (a', True) else none
        | _, _ => none)
      | none => none)
    | .pti b path k => (match bx[b]? with
      | some (T, a) => (match T.loc path, a.loc path with
        | some (_, .ba _), some (.ba l) => if i.ty = .sc then some (.v (.int .u8 ((l.getD k 0).toNat : Int)), True) else none
        | _, _ => none)
      | none => none)
    | .ref T a => if T = i.ty then some (a, True) else none
    | _ => none
def lenq (τ : Tab) (t : Nat) (x : AV) : QR :=
  match Tab.get t τ with
  | none => none
  | some i =>
    match i.d, x with
    | .slc _, .bs l _ => some (.v (.int .i64 (l.length : Int)), True)
    | .slc _, .sl _ es _ => some (.v (.int .i64 (es.length : Int)), True)
    | .slc _, .win _ _ _ n => some (.v (.int .i64 (n : Int)), True)
    | .slc _, .bc _ n _ => some (.v (.int .i64 (n : Int)), True)
    | .slc _, .v (.slice none 0 0) => some (.v (.int .i64 0), True)
    | .str, .v (.string s) => some (.v (.int .i64 (s.size : Int)), True)
    | _, _ => none
def capq (τ : Tab) (t : Nat) (x : AV) : QR :=
  match Tab.get t τ with
  | none => none
  | some i =>
    match i.d, x with
    | .slc _, .bc l _ _ => some (.v (.int .i64 (l.length : Int)), True)
    | .slc _, .v (.slice none 0 0) => some (.v (.int .i64 0), True)
    | _, _ => none
/-- Bytes, their room forgotten. -/
def AV.asb : AV → AV
  | .bc l n _ => .bs (l.take n) none
  | a => a
def bnd (d : Int) : Option AV → Option Int
  | none => some d
  | some (.v (.int _ n)) => some n
  | _ => none
def keepTok (lo : Option AV) (tok : Option Nat) : Option Nat := match lo with | none => tok | some _ => none
def slq (τ : Tab) (bx : List (Ty × AV)) (t : Nat) (x : AV) (lo hi : Option AV) : QR :=
  match Tab.get t τ with
  | none => none
  | some i =>
    match i.d, x with
    | .slc e, .bs l _ => (match bnd 0 lo, bnd l.length hi with
      | some a, some b => if tyIs τ e .sc then some (.bs ((l.take b.toNat).drop a.toNat) none, 0 ≤ a ∧ a ≤ b ∧ b ≤ l.length) else none
      | _, _ => none)
    | .slc e, .sl T es _ => (match bnd 0 lo, bnd es.length hi with
      | some a, some b => if tyIs τ e T then some (.sl T ((es.take b.toNat).drop a.toNat) none, 0 ≤ a ∧ a ≤ b ∧ b ≤ es.length) else none
      | _, _ => none)
    | .slc e, .bc l n tok => (match bnd 0 lo, bnd n hi with
      | some a, some b => if tyIs τ e .sc then some (.bc (l.drop a.toNat) (b.toNat - a.toNat) (keepTok lo tok), 0 ≤ a ∧ a ≤ b ∧ b ≤ l.length) else none
      | _, _ => none)
    | .slc e, .win bx path o m => (match bnd 0 lo, bnd m hi with
      | some a, some b => if tyIs τ e .sc then some (.win bx path (o + a.toNat) (b.toNat - a.toNat), 0 ≤ a ∧ a ≤ b ∧ b ≤ m) else none
      | _, _ => none)
    | .arr m e, .ptr b path => (match bx[b]? with
      | some (T, _) => (match T.loc path, bnd 0 lo, bnd m hi with
        | some (_, .ba m'), some a, some b' => if m' = m ∧ tyIs τ e .sc = true then some (.win b path a.toNat (b'.toNat - a.toNat), 0 ≤ a ∧ a ≤ b' ∧ b' ≤ m ∧ (m : Int) ≤ 9223372036854775807) else none
        | _, _, _ => none)
      | none => none)
    | _, _ => none
def s2a (τ : Tab) (t : Nat) (x : AV) : QR :=
  match Tab.get t τ with
  | none => none
  | some i =>
    match i.d, x with
    | .arr m e, .bs l _ => if i.ty = .ba m ∧ tyIs τ e .sc = true then some (.ref (.ba m) (.ba (l.take m)), 0 < m ∧ m ≤ l.length) else none
    | _, _ => none
def fldq (τ : Tab) (t : Nat) (x : AV) (f : Nat) : QR :=
  match Tab.get t τ with
  | none => none
  | some i =>
    match i.d, i.ty.loc [f], x.loc [f] with
    | .rcd fs, some (o, T'), some a => (match fs[f]? with
      | some (o', t') => if o = o' ∧ tyIs τ t' T' = true then some (a, fit i.ty x) else none
      | none => none)
    | _, _, _ => none
/-- An element of an array that is no place in memory. -/
def idxq (τ : Tab) (t : Nat) (x ix : AV) : QR :=
  match Tab.get t τ, ix with
  | some i, .v (.int _ n) =>
    (match i.d, x with
    | .arr m e, .ba l => if i.ty = .ba m ∧ tyIs τ e .sc = true then some (elemB l n, 0 ≤ n ∧ n < m ∧ l.length = m) else none
    | .arr m e, .st fs => (match i.ty.loc [0], fs[n.toNat]? with
      | some (_, T), some f => if tyIs τ e T = true ∧ T.agg = false ∧ (List.range m).all (fun k => i.ty.loc [k] == some (k, T)) = true then some (f, (0 ≤ n ∧ n < m) ∧ fit i.ty x) else none
      | _, _ => none)
    | _, _ => none)
  | _, _ => none
def isAny : AV → Bool
  | .any => true
  | _ => false
def extr (x : AV) (ix : Nat) : QR :=
  match x with
  | .tup az => (match az[ix]? with | some a => some (a, True) | none => none)
  | _ => none
def St.ev2 (st : St) (c c' : Gd) (x : Operand) : AV := if isAny (st.ev c x) then st.ev c' x else st.ev c x
def same : AV → QR
  | .v x => some (.v x, True)
  | .ba l => some (.ba l, True)
  | .st fs => some (.st fs, True)
  | .bs l k => some (.bs l k, True)
  | .bc l n k => some (.bc l n k, True)
  | .sl T es k => some (.sl T es k, True)
  | .ptr i p => some (.ptr i p, True)
  | .pti i p k => some (.pti i p k, True)
  | .win i p o n => some (.win i p o n, True)
  | .ref T a => some (.ref T a, True)
  | .tup az => some (.tup az, True)
  | .any => none
def pickq (st : St) (c : Gd) (t : Operand) (x y : Operand) : QR :=
  match t with
  | .tmp d => (match st.ev c t, st.ev2 c (some (d, true)) x, st.ev2 c (some (d, false)) y with
    | .v (.bool b), .v (.bool p), .v (.bool q) => some (.v (.bool (bif b then p else q)), True)
    | _, _, _ => none)
  | _ => none
def minq : AV → AV → QR
  | .v (.int k a), .v (.int k' b) => if k = k' then some (.v (.int k (if b < a then b else a)), True) else none
  | _, _ => none
def nilq : AV → QR
  | .ptr i p => some (.ptr i p, True)
  | .pti i p k => some (.pti i p k, True)
  | .ref T a => some (.ref T a, True)
  | _ => none
def eqShape : AV → AV → Bool
  | .v (.bool _), .v (.bool _) => true
  | .v (.pointer none), .v (.pointer none) => true
  | .ptr _ _, .v (.pointer none) => true
  | .v (.pointer none), .ptr _ _ => true
  | .ba _, .ba _ => true
  | .st _, .st _ => true
  | _, _ => false
def eqq (τ : Tab) (op : BinOp) (t : Nat) (x y : AV) : QR :=
  match Tab.get t τ, (if eqShape x y then eqA τ 20 t x y else none) with
  | some i, some r => (match op with
    | .eql => some (.v (.bool r), fit i.ty x ∧ fit i.ty y)
    | .neq => some (.v (.bool (!r)), fit i.ty x ∧ fit i.ty y)
    | _ => none)
  | _, _ => none
def binq (τ : Tab) (op : BinOp) (t : Nat) (x y : AV) : QR :=
  match bin op x y with
  | some r => some r
  | none => eqq τ op t x y
def callq (τ : Tab) (st : St) (c : Gd) (k : Call) : QR :=
  match k.callee with
  | .builtin .cap => (match k.args.toList, k.argTypes.toList with | [x], [t] => capq τ t (st.ev c x) | _, _ => none)
  | .builtin .len => (match k.args.toList, k.argTypes.toList with | [x], [t] => lenq τ t (st.ev c x) | _, _ => none)
  | .builtin .min => (match k.args.toList with | [x, y] => minq (st.ev c x) (st.ev c y) | _ => none)
  | _ => none
/-- Does an operation look at no memory? -/
def memless : Op → Bool
  | .load _ _ => false
  | .convert _ _ _ => false
  | _ => true
/-- What an operation without effect yields, and on what condition. -/
def qop (τ : Tab) (st : St) (c : Gd) (o : Op) : QR :=
  match o with
  | .move x | .assign x => same (st.ev c x)
  | .pick t x y => pickq st c t x y
  | .binOp op t x y _ => binq τ op t (st.ev c x) (st.ev c y)
  | .unOp op _ x => un op (st.ev c x)
  | .convert s d x => conv τ s d (st.ev c x).asb
  | .fieldAddr s x f => fieldA τ st.bx s (st.ev c x) f
  | .indexAddr t x ix => indexA τ st.bx t (st.ev c x).asb (st.ev c ix)
  | .load t x => ld τ st.bx t (st.ev c x)
  | .slice t x lo hi none => slq τ st.bx t (st.ev c x) (lo.map (st.ev c)) (hi.map (st.ev c))
  | .sliceToArrayPointer t x => s2a τ t (st.ev c x).asb
  | .field t x f => fldq τ t (st.ev c x) f
  | .extract x ix => extr (st.ev c x) ix
  | .index t x ix => idxq τ t (st.ev c x) (st.ev c ix)
  | .nilCheck x => nilq (st.ev c x)
  | .call k => callq τ st c k
  | _ => none
section
variable {g : Gh} {P : Program} {τ : Tab}
theorem QR.inj {r : AV} {c : Prop} {x : AV × Prop} (h : some x = some (r, c)) : x.1 = r ∧ x.2 = c := by injection h with h; rw [h]; exact ⟨rfl, rfl⟩
theorem un_sound {op : UnOp} {x r : AV} {c : Prop} (h : un op x = some (r, c)) (hc : c) {u : Value} (hx : RV g x u) : ∃ z, RV g r z ∧ ∀ w, (Op.unary op u).run P w = .ok z w := by
  unfold un at h
  split at h
  · have e := hx.v_inv; subst e
    split at h
    · obtain ⟨rfl, rfl⟩ := QR.inj h; exact ⟨_, RV.v_of rfl, fun w => by simp [Op.unary]⟩
    · cases h
  · rename_i k n
    have e := hx.v_inv; subst e
    split at h
    · obtain ⟨rfl, rfl⟩ := QR.inj h
      exact ⟨_, fitI_sound hc, fun w => by simp [Op.unary, Op.intArith]⟩
    · obtain ⟨rfl, rfl⟩ := QR.inj h; exact ⟨_, RV.v_of rfl, fun w => by simp [Op.unary, intBits_xor]⟩
    · cases h
  · cases h
theorem convI_sound {k' k : IntKind} {n : Int} (h : (convI k' k n).2) : RV g (convI k' k n).1 (.int k' (k'.wrap n)) := by
  unfold convI at *
  by_cases hb : k.bits ≤ k'.bits
  · simp only [hb, if_true] at h ⊢; rw [wrap_in k' n h]; exact RV.v_of (v := .int k' n) rfl
  · simp only [hb, if_false] at h ⊢; exact RV.v_of (v := .int k' (k'.wrap n)) rfl
theorem isByte_ok (hτ : τ.ok P) {e : Nat} (h : isByte τ e = true) : P.underlying e = some (.int .u8) ∧ ∃ j : TI, j.ok P e ∧ j.ty = .sc := by
  unfold isByte at h
  split at h
  · rename_i j hj
    split at h
    · rename_i hd
      have hok := Tab.get_ok hτ hj
      have := hok.d; rw [hd] at this
      exact ⟨this, j, hok, by simpa using h⟩
    · cases h
  · cases h
theorem tyIs_ok (hτ : τ.ok P) {e : Nat} {T : Ty} (h : tyIs τ e T = true) : ∃ j : TI, j.ok P e ∧ j.ty = T := by
  unfold tyIs at h
  split at h
  · rename_i j hj; exact ⟨j, Tab.get_ok hτ hj, by simpa using h⟩
  · cases h
theorem RC.bs_inv {T : Ty} {l : List UInt8} {tok : Option Nat} {cs : List Value} (h : RC g T (.bs l tok) cs) : T = .sc ∧ ∃ A c, cs = [.slice A l.length c] ∧ l.length ≤ c ∧ c ≤ maxLen ∧
    (l = [] ∨ ∃ b o, A = some ⟨b, o, none⟩ ∧ ∀ j (h : j < l.length), g.ro b (o + j) = some (B8 l[j])) := by
  cases h with | bs hc hm hr ht => exact ⟨rfl, _, _, rfl, hc, hm, hr⟩
theorem RC.sl_inv {T T' : Ty} {es : List AV} {tok : Option Nat} {cs : List Value} (h : RC g T (.sl T' es tok) cs) : T = .sc ∧ ∃ (A : Option Addr) (c : Nat) (F : Nat → List Value), cs = [.slice A es.length c] ∧ es.length ≤ c ∧ c ≤ maxLen ∧
    (es = [] ∨ ∃ b o, A = some ⟨b, o, none⟩ ∧ ∀ k, k < es.length → ∀ j u, (F k)[j]? = some u → g.ro b (o + k * T'.size + j) = some u) ∧ (∀ k (h : k < es.length), RC g.base T' es[k] (F k)) := by
  cases h with | sl hc hm F hr hv ht => exact ⟨rfl, _, _, F, rfl, hc, hm, hr, hv⟩
theorem RC.win_inv {T : Ty} {i o1 n1 : Nat} {path : List Nat} {cs : List Value} (h : RC g T (.win i path o1 n1) cs) : T = .sc ∧ ∃ (x : Bx) (o n c : Nat) (A : Option Addr), cs = [.slice A n1 c] ∧ g.bx[i]? = some x ∧ x.ty.loc path = some (o, .ba n) ∧ o1 + c = n ∧ n1 ≤ c ∧ c ≤ maxLen ∧ (c = 0 ∨ A = some ⟨x.blk, o + o1, none⟩) := by
  cases h with | win h ho hn hc hm hA => exact ⟨rfl, _, _, _, _, _, rfl, h, ho, hn, hc, hm, hA⟩
theorem RC.bc_inv {T : Ty} {l : List UInt8} {n : Nat} {tok : Option Nat} {cs : List Value} (h : RC g T (.bc l n tok) cs) : T = .sc ∧ ∃ A, cs = [.slice A n l.length] ∧ n ≤ l.length ∧ l.length ≤ maxLen ∧
    (l = [] ∨ ∃ b o, A = some ⟨b, o, none⟩ ∧ ∀ j (h : j < l.length), g.ro b (o + j) = some (B8 l[j])) ∧ (∀ i, tok = some i → ∃ x, g.bx[i]? = some x ∧ A = some ⟨x.blk, 0, none⟩ ∧ x.ty = .ba l.length) := by
  cases h with | bc hn hm hr ht => exact ⟨rfl, _, rfl, hn, hm, hr, ht⟩
theorem RC.asb {l : List UInt8} {n : Nat} {A : Option Addr} (hn : n ≤ l.length) (hm : l.length ≤ maxLen)
    (hr : l = [] ∨ ∃ b o, A = some ⟨b, o, none⟩ ∧ ∀ j (h : j < l.length), g.ro b (o + j) = some (B8 l[j])) : RC g .sc (.bs (l.take n) none) [.slice A n l.length] := by
  have hlen : (l.take n).length = n := by rw [List.length_take]; omega
  have := RC.bs (g := g) (l := l.take n) (tok := none) (A := A) (c := l.length) (by omega) hm ?_ (fun i hi => by cases hi)
  · rw [hlen] at this; exact this
  · rcases hr with h | ⟨b, o, hA, hj⟩
    · subst h; exact .inl List.take_nil
    · refine .inr ⟨b, o, hA, fun j hj' => ?_⟩
      rw [hlen] at hj'
      rw [hj j (by omega)]; simp
theorem RV.asb_ {a : AV} {u : Value} (h : RV g a u) : RV g a.asb u := by
  unfold AV.asb
  split
  · obtain ⟨_, A, e, hn, hm, hr, _⟩ := h.bc_inv.bc_inv
    injection e with e; subst e
    exact (show RV1 g _ _ from .inr (RC.asb hn hm hr)).rv
  · exact h
theorem RC.pti_inv {T : Ty} {i k : Nat} {path : List Nat} {cs : List Value} (h : RC g T (.pti i path k) cs) : T = .sc ∧ ∃ (x : Bx) (o n : Nat), cs = [.pointer (some ⟨x.blk, o + k, none⟩)] ∧ g.bx[i]? = some x ∧ x.ty.loc path = some (o, .ba n) ∧ k < n := by
  cases h with | pti h ho hk => exact ⟨rfl, _, _, _, rfl, h, ho, hk⟩
theorem RC.ref_inv {T T' : Ty} {a : AV} {cs : List Value} (h : RC g T (.ref T' a) cs) : T = .sc ∧ ∃ b o ds, cs = [.pointer (some ⟨b, o, none⟩)] ∧ RC g.base T' a ds ∧ ∀ j u, ds[j]? = some u → g.ro b (o + j) = some u := by
  cases h with | ref cs h hr => exact ⟨rfl, _, _, _, rfl, h, hr⟩
theorem RC.rv1 {a : AV} {u : Value} (h : RC g .sc a [u]) : RV g a u := (show RV1 g a u from .inr h).rv
theorem conv_sound (hτ : τ.ok P) {s d : Nat} {x r : AV} {c : Prop} (h : conv τ s d x = some (r, c)) (hc : c) {u : Value} (hx : RV g x u) : ∃ z, RV g r z ∧ ∀ w, Mem g w → (convert s d u).run P w = .ok z w := by
  unfold conv at h
  split at h
  · rename_i si i hs hi
    have oks := Tab.get_ok hτ hs; have oki := Tab.get_ok hτ hi
    have hd := oki.d
    obtain ⟨hss, _⟩ := oks.agg
    split at h
    · rename_i k' k n hid
      rw [hid] at hd
      have e := hx.v_inv; subst e
      obtain ⟨rfl, rfl⟩ := QR.inj h
      refine ⟨_, convI_sound hc, fun w _ => ?_⟩
      cases hsu : P.underlying s with
      | none => rw [hsu] at hss; cases hss
      | some ds => simp [convert, Sem.run_bind, run_underlying hsu, run_underlying (show P.underlying d = _ from hd), Conv.intToInt]
    · rename_i l tok hid
      rw [hid] at hd
      split at h
      · rename_i e hsd
        have hds := oks.d; rw [hsd] at hds
        split at h
        · rename_i hb
          obtain ⟨hb1, _⟩ := isByte_ok hτ hb
          obtain ⟨rfl, rfl⟩ := QR.inj h
          obtain ⟨_, A, c, e1, hlc, hm, hr⟩ := hx.bs_inv.bs_inv
          injection e1 with e1; subst e1
          refine ⟨_, RV.v_of rfl, fun w hw => ?_⟩
          cases A with
          | none =>
            rcases hr with h | ⟨g, o, hA, _⟩
            · subst h; exact run_convert_bytes_nil w _ _ hds hb1 _ _ _ hd
            · cases hA
          | some a =>
            refine run_convert_bytes_back w _ _ _ a c l hds hb1 hd fun j hj => ?_
            rcases hr with h | ⟨g, o, hA, hcell⟩
            · subst h; simp at hj
            · injection hA with hA; subst hA
              rw [addr_add]
              exact hw.ro _ _ _ (hcell j hj)
        · cases h
      · cases h
    · rename_i b hid
      rw [hid] at hd
      have e := hx.v_inv; subst e
      obtain ⟨rfl, rfl⟩ := QR.inj h
      refine ⟨_, RV.v_of rfl, fun w _ => ?_⟩
      cases hsu : P.underlying s with
      | none => rw [hsu] at hss; cases hss
      | some ds => simp [convert, Sem.run_bind, run_underlying hsu, run_underlying (show P.underlying d = _ from hd)]
    · cases h
  · cases h
theorem Ty.loc_append {T' : Ty} {o' : Nat} {q : List Nat} : ∀ {T T2 : Ty} {p : List Nat} {o : Nat}, T.loc p = some (o, T2) → T2.loc q = some (o', T') → T.loc (p ++ q) = some (o + o', T') := by
  intro T
  induction T with
  | cn a az iha ihaz =>
    intro T2 p
    induction p with
    | nil => intro o h h'; simp only [Ty.loc, Option.some.injEq, Prod.mk.injEq] at h; obtain ⟨rfl, rfl⟩ := h; simpa using h'
    | cons k p ihp =>
      intro o h h'
      cases k with
      | zero => simp only [Ty.loc] at h; simp only [List.cons_append, Ty.loc]; exact iha h h'
      | succ k =>
        simp only [Ty.loc, Option.map_eq_some_iff] at h
        obtain ⟨⟨o1, T1⟩, h1, he⟩ := h
        simp only [Prod.mk.injEq] at he
        obtain ⟨rfl, rfl⟩ := he
        simp only [List.cons_append, Ty.loc, Option.map_eq_some_iff]
        exact ⟨(o1 + o', T'), ihaz (p := k :: p) h1 h', by simp [Nat.add_assoc]⟩
  | _ =>
    intro T2 p o h h'
    cases p with
    | nil => simp only [Ty.loc, Option.some.injEq, Prod.mk.injEq] at h; obtain ⟨rfl, rfl⟩ := h; simpa using h'
    | cons k p => cases k <;> simp [Ty.loc] at h
theorem BR.get {bx : List (Ty × AV)} (hB : BR g bx) {i : Nat} {T : Ty} {a : AV} (h : bx[i]? = some (T, a)) : ∃ x, g.bx[i]? = some x ∧ x.ty = T ∧ RC g T a x.cells := hB.at_ i T a h
theorem fieldA_sound (hτ : τ.ok P) {bx : List (Ty × AV)} (hB : BR g bx) {s f : Nat} {x r : AV} {c : Prop} (h : fieldA τ bx s x f = some (r, c)) {u : Value} (hx : RV g x u) :
    ∃ z, RV g r z ∧ ∀ w, (Instr.fieldAt s u f).run P w = .ok z w := by
  unfold fieldA at h
  split at h
  · cases h
  · rename_i i hi
    have hok := Tab.get_ok hτ hi
    have hd := hok.d
    split at h
    · rename_i fs o T' hid hloc
      rw [hid] at hd
      obtain ⟨F, hF, hfs, _⟩ := hd
      split at h
      · rename_i o' t' hf
        split at h
        · rename_i hcond
          obtain ⟨rfl, hsz, htt⟩ := hcond
          obtain ⟨j, hj, hjT⟩ := tyIs_ok hτ htt
          subst hfs
          rw [List.getElem?_map] at hf
          obtain ⟨f0, hf0, hf1⟩ := Option.map_eq_some_iff.1 hf
          simp only [Prod.mk.injEq] at hf1
          obtain ⟨hf1, hf2⟩ := hf1
          have hFf : F[f]? = some f0 := by rw [← Array.getElem?_toList]; exact hf0
          have hs : ∀ w, (sizeOf f0.type).run P w = .ok T'.size w := fun w => by rw [hf2, ← hjT]; exact hj.sizeOf w
          have key : ∀ (b q : Nat) w, (Instr.fieldAt s (.pointer (some ⟨b, q, none⟩)) f).run P w = .ok (.pointer (some ⟨b, q + o, none⟩)) w := by
            intro b q w
            have ha : (⟨b, q, none⟩ : Addr).add o = ⟨b, q + o, none⟩ := addr_add b q o
            simp [Instr.fieldAt, run_underlying hF, hFf, Instr.sureAddr, fieldPlace, hs, hsz, hf1, ha]
          split at h
          · rename_i b path
            split at h
            · rename_i T a0 hb
              split at h
              · rename_i o2 T2 hl2
                split at h
                · rename_i hT2; subst hT2
                  obtain ⟨rfl, rfl⟩ := QR.inj h
                  obtain ⟨_, y, o3, T3, hy, ho3, e⟩ := hx.ptr_inv.ptr_inv
                  injection e with e; subst e
                  obtain ⟨y', hy', hty, _⟩ := hB.get hb
                  rw [hy] at hy'; injection hy' with hy'; subst hy'
                  rw [hty, hl2] at ho3
                  simp only [Option.some.injEq, Prod.mk.injEq] at ho3
                  obtain ⟨rfl, rfl⟩ := ho3
                  exact ⟨_, (RC.ptr hy (by rw [hty]; exact Ty.loc_append hl2 hloc)).rv1, key _ _⟩
                · cases h
              · cases h
            · cases h
          · rename_i T a
            split at h
            · rename_i hT
              split at h
              · rename_i a' ha'
                obtain ⟨rfl, rfl⟩ := QR.inj h
                obtain ⟨_, b, q, ds, e, hr, hro⟩ := hx.ref_inv.ref_inv
                injection e with e; subst e
                rw [hT] at hr
                obtain ⟨a'', ha'', pre, mid, post, rfl, hpre, hmid, _⟩ := hr.lens hloc
                rw [ha'] at ha''; injection ha'' with ha''; subst ha''
                refine ⟨_, (RC.ref mid hmid fun j u hu => ?_).rv1, key _ _⟩
                have := hro (o + j) u (by rw [List.append_assoc, List.getElem?_append_right (by omega), hpre, Nat.add_sub_cancel_left, List.getElem?_append_left (List.getElem?_eq_some_iff.1 hu).1]; exact hu)
                rw [← Nat.add_assoc] at this; exact this
              · cases h
            · cases h
          · cases h
        · cases h
      · cases h
    · cases h
theorem ld_sound (hτ : τ.ok P) {bx : List (Ty × AV)} (hB : BR g bx) {t : Nat} {x r : AV} {c : Prop} (h : ld τ bx t x = some (r, c)) {u : Value} (hx : RV g x u) :
    ∃ z, RV g r z ∧ ∀ w, Mem g w → (Instr.loadAt t u).run P w = .ok z w := by
  unfold ld at h
  split at h
  · cases h
  · rename_i i hi
    have hok := Tab.get_ok hτ hi
    split at h
    · rename_i b path
      split at h
      · rename_i T a hb
        split at h
        · rename_i o T2 a' hl ha
          split at h
          · rename_i hT2; subst hT2
            obtain ⟨rfl, rfl⟩ := QR.inj h
            obtain ⟨_, y, o3, T3, hy, ho3, e⟩ := hx.ptr_inv.ptr_inv
            injection e with e; subst e
            obtain ⟨y', hy', hty, hrc⟩ := hB.get hb
            rw [hy] at hy'; injection hy' with hy'; subst hy'
            rw [hty, hl] at ho3
            simp only [Option.some.injEq, Prod.mk.injEq] at ho3
            obtain ⟨rfl, rfl⟩ := ho3
            obtain ⟨a'', ha'', pre, mid, post, hcs, hpre, hmid, _⟩ := hrc.lens hl
            rw [ha] at ha''; injection ha'' with ha''; subst ha''
            refine ⟨_, hmid.rv.rv', fun w hw => ?_⟩
            have hblk := hw.bx _ _ hy
            simp only [Instr.loadAt, Instr.sureAddr, Sem.run_bind, Sem.run_pure, Result.andThen_ok]
            refine run_loadV hok hmid fun j u hu => ?_
            rw [hblk.cell, List.getElem?_toArray, hcs, List.append_assoc, List.getElem?_append_right (by omega), hpre, Nat.add_sub_cancel_left, List.getElem?_append_left (List.getElem?_eq_some_iff.1 hu).1]
            exact hu
          · cases h
        · cases h
      · cases h
    · rename_i b path k
      split at h
      · rename_i T a hb
        split at h
        · rename_i o n l hl ha
          split at h
          · rename_i hTi
            obtain ⟨rfl, rfl⟩ := QR.inj h
            obtain ⟨_, y, o3, n3, e, hy, ho3, hk⟩ := hx.pti_inv.pti_inv
            injection e with e; subst e
            obtain ⟨y', hy', hty, hrc⟩ := hB.get hb
            rw [hy] at hy'; injection hy' with hy'; subst hy'
            rw [hty, hl] at ho3
            simp only [Option.some.injEq, Prod.mk.injEq, Ty.ba.injEq] at ho3
            obtain ⟨rfl, rfl⟩ := ho3
            obtain ⟨a'', ha'', pre, mid, post, hcs, hpre, hmid, _⟩ := hrc.lens hl
            rw [ha] at ha''; injection ha'' with ha''; subst ha''
            obtain ⟨hn, rfl⟩ := hmid.ba_inv
            injection hn with hn; subst hn
            refine ⟨_, RV.v_of rfl, fun w hw => ?_⟩
            have hblk := hw.bx _ _ hy
            simp only [Instr.loadAt, Instr.sureAddr, Sem.run_bind, Sem.run_pure, Result.andThen_ok]
            have := run_loadV (w := w) (b := y.blk) (o := o + k) hok (g := g) (a := .v (B8 l[k])) (cs := [B8 l[k]]) (by rw [hTi]; exact .v rfl) (fun j u hu => by
              cases j with
              | succ j => simp at hu
              | zero =>
                simp at hu; subst hu
                rw [hblk.cell, List.getElem?_toArray, hcs, List.append_assoc, Nat.add_zero, List.getElem?_append_right (by omega), hpre, Nat.add_sub_cancel_left, List.getElem?_append_left (by simpa using hk)]
                simp [hk])
            rw [this, hTi]
            simp [mkV, Ty.agg, List.getD, hk]
          · cases h
        · cases h
      · cases h
    · rename_i T a
      split at h
      · rename_i hT; subst hT
        obtain ⟨rfl, rfl⟩ := QR.inj h
        obtain ⟨_, b, q, ds, e, hr, hro⟩ := hx.ref_inv.ref_inv
        injection e with e; subst e
        refine ⟨_, (hr.mono g.base_le).rv.rv', fun w hw => ?_⟩
        simp only [Instr.loadAt, Instr.sureAddr, Sem.run_bind, Sem.run_pure, Result.andThen_ok]
        exact run_loadV hok hr fun j u hu => hw.ro _ _ _ (hro j u hu)
      · cases h
    · cases h
end
end Go.Proofs.Ytpeefeioccglcaa
