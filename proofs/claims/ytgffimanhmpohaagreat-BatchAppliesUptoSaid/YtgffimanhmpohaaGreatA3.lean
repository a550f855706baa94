/- A3: Quiet Quiet2 Quiet3 Build. -/
import Derived.Test.YtgffimanhmpohaaGreatA2
import Derived.Test.YtgffimanhmpohaaGreatA1
import Derived.Deep.Slices
set_option linter.unusedSimpArgs false
set_option linter.unusedVariables false
namespace Go.Proofs.YtgffimanhmpohaaGreat
open Go Go.RowKit
def un (op : UnOp) : AV → QR
  | .v (.bool b) => match op with | .not => some (.v (.bool (!b)), True) | _ => none
  | .v (.int k n) => match op with | .neg => some (fitI k (0 - n)) | .xor => some (.v (.int k (bits .xor k (if k.signed then -1 else k.max) n)), True) | _ => none
  | _ => none
def convI (k' k : IntKind) (n : Int) : AV × Prop := if k.bits ≤ k'.bits then (.v (.int k' n), ilo k' ≤ n ∧ n ≤ ihi k') else (.v (.int k' (k'.wrap n)), True)
def isByte (τ : Tab) (e : Nat) : Bool := match Tab.get e τ with | some j => (match j.d with | .int .u8 => decide (j.ty = .sc) | _ => false) | none => false
def tyIs (τ : Tab) (e : Nat) (T : Ty) : Bool := match Tab.get e τ with | some j => decide (j.ty = T) | none => false
def conv (τ : Tab) (src dst : Nat) (x : AV) : QR :=
  match Tab.get src τ, Tab.get dst τ with
  | some s, some i =>
    match i.d, x with
    | .int k', .v (.int k n) => some (convI k' k n)
    | .str, .bs l _ => (match s.d with | .slc e => if isByte τ e then some (.v (.string (strOf l)), True) else none | _ => none)
    | .str, .v (.string b) => some (.v (.string b), True)
    | _, _ => none
  | _, _ => none
def fieldA (τ : Tab) (bx : List (Ty × AV)) (s : Nat) (x : AV) (f : Nat) : QR :=
  match Tab.get s τ with
  | none => none
  | some i =>
    match i.d, i.ty.loc [f] with
    | .rcd fs, some (o, T') =>
      (match fs[f]? with
      | some (o', t') =>
        if o = o' ∧ T'.size ≠ 0 ∧ tyIs τ t' T' = true then
          (match x with
          | .ptr b path => (match bx[b]? with
            | some (T, _) => (match T.loc path with
              | some (_, T2) => if T2 = i.ty then some (.ptr b (path ++ [f]), True) else none
              | none => none)
            | none => none)
          | .ref T a => if T = i.ty then (match a.loc [f] with | some a' => some (.ref T' a', True) | none => none) else none
          | _ => none)
        else none
      | none => none)
    | _, _ => none
def elemB (l : List UInt8) (n : Int) : AV := .v (.int .u8 ((l.getD n.toNat 0).toNat : Int))
def indexA (τ : Tab) (bx : List (Ty × AV)) (t : Nat) (x ix : AV) : QR :=
  match ix with
  | .v (.int _ n) =>
    match Tab.get t τ with
    | none => none
    | some i =>
      match i.d, x with
      | .slc e, .bs l _ => if tyIs τ e .sc then some (.ref .sc (elemB l n), 0 ≤ n ∧ n < l.length) else none
      | .slc e, .sl T es _ => if tyIs τ e T then some (.ref T (es.getD n.toNat .any), 0 ≤ n ∧ n < es.length) else none
      | .slc e, .win b path o m => if tyIs τ e .sc then some (.pti b path (o + n.toNat), 0 ≤ n ∧ n < m) else none
      | .arr m e, .ptr b path => (match bx[b]? with
        | some (T, _) => (match T.loc path with
          | some (_, .ba m') => if m' = m ∧ tyIs τ e .sc = true then some (.pti b path n.toNat, 0 ≤ n ∧ n < m) else none
          | _ => none)
        | none => none)
      | _, _ => none
  | _ => none
def indexL (τ : Tab) (bx : List (Ty × AV)) (t : Nat) (x ix : AV) : QR :=
  match ix with
  | .v (.int _ n) =>
    match Tab.get t τ with
    | none => none
    | some i =>
      match i.d, x with
      | .arr m e, .ptr b path => (match bx[b]? with
        | some (T, _) => (match T.loc path, T.loc (path ++ [n.toNat]) with
          | some (o, _), some (o2, T2) => if o2 = o + n.toNat * T2.size ∧ tyIs τ e T2 = true then some (.ptr b (path ++ [n.toNat]), 0 ≤ n ∧ n < m) else none
          | _, _ => none)
        | none => none)
      | _, _ => none
  | _ => none
def ld (τ : Tab) (bx : List (Ty × AV)) (t : Nat) (x : AV) : QR :=
  match Tab.get t τ with
  | none => none
  | some i =>
    match x with
    | .ptr b path => (match bx[b]? with
      | some (T, a) => (match T.loc path, a.loc path with
        | some (_, T2), some a' => if T2 = i.ty then some (a', True) else none
        | _, _ => none)
      | none => none)
    | .pti b path k => (match bx[b]? with
      | some (T, a) => (match T.loc path, a.loc path with
        | some (_, .ba _), some (.ba l) => if i.ty = .sc then some (.v (.int .u8 ((l.getD k 0).toNat : Int)), True) else none
        | _, _ => none)
      | none => none)
    | .ref T a => if T = i.ty then some (a, True) else none
    | _ => none
def lenq (τ : Tab) (t : Nat) (x : AV) : QR :=
  match Tab.get t τ with
  | none => none
  | some i =>
    match i.d, x with
    | .slc _, .bs l _ => some (.v (.int .i64 (l.length : Int)), True)
    | .slc _, .sl _ es _ => some (.v (.int .i64 (es.length : Int)), True)
    | .slc _, .win _ _ _ n => some (.v (.int .i64 (n : Int)), True)
    | .slc _, .bc _ n _ => some (.v (.int .i64 (n : Int)), True)
    | .slc _, .slc _ _ n => some (.v (.int .i64 (n : Int)), True)
    | .slc _, .v (.slice none 0 0) => some (.v (.int .i64 0), True)
    | .str, .v (.string s) => some (.v (.int .i64 (s.size : Int)), True)
    | _, _ => none
def capq (τ : Tab) (t : Nat) (x : AV) : QR :=
  match Tab.get t τ with
  | none => none
  | some i =>
    match i.d, x with
    | .slc _, .bc l _ _ => some (.v (.int .i64 (l.length : Int)), True)
    | .slc _, .slc _ es _ => some (.v (.int .i64 (es.length : Int)), True)
    | .slc _, .v (.slice none 0 0) => some (.v (.int .i64 0), True)
    | _, _ => none
def AV.asb : AV → AV
  | .bc l n _ => .bs (l.take n) none
  | .slc T es n => .sl T (es.take n) none
  | a => a
def bnd (d : Int) : Option AV → Option Int
  | none => some d
  | some (.v (.int _ n)) => some n
  | _ => none
def keepTok (lo : Option AV) (tok : Option Nat) : Option Nat := match lo with | none => tok | some _ => none
def slq (τ : Tab) (bx : List (Ty × AV)) (t : Nat) (x : AV) (lo hi : Option AV) : QR :=
  match Tab.get t τ with
  | none => none
  | some i =>
    match i.d, x with
    | .slc e, .bs l _ => (match bnd 0 lo, bnd l.length hi with
      | some a, some b => if tyIs τ e .sc then some (.bs ((l.take b.toNat).drop a.toNat) none, 0 ≤ a ∧ a ≤ b ∧ b ≤ l.length) else none
      | _, _ => none)
    | .slc e, .sl T es _ => (match bnd 0 lo, bnd es.length hi with
      | some a, some b => if tyIs τ e T then some (.sl T ((es.take b.toNat).drop a.toNat) none, 0 ≤ a ∧ a ≤ b ∧ b ≤ es.length) else none
      | _, _ => none)
    | .slc e, .bc l n tok => (match bnd 0 lo, bnd n hi with
      | some a, some b => if tyIs τ e .sc then some (.bc (l.drop a.toNat) (b.toNat - a.toNat) (keepTok lo tok), 0 ≤ a ∧ a ≤ b ∧ b ≤ l.length) else none
      | _, _ => none)
    | .slc e, .slc T es n => (match bnd 0 lo, bnd n hi with
      | some a, some b => if tyIs τ e T then some (.slc T (es.drop a.toNat) (b.toNat - a.toNat), 0 ≤ a ∧ a ≤ b ∧ b ≤ es.length) else none
      | _, _ => none)
    | .slc e, .win bx path o m => (match bnd 0 lo, bnd m hi with
      | some a, some b => if tyIs τ e .sc then some (.win bx path (o + a.toNat) (b.toNat - a.toNat), 0 ≤ a ∧ a ≤ b ∧ b ≤ m) else none
      | _, _ => none)
    | .arr m e, .ptr b path => (match bx[b]? with
      | some (T, _) => (match T.loc path, bnd 0 lo, bnd m hi with
        | some (_, .ba m'), some a, some b' => if m' = m ∧ tyIs τ e .sc = true then some (.win b path a.toNat (b'.toNat - a.toNat), 0 ≤ a ∧ a ≤ b' ∧ b' ≤ m ∧ (m : Int) ≤ 9223372036854775807) else none
        | _, _, _ => none)
      | none => none)
    | _, _ => none
def s2a (τ : Tab) (t : Nat) (x : AV) : QR :=
  match Tab.get t τ with
  | none => none
  | some i =>
    match i.d, x with
    | .arr m e, .bs l _ => if i.ty = .ba m ∧ tyIs τ e .sc = true then some (.ref (.ba m) (.ba (l.take m)), 0 < m ∧ m ≤ l.length) else none
    | _, _ => none
def fldq (τ : Tab) (t : Nat) (x : AV) (f : Nat) : QR :=
  match Tab.get t τ with
  | none => none
  | some i =>
    match i.d, i.ty.loc [f], x.loc [f] with
    | .rcd fs, some (o, T'), some a => (match fs[f]? with
      | some (o', t') => if o = o' ∧ tyIs τ t' T' = true then some (a, fit i.ty x) else none
      | none => none)
    | _, _, _ => none
def idxq (τ : Tab) (t : Nat) (x ix : AV) : QR :=
  match Tab.get t τ, ix with
  | some i, .v (.int _ n) =>
    (match i.d, x with
    | .arr m e, .ba l => if i.ty = .ba m ∧ tyIs τ e .sc = true then some (elemB l n, 0 ≤ n ∧ n < m ∧ l.length = m) else none
    | .arr m e, .st fs => (match i.ty.loc [0], fs[n.toNat]? with
      | some (_, T), some f => if tyIs τ e T = true ∧ T.agg = false ∧ (List.range m).all (fun k => i.ty.loc [k] == some (k, T)) = true then some (f, (0 ≤ n ∧ n < m) ∧ fit i.ty x) else none
      | _, _ => none)
    | _, _ => none)
  | _, _ => none
def isAny : AV → Bool
  | .any => true
  | _ => false
def extr (x : AV) (ix : Nat) : QR :=
  match x with
  | .tup az => (match az[ix]? with | some a => some (a, True) | none => none)
  | _ => none
def St.ev2 (st : St) (c c' : Gd) (x : Operand) : AV := if isAny (st.ev c x) then st.ev c' x else st.ev c x
def same : AV → QR
  | .v x => some (.v x, True)
  | .ba l => some (.ba l, True)
  | .st fs => some (.st fs, True)
  | .bs l k => some (.bs l k, True)
  | .bc l n k => some (.bc l n k, True)
  | .sl T es k => some (.sl T es k, True)
  | .ptr i p => some (.ptr i p, True)
  | .pti i p k => some (.pti i p k, True)
  | .win i p o n => some (.win i p o n, True)
  | .ref T a => some (.ref T a, True)
  | .tup az => some (.tup az, True)
  | .vw i γ n => some (.vw i γ n, True)
  | .pv i γ k p => some (.pv i γ k p, True)
  | .mr i => some (.mr i, True)
  | .slc T es n => some (.slc T es n, True)
  | .vwc i γ n k => some (.vwc i γ n k, True)
  | _ => none
def pickq (st : St) (c : Gd) (t : Operand) (x y : Operand) : QR :=
  match t with
  | .tmp d => (match st.ev c t, st.ev2 c (some (d, true)) x, st.ev2 c (some (d, false)) y with
    | .v (.bool b), .v (.bool p), .v (.bool q) => some (.v (.bool (bif b then p else q)), True)
    | _, _, _ => none)
  | _ => none
def minq : AV → AV → QR
  | .v (.int k a), .v (.int k' b) => if k = k' then some (.v (.int k (if b < a then b else a)), True) else none
  | _, _ => none
def nilq : AV → QR
  | .ptr i p => some (.ptr i p, True)
  | .pv i γ k p => some (.pv i γ k p, True)
  | .pti i p k => some (.pti i p k, True)
  | .ref T a => some (.ref T a, True)
  | _ => none
def eqShape : AV → AV → Bool
  | .v (.bool _), .v (.bool _) => true
  | .v (.pointer none), .v (.pointer none) => true
  | .ptr _ _, .v (.pointer none) => true
  | .v (.pointer none), .ptr _ _ => true
  | .ref _ _, .v (.pointer none) => true
  | .v (.pointer none), .ref _ _ => true
  | .pv _ _ _ _, .v (.pointer none) => true
  | .v (.pointer none), .pv _ _ _ _ => true
  | .ba _, .ba _ => true
  | .st _, .st _ => true
  | _, _ => false
def eqq (τ : Tab) (op : BinOp) (t : Nat) (x y : AV) : QR :=
  match Tab.get t τ, (if eqShape x y then eqA τ 20 t x y else none) with
  | some i, some r => (match op with
    | .eql => some (.v (.bool r), fit i.ty x ∧ fit i.ty y)
    | .neq => some (.v (.bool (!r)), fit i.ty x ∧ fit i.ty y)
    | _ => none)
  | _, _ => none
def binq (τ : Tab) (op : BinOp) (t : Nat) (x y : AV) : QR :=
  match bin op x y with
  | some r => some r
  | none => eqq τ op t x y
def indexV (τ : Tab) (bx : List (Ty × AV)) (t : Nat) (x ix : AV) : QR :=
  match Tab.get t τ, x, ix with
  | some i, .vw b γ m, .v (.int _ n) =>
    (match i.d, bx[b]? with
    | .slc e, some (.vc _ T, .vc γ' es) => if tyIs τ e T then some (.pv b γ n.toNat [], (γ' = γ ∧ m ≤ es.length) ∧ 0 ≤ n ∧ n < m) else none
    | .slc e, some (.vc _ .sc, .vb γ' l) => if tyIs τ e .sc then some (.pv b γ n.toNat [], (γ' = γ ∧ m ≤ l.length) ∧ 0 ≤ n ∧ n < m) else none
    | _, _ => none)
  | _, _, _ => none
def ldV (τ : Tab) (bx : List (Ty × AV)) (t : Nat) (x : AV) : QR :=
  match Tab.get t τ, x with
  | some i, .pv b γ k path =>
    (match bx[b]? with
    | some (.vc _ T, .vc γ' es) => (match T.loc path with
      | some (_, T2) => if T2 = i.ty then some (((es.getD k .any).loc path).getD .any, γ' = γ ∧ k < es.length) else none
      | none => none)
    | some (.vc _ .sc, .vb γ' l) => (match path with
      | [] => if i.ty = .sc then some (.v (.int .u8 ((l.getD k 0).toNat : Int)), γ' = γ ∧ k < l.length) else none
      | _ => none)
    | _ => none)
  | _, _ => none
def lenV (τ : Tab) (t : Nat) (x : AV) : QR :=
  match Tab.get t τ, x with
  | some i, .vw _ _ n => (match i.d with | .slc _ => some (.v (.int .i64 (n : Int)), True) | _ => none)
  | _, _ => none
def slV (τ : Tab) (bx : List (Ty × AV)) (t : Nat) (x : AV) (lo hi : Option AV) : QR :=
  match Tab.get t τ, x with
  | some i, .vw b γ m =>
    (match i.d, bx[b]?, bnd 0 lo, bnd m hi with
    | .slc e, some (.vc _ T, _), some p, some q => if tyIs τ e T then some (.vw b γ q.toNat, (p = 0 ∧ 0 ≤ q) ∧ q ≤ m) else none
    | _, _, _, _ => none)
  | _, _ => none
def fieldV (τ : Tab) (bx : List (Ty × AV)) (s : Nat) (x : AV) (f : Nat) : QR :=
  match Tab.get s τ, x with
  | some i, .pv b γ k path =>
    (match i.d, i.ty.loc [f], bx[b]? with
    | .rcd fs, some (o, T'), some (.vc _ T, _) =>
      (match fs[f]?, T.loc path with
      | some (o', t'), some (_, T2) => if (o = o' ∧ T'.size ≠ 0 ∧ tyIs τ t' T' = true) ∧ T2 = i.ty then some (.pv b γ k (path ++ [f]), True) else none
      | _, _ => none)
    | _, _, _ => none)
  | _, _ => none
def orQ (a b : QR) : QR := match a with | some r => some r | none => b
theorem orQ_some {a b : QR} {x : AV × Prop} (h : orQ a b = some x) : a = some x ∨ b = some x := by
  unfold orQ at h
  split at h
  · exact .inl h
  exact .inr h
def callq (τ : Tab) (st : St) (c : Gd) (k : Call) : QR :=
  match k.callee with
  | .builtin .cap => (match k.args.toList, k.argTypes.toList with | [x], [t] => capq τ t (st.ev c x) | _, _ => none)
  | .builtin .len => (match k.args.toList, k.argTypes.toList with | [x], [t] => orQ (lenq τ t (st.ev c x)) (lenV τ t (st.ev c x)) | _, _ => none)
  | .builtin .min => (match k.args.toList with | [x, y] => minq (st.ev c x) (st.ev c y) | _ => none)
  | _ => none
def memless : Op → Bool
  | .load _ _ => false
  | .convert _ _ _ => false
  | _ => true
def qop (τ : Tab) (st : St) (c : Gd) (o : Op) : QR :=
  match o with
  | .move x | .assign x => same (st.ev c x)
  | .pick t x y => pickq st c t x y
  | .binOp op t x y _ => binq τ op t (st.ev c x) (st.ev c y)
  | .unOp op _ x => un op (st.ev c x)
  | .convert s d x => conv τ s d (st.ev c x).asb
  | .fieldAddr s x f => orQ (fieldA τ st.bx s (st.ev c x) f) (fieldV τ st.bx s (st.ev c x) f)
  | .indexAddr t x ix => orQ (indexA τ st.bx t (st.ev c x).asb (st.ev c ix)) (orQ (indexV τ st.bx t (st.ev c x) (st.ev c ix)) (indexL τ st.bx t (st.ev c x) (st.ev c ix)))
  | .load t x => orQ (ld τ st.bx t (st.ev c x)) (ldV τ st.bx t (st.ev c x))
  | .slice t x lo hi none => orQ (slq τ st.bx t (st.ev c x) (lo.map (st.ev c)) (hi.map (st.ev c))) (slV τ st.bx t (st.ev c x) (lo.map (st.ev c)) (hi.map (st.ev c)))
  | .sliceToArrayPointer t x => s2a τ t (st.ev c x).asb
  | .field t x f => fldq τ t (st.ev c x) f
  | .extract x ix => extr (st.ev c x) ix
  | .index t x ix => idxq τ t (st.ev c x) (st.ev c ix)
  | .nilCheck x => nilq (st.ev c x)
  | .call k => callq τ st c k
  | _ => none
section
variable {g : Gh} {P : Program} {τ : Tab}
theorem QR.inj {r : AV} {c : Prop} {x : AV × Prop} (h : some x = some (r, c)) : x.1 = r ∧ x.2 = c := by injection h with h; rw [h]; exact ⟨rfl, rfl⟩
theorem un_sound {op : UnOp} {x r : AV} {c : Prop} (h : un op x = some (r, c)) (hc : c) {u : Value} (hx : RV g x u) : ∃ z, RV g r z ∧ ∀ w, (Op.unary op u).run P w = .ok z w := by
  unfold un at h
  split at h
  · have e := hx.v_inv; subst e
    split at h
    · obtain ⟨rfl, rfl⟩ := QR.inj h; exact ⟨_, RV.v_of rfl, fun w => by simp [Op.unary]⟩
    cases h
  · rename_i k n
    have e := hx.v_inv; subst e
    split at h
    · obtain ⟨rfl, rfl⟩ := QR.inj h
      exact ⟨_, fitI_sound hc, fun w => by simp [Op.unary, Op.intArith]⟩
    · obtain ⟨rfl, rfl⟩ := QR.inj h; exact ⟨_, RV.v_of rfl, fun w => by simp [Op.unary, intBits_xor]⟩
    cases h
  cases h
theorem convI_sound {k' k : IntKind} {n : Int} (h : (convI k' k n).2) : RV g (convI k' k n).1 (.int k' (k'.wrap n)) := by
  unfold convI at *
  by_cases hb : k.bits ≤ k'.bits
  · simp only [hb, if_true] at h ⊢; rw [wrap_in k' n h]; exact RV.v_of (v := .int k' n) rfl
  simp only [hb, if_false] at h ⊢; exact RV.v_of (v := .int k' (k'.wrap n)) rfl
theorem isByte_ok (hτ : τ.ok P) {e : Nat} (h : isByte τ e = true) : P.underlying e = some (.int .u8) ∧ ∃ j : TI, j.ok P e ∧ j.ty = .sc := by
  unfold isByte at h
  split at h
  · rename_i j hj
    split at h
    · rename_i hd
      have hok := Tab.get_ok hτ hj
      have := hok.d; rw [hd] at this
      exact ⟨this, j, hok, by simpa using h⟩
    cases h
  cases h
theorem tyIs_ok (hτ : τ.ok P) {e : Nat} {T : Ty} (h : tyIs τ e T = true) : ∃ j : TI, j.ok P e ∧ j.ty = T := by
  unfold tyIs at h
  split at h
  · rename_i j hj; exact ⟨j, Tab.get_ok hτ hj, by simpa using h⟩
  cases h
theorem RC.bs_inv {T : Ty} {l : List UInt8} {tok : Option Nat} {cs : List Value} (h : RC g T (.bs l tok) cs) : T = .sc ∧ ∃ A c, cs = [.slice A l.length c] ∧ l.length ≤ c ∧ c ≤ maxLen ∧
    (l = [] ∨ ∃ b o, A = some ⟨b, o, none⟩ ∧ ∀ j (h : j < l.length), g.ro b (o + j) = some (B8 l[j])) := by
  cases h with | bs hc hm hr ht => exact ⟨rfl, _, _, rfl, hc, hm, hr⟩
theorem RC.sl_inv {T T' : Ty} {es : List AV} {tok : Option Nat} {cs : List Value} (h : RC g T (.sl T' es tok) cs) : T = .sc ∧ ∃ (A : Option Addr) (c : Nat) (F : Nat → List Value), cs = [.slice A es.length c] ∧ es.length ≤ c ∧ c ≤ maxLen ∧
    (es = [] ∨ ∃ b o, A = some ⟨b, o, none⟩ ∧ ∀ k, k < es.length → ∀ j u, (F k)[j]? = some u → g.ro b (o + k * T'.size + j) = some u) ∧ (∀ k (h : k < es.length), RC g.base T' es[k] (F k)) := by
  cases h with | sl hc hm F hr hv ht => exact ⟨rfl, _, _, F, rfl, hc, hm, hr, hv⟩
theorem RC.win_inv {T : Ty} {i o1 n1 : Nat} {path : List Nat} {cs : List Value} (h : RC g T (.win i path o1 n1) cs) : T = .sc ∧ ∃ (x : Bx) (o n c : Nat) (A : Option Addr), cs = [.slice A n1 c] ∧ g.bx[i]? = some x ∧ x.ty.loc path = some (o, .ba n) ∧ o1 + c = n ∧ n1 ≤ c ∧ c ≤ maxLen ∧ (c = 0 ∨ A = some ⟨x.blk, o + o1, none⟩) := by
  cases h with | win h ho hn hc hm hA => exact ⟨rfl, _, _, _, _, _, rfl, h, ho, hn, hc, hm, hA⟩
theorem RC.bc_inv {T : Ty} {l : List UInt8} {n : Nat} {tok : Option Nat} {cs : List Value} (h : RC g T (.bc l n tok) cs) : T = .sc ∧ ∃ A, cs = [.slice A n l.length] ∧ n ≤ l.length ∧ l.length ≤ maxLen ∧
    (l = [] ∨ ∃ b o, A = some ⟨b, o, none⟩ ∧ ∀ j (h : j < l.length), g.ro b (o + j) = some (B8 l[j])) ∧ (∀ i, tok = some i → ∃ x, g.bx[i]? = some x ∧ A = some ⟨x.blk, 0, none⟩ ∧ x.ty = .ba l.length) := by
  cases h with | bc hn hm hr ht => exact ⟨rfl, _, rfl, hn, hm, hr, ht⟩
theorem RC.asb {l : List UInt8} {n : Nat} {A : Option Addr} (hn : n ≤ l.length) (hm : l.length ≤ maxLen)
    (hr : l = [] ∨ ∃ b o, A = some ⟨b, o, none⟩ ∧ ∀ j (h : j < l.length), g.ro b (o + j) = some (B8 l[j])) : RC g .sc (.bs (l.take n) none) [.slice A n l.length] := by
  have hlen : (l.take n).length = n := by rw [List.length_take]; omega
  have := RC.bs (g := g) (l := l.take n) (tok := none) (A := A) (c := l.length) (by omega) hm ?_ (fun i hi => by cases hi)
  · rw [hlen] at this; exact this
  rcases hr with h | ⟨b, o, hA, hj⟩
  · subst h; exact .inl List.take_nil
  refine .inr ⟨b, o, hA, fun j hj' => ?_⟩
  rw [hlen] at hj'
  rw [hj j (by omega)]; simp
theorem RC.slc_inv {T T' : Ty} {es : List AV} {n : Nat} {cs : List Value} (h : RC g T (.slc T' es n) cs) : T = .sc ∧ ∃ (A : Option Addr) (F : Nat → List Value), cs = [.slice A n es.length] ∧ n ≤ es.length ∧ es.length ≤ maxLen ∧
    (es = [] ∨ ∃ b o, A = some ⟨b, o, none⟩ ∧ ∀ k, k < es.length → ∀ j u, (F k)[j]? = some u → g.ro b (o + k * T'.size + j) = some u) ∧ (∀ k (h : k < es.length), RC g.base T' es[k] (F k)) := by
  cases h with | slc hn hm F hr hv => exact ⟨rfl, _, F, rfl, hn, hm, hr, hv⟩
theorem RV.slc_inv {T : Ty} {es : List AV} {n : Nat} {u : Value} (h : RV g (.slc T es n) u) : RC g .sc (.slc T es n) [u] := by
  rcases (show RV1 g _ _ from h) with ⟨T, cs, h1, h2, h3⟩ | h
  · cases h2; simp [Ty.agg] at h1
  exact h
theorem RC.asl {T : Ty} {es : List AV} {n : Nat} {A : Option Addr} {F : Nat → List Value} (hn : n ≤ es.length) (hm : es.length ≤ maxLen)
    (hr : es = [] ∨ ∃ b o, A = some ⟨b, o, none⟩ ∧ ∀ k, k < es.length → ∀ j u, (F k)[j]? = some u → g.ro b (o + k * T.size + j) = some u) (hv : ∀ k (h : k < es.length), RC g.base T es[k] (F k)) : RC g .sc (.sl T (es.take n) none) [.slice A n es.length] := by
  have hlen : (es.take n).length = n := by rw [List.length_take]; omega
  have := RC.sl (g := g) (T := T) (es := es.take n) (tok := none) (A := A) (c := es.length) (by omega) hm F ?_ (fun k hk => ?_) (fun i hi => by cases hi)
  · rw [hlen] at this; exact this
  · rcases hr with h | ⟨b, o, hA, hj⟩
    · subst h; exact .inl List.take_nil
    exact .inr ⟨b, o, hA, fun k hk j u hu => hj k (by omega) j u hu⟩
  rw [List.getElem_take]; exact hv k (by omega)
theorem RV.asb_ {a : AV} {u : Value} (h : RV g a u) : RV g a.asb u := by
  unfold AV.asb
  split
  · obtain ⟨_, A, e, hn, hm, hr, _⟩ := h.bc_inv.bc_inv
    injection e with e; subst e
    exact (show RV1 g _ _ from .inr (RC.asb hn hm hr)).rv
  · obtain ⟨_, A, F, e, hn, hm, hr, hv⟩ := h.slc_inv.slc_inv
    injection e with e; subst e
    exact (show RV1 g _ _ from .inr (RC.asl hn hm hr hv)).rv
  exact h
theorem RC.pti_inv {T : Ty} {i k : Nat} {path : List Nat} {cs : List Value} (h : RC g T (.pti i path k) cs) : T = .sc ∧ ∃ (x : Bx) (o n : Nat), cs = [.pointer (some ⟨x.blk, o + k, none⟩)] ∧ g.bx[i]? = some x ∧ x.ty.loc path = some (o, .ba n) ∧ k < n := by
  cases h with | pti h ho hk => exact ⟨rfl, _, _, _, rfl, h, ho, hk⟩
theorem RC.ref_inv {T T' : Ty} {a : AV} {cs : List Value} (h : RC g T (.ref T' a) cs) : T = .sc ∧ ∃ b o ds, cs = [.pointer (some ⟨b, o, none⟩)] ∧ RC g.base T' a ds ∧ ∀ j u, ds[j]? = some u → g.ro b (o + j) = some u := by
  cases h with | ref cs h hr => exact ⟨rfl, _, _, _, rfl, h, hr⟩
theorem RC.rv1 {a : AV} {u : Value} (h : RC g .sc a [u]) : RV g a u := (show RV1 g a u from .inr h).rv
theorem conv_sound (hτ : τ.ok P) {s d : Nat} {x r : AV} {c : Prop} (h : conv τ s d x = some (r, c)) (hc : c) {u : Value} (hx : RV g x u) : ∃ z, RV g r z ∧ ∀ w, Mem g w → (convert s d u).run P w = .ok z w := by
  unfold conv at h
  split at h
  · rename_i si i hs hi
    have oks := Tab.get_ok hτ hs; have oki := Tab.get_ok hτ hi
    have hd := oki.d
    obtain ⟨hss, _⟩ := oks.agg
    split at h
    · rename_i k' k n hid
      rw [hid] at hd
      have e := hx.v_inv; subst e
      obtain ⟨rfl, rfl⟩ := QR.inj h
      refine ⟨_, convI_sound hc, fun w _ => ?_⟩
      cases hsu : P.underlying s with
      | none => rw [hsu] at hss; cases hss
      | some ds => simp [convert, Sem.run_bind, run_underlying hsu, run_underlying (show P.underlying d = _ from hd), Conv.intToInt]
    · rename_i l tok hid
      rw [hid] at hd
      split at h
      · rename_i e hsd
        have hds := oks.d; rw [hsd] at hds
        split at h
        · rename_i hb
          obtain ⟨hb1, _⟩ := isByte_ok hτ hb
          obtain ⟨rfl, rfl⟩ := QR.inj h
          obtain ⟨_, A, c, e1, hlc, hm, hr⟩ := hx.bs_inv.bs_inv
          injection e1 with e1; subst e1
          refine ⟨_, RV.v_of rfl, fun w hw => ?_⟩
          cases A with
          | none =>
            rcases hr with h | ⟨g, o, hA, _⟩
            · subst h; exact run_convert_bytes_nil w _ _ hds hb1 _ _ _ hd
            cases hA
          | some a =>
            refine run_convert_bytes_back w _ _ _ a c l hds hb1 hd fun j hj => ?_
            rcases hr with h | ⟨g, o, hA, hcell⟩
            · subst h; simp at hj
            injection hA with hA; subst hA
            rw [addr_add]
            exact hw.ro _ _ _ (hcell j hj)
        cases h
      cases h
    · rename_i b hid
      rw [hid] at hd
      have e := hx.v_inv; subst e
      obtain ⟨rfl, rfl⟩ := QR.inj h
      refine ⟨_, RV.v_of rfl, fun w _ => ?_⟩
      cases hsu : P.underlying s with
      | none => rw [hsu] at hss; cases hss
      | some ds => simp [convert, Sem.run_bind, run_underlying hsu, run_underlying (show P.underlying d = _ from hd)]
    cases h
  cases h
theorem Ty.loc_append {T' : Ty} {o' : Nat} {q : List Nat} : ∀ {T T2 : Ty} {p : List Nat} {o : Nat}, T.loc p = some (o, T2) → T2.loc q = some (o', T') → T.loc (p ++ q) = some (o + o', T') := by
  intro T
  induction T with
  | cn a az iha ihaz =>
    intro T2 p
    induction p with
    | nil => intro o h h'; simp only [Ty.loc, Option.some.injEq, Prod.mk.injEq] at h; obtain ⟨rfl, rfl⟩ := h; simpa using h'
    | cons k p ihp =>
      intro o h h'
      cases k with
      | zero => simp only [Ty.loc] at h; simp only [List.cons_append, Ty.loc]; exact iha h h'
      | succ k =>
        simp only [Ty.loc, Option.map_eq_some_iff] at h
        obtain ⟨⟨o1, T1⟩, h1, he⟩ := h
        simp only [Prod.mk.injEq] at he
        obtain ⟨rfl, rfl⟩ := he
        simp only [List.cons_append, Ty.loc, Option.map_eq_some_iff]
        exact ⟨(o1 + o', T'), ihaz (p := k :: p) h1 h', by simp [Nat.add_assoc]⟩
  | _ =>
    intro T2 p o h h'
    cases p with
    | nil => rw [Ty.loc_nil (Ty.loc_grows h)] at h; simp only [Option.some.injEq, Prod.mk.injEq] at h; obtain ⟨rfl, rfl⟩ := h; simpa using h'
    | cons k p => cases k <;> simp [Ty.loc] at h
theorem BR.get {bx : List (Ty × AV)} (hB : BR g bx) {i : Nat} {T : Ty} {a : AV} (h : bx[i]? = some (T, a)) : ∃ x, g.bx[i]? = some x ∧ x.ty = T ∧ BC g T a x := hB.at_ i T a h
theorem fieldA_sound (hτ : τ.ok P) {bx : List (Ty × AV)} (hB : BR g bx) {s f : Nat} {x r : AV} {c : Prop} (h : fieldA τ bx s x f = some (r, c)) {u : Value} (hx : RV g x u) :
    ∃ z, RV g r z ∧ ∀ w, (Instr.fieldAt s u f).run P w = .ok z w := by
  unfold fieldA at h
  split at h
  · cases h
  rename_i i hi
  have hok := Tab.get_ok hτ hi
  have hd := hok.d
  split at h
  · rename_i fs o T' hid hloc
    rw [hid] at hd
    obtain ⟨F, hF, hfs, _⟩ := hd
    split at h
    · rename_i o' t' hf
      split at h
      · rename_i hcond
        obtain ⟨rfl, hsz, htt⟩ := hcond
        obtain ⟨j, hj, hjT⟩ := tyIs_ok hτ htt
        subst hfs
        rw [List.getElem?_map] at hf
        obtain ⟨f0, hf0, hf1⟩ := Option.map_eq_some_iff.1 hf
        simp only [Prod.mk.injEq] at hf1
        obtain ⟨hf1, hf2⟩ := hf1
        have hFf : F[f]? = some f0 := by rw [← Array.getElem?_toList]; exact hf0
        have hs : ∀ w, (sizeOf f0.type).run P w = .ok T'.size w := fun w => by rw [hf2, ← hjT]; exact hj.sizeOf w
        have key : ∀ (b q : Nat) w, (Instr.fieldAt s (.pointer (some ⟨b, q, none⟩)) f).run P w = .ok (.pointer (some ⟨b, q + o, none⟩)) w := by
          intro b q w
          have ha : (⟨b, q, none⟩ : Addr).add o = ⟨b, q + o, none⟩ := addr_add b q o
          simp [Instr.fieldAt, run_underlying hF, hFf, Instr.sureAddr, fieldPlace, hs, hsz, hf1, ha]
        split at h
        · rename_i b path
          split at h
          · rename_i T a0 hb
            split at h
            · rename_i o2 T2 hl2
              split at h
              · rename_i hT2; subst hT2
                obtain ⟨rfl, rfl⟩ := QR.inj h
                obtain ⟨_, y, o3, T3, hy, ho3, e⟩ := hx.ptr_inv.ptr_inv
                injection e with e; subst e
                obtain ⟨y', hy', hty, _⟩ := hB.get hb
                rw [hy] at hy'; injection hy' with hy'; subst hy'
                rw [hty, hl2] at ho3
                simp only [Option.some.injEq, Prod.mk.injEq] at ho3
                obtain ⟨rfl, rfl⟩ := ho3
                exact ⟨_, (RC.ptr hy (by rw [hty]; exact Ty.loc_append hl2 hloc)).rv1, key _ _⟩
              cases h
            cases h
          cases h
        · rename_i T a
          split at h
          · rename_i hT
            split at h
            · rename_i a' ha'
              obtain ⟨rfl, rfl⟩ := QR.inj h
              obtain ⟨_, b, q, ds, e, hr, hro⟩ := hx.ref_inv.ref_inv
              injection e with e; subst e
              rw [hT] at hr
              obtain ⟨a'', ha'', pre, mid, post, rfl, hpre, hmid, _⟩ := hr.lens hloc
              rw [ha'] at ha''; injection ha'' with ha''; subst ha''
              refine ⟨_, (RC.ref mid hmid fun j u hu => ?_).rv1, key _ _⟩
              have := hro (o + j) u (by rw [List.append_assoc, List.getElem?_append_right (by omega), hpre, Nat.add_sub_cancel_left, List.getElem?_append_left (List.getElem?_eq_some_iff.1 hu).1]; exact hu)
              rw [← Nat.add_assoc] at this; exact this
            cases h
          cases h
        cases h
      cases h
    cases h
  cases h
theorem ld_sound (hτ : τ.ok P) {bx : List (Ty × AV)} (hB : BR g bx) {t : Nat} {x r : AV} {c : Prop} (h : ld τ bx t x = some (r, c)) {u : Value} (hx : RV g x u) :
    ∃ z, RV g r z ∧ ∀ w, Mem g w → (Instr.loadAt t u).run P w = .ok z w := by
  unfold ld at h
  split at h
  · cases h
  rename_i i hi
  have hok := Tab.get_ok hτ hi
  split at h
  · rename_i b path
    split at h
    · rename_i T a hb
      split at h
      · rename_i o T2 a' hl ha
        split at h
        · rename_i hT2; subst hT2
          obtain ⟨rfl, rfl⟩ := QR.inj h
          obtain ⟨_, y, o3, T3, hy, ho3, e⟩ := hx.ptr_inv.ptr_inv
          injection e with e; subst e
          obtain ⟨y', hy', hty, hrc⟩ := hB.get hb
          obtain ⟨hyo, hym, hrc⟩ := hrc.rc (Ty.loc_grows hl)
          rw [hy] at hy'; injection hy' with hy'; subst hy'
          rw [hty, hl] at ho3
          simp only [Option.some.injEq, Prod.mk.injEq] at ho3
          obtain ⟨rfl, rfl⟩ := ho3
          obtain ⟨a'', ha'', pre, mid, post, hcs, hpre, hmid, _⟩ := hrc.lens hl
          rw [ha] at ha''; injection ha'' with ha''; subst ha''
          refine ⟨_, hmid.rv.rv', fun w hw => ?_⟩
          have hblk := (hw.bx _ _ hy hyo).c hym
          simp only [Instr.loadAt, Instr.sureAddr, Sem.run_bind, Sem.run_pure, Result.andThen_ok]
          refine run_loadV hok hmid fun j u hu => ?_
          rw [hblk.cell, List.getElem?_toArray, hcs, List.append_assoc, List.getElem?_append_right (by omega), hpre, Nat.add_sub_cancel_left, List.getElem?_append_left (List.getElem?_eq_some_iff.1 hu).1]
          exact hu
        cases h
      cases h
    cases h
  · rename_i b path k
    split at h
    · rename_i T a hb
      split at h
      · rename_i o n l hl ha
        split at h
        · rename_i hTi
          obtain ⟨rfl, rfl⟩ := QR.inj h
          obtain ⟨_, y, o3, n3, e, hy, ho3, hk⟩ := hx.pti_inv.pti_inv
          injection e with e; subst e
          obtain ⟨y', hy', hty, hrc⟩ := hB.get hb
          obtain ⟨hyo, hym, hrc⟩ := hrc.rc (Ty.loc_grows hl)
          rw [hy] at hy'; injection hy' with hy'; subst hy'
          rw [hty, hl] at ho3
          simp only [Option.some.injEq, Prod.mk.injEq, Ty.ba.injEq] at ho3
          obtain ⟨rfl, rfl⟩ := ho3
          obtain ⟨a'', ha'', pre, mid, post, hcs, hpre, hmid, _⟩ := hrc.lens hl
          rw [ha] at ha''; injection ha'' with ha''; subst ha''
          obtain ⟨hn, rfl⟩ := hmid.ba_inv
          injection hn with hn; subst hn
          refine ⟨_, RV.v_of rfl, fun w hw => ?_⟩
          have hblk := (hw.bx _ _ hy hyo).c hym
          simp only [Instr.loadAt, Instr.sureAddr, Sem.run_bind, Sem.run_pure, Result.andThen_ok]
          have := run_loadV (w := w) (b := y.blk) (o := o + k) hok (g := g) (a := .v (B8 l[k])) (cs := [B8 l[k]]) (by rw [hTi]; exact .v rfl) (fun j u hu => by
            cases j with
            | succ j => simp at hu
            | zero =>
              simp at hu; subst hu
              rw [hblk.cell, List.getElem?_toArray, hcs, List.append_assoc, Nat.add_zero, List.getElem?_append_right (by omega), hpre, Nat.add_sub_cancel_left, List.getElem?_append_left (by simpa using hk)]
              simp [hk])
          rw [this, hTi]
          simp [mkV, Ty.agg, List.getD, hk]
        cases h
      cases h
    cases h
  · rename_i T a
    split at h
    · rename_i hT; subst hT
      obtain ⟨rfl, rfl⟩ := QR.inj h
      obtain ⟨_, b, q, ds, e, hr, hro⟩ := hx.ref_inv.ref_inv
      injection e with e; subst e
      refine ⟨_, (hr.mono g.base_le).rv.rv', fun w hw => ?_⟩
      simp only [Instr.loadAt, Instr.sureAddr, Sem.run_bind, Sem.run_pure, Result.andThen_ok]
      exact run_loadV hok hr fun j u hu => hw.ro _ _ _ (hro j u hu)
    cases h
  cases h
end
section
variable {g : Gh} {P : Program} {τ : Tab}
theorem indexA_sound (hτ : τ.ok P) {bx : List (Ty × AV)} (hB : BR g bx) {t : Nat} {x ix r : AV} {c : Prop} (h : indexA τ bx t x ix = some (r, c)) (hc : c) {u v : Value} (hx : RV g x u) (hv : RV g ix v) :
    ∃ z, RV g r z ∧ ∀ w, (Instr.indexAt t u v).run P w = .ok z w := by
  unfold indexA at h
  split at h
  · rename_i k n
    have e := hv.v_inv; subst e
    split at h
    · cases h
    rename_i i hi
    have hok := Tab.get_ok hτ hi
    have hd := hok.d
    split at h
    · rename_i e l tok hid
      rw [hid] at hd
      split at h
      · rename_i ht
        obtain ⟨j, hj, hjT⟩ := tyIs_ok hτ ht
        obtain ⟨rfl, rfl⟩ := QR.inj h
        obtain ⟨hn0, hn1⟩ := hc
        obtain ⟨_, A, c, e1, hlc, hm, hr⟩ := hx.bs_inv.bs_inv
        injection e1 with e1; subst e1
        rcases hr with h | ⟨b, o, rfl, hcell⟩
        · subst h; simp at hn1; omega
        obtain ⟨m, rfl⟩ := Int.eq_ofNat_of_zero_le hn0
        have hm' : m < l.length := by omega
        refine ⟨.pointer (some ⟨b, o + m, none⟩), (RC.ref [B8 l[m]] (by unfold elemB; simp only [Int.toNat_natCast, List.getD, List.getElem?_eq_getElem hm', Option.getD_some]; exact .v rfl) (fun j u hu => by
          cases j with
          | succ j => simp at hu
          | zero => simp at hu; subst hu; exact hcell m hm')).rv1, fun w => ?_⟩
        have hs := hj.sizeOf w
        rw [hjT] at hs; simp only [Ty.size] at hs
        have ha : (⟨b, o, none⟩ : Addr).add m = ⟨b, o + m, none⟩ := addr_add b o m
        simp [Instr.indexAt, asIntOf, run_underlying (show P.underlying t = _ from hd), hs, ha, hm']
      cases h
    · rename_i e T es tok hid
      rw [hid] at hd
      split at h
      · rename_i ht
        obtain ⟨j, hj, hjT⟩ := tyIs_ok hτ ht
        obtain ⟨rfl, rfl⟩ := QR.inj h
        obtain ⟨hn0, hn1⟩ := hc
        obtain ⟨_, A, c, F, e1, hlc, hm, hr, hF⟩ := hx.sl_inv.sl_inv
        injection e1 with e1; subst e1
        rcases hr with h | ⟨b, o, rfl, hcell⟩
        · subst h; simp at hn1; omega
        obtain ⟨m, rfl⟩ := Int.eq_ofNat_of_zero_le hn0
        have hm' : m < es.length := by omega
        refine ⟨.pointer (some ⟨b, o + m * T.size, none⟩), (RC.ref (F m) (by simp only [Int.toNat_natCast, List.getD, List.getElem?_eq_getElem hm', Option.getD_some]; exact hF m hm') (fun j u hu => hcell m hm' j u hu)).rv1, fun w => ?_⟩
        have hs := hj.sizeOf w
        rw [hjT] at hs
        have ha : (⟨b, o, none⟩ : Addr).add (m * T.size) = ⟨b, o + m * T.size, none⟩ := addr_add b o _
        simp [Instr.indexAt, asIntOf, run_underlying (show P.underlying t = _ from hd), hs, ha, hm']
      cases h
    · rename_i e b path o m hid
      rw [hid] at hd
      split at h
      · rename_i ht
        obtain ⟨j, hj, hjT⟩ := tyIs_ok hτ ht
        obtain ⟨rfl, rfl⟩ := QR.inj h
        obtain ⟨hn0, hn1⟩ := hc
        obtain ⟨_, y, o2, n2, cc, A, e1, hy, hl, hon, hcc, hm, hA⟩ := hx.win_inv.win_inv
        injection e1 with e1; subst e1
        obtain ⟨q, rfl⟩ := Int.eq_ofNat_of_zero_le hn0
        rcases hA with h | rfl
        · subst h; simp at hn1; omega
        have hq : q < m := by omega
        simp only [Int.toNat_natCast]
        refine ⟨.pointer (some ⟨y.blk, o2 + (o + q), none⟩), (RC.pti hy hl (by omega)).rv1, fun w => ?_⟩
        have hs := hj.sizeOf w
        rw [hjT] at hs; simp only [Ty.size] at hs
        have ha : (⟨y.blk, o2 + o, none⟩ : Addr).add q = ⟨y.blk, o2 + (o + q), none⟩ := by rw [addr_add, Nat.add_assoc]
        simp [Instr.indexAt, asIntOf, run_underlying (show P.underlying t = _ from hd), hs, ha, hq]
      cases h
    · rename_i m e b path hid
      rw [hid] at hd
      split at h
      · rename_i T a0 hb
        split at h
        · rename_i o2 m2 hl2
          split at h
          · rename_i hcond
            obtain ⟨rfl, ht⟩ := hcond
            obtain ⟨j, hj, hjT⟩ := tyIs_ok hτ ht
            obtain ⟨rfl, rfl⟩ := QR.inj h
            obtain ⟨hn0, hn1⟩ := hc
            obtain ⟨_, y, o3, T3, hy, ho3, e⟩ := hx.ptr_inv.ptr_inv
            injection e with e; subst e
            obtain ⟨y', hy', hty, _⟩ := hB.get hb
            rw [hy] at hy'; injection hy' with hy'; subst hy'
            rw [hty, hl2] at ho3
            simp only [Option.some.injEq, Prod.mk.injEq] at ho3
            obtain ⟨rfl, rfl⟩ := ho3
            obtain ⟨q, rfl⟩ := Int.eq_ofNat_of_zero_le hn0
            simp only [Int.toNat_natCast]
            refine ⟨.pointer (some ⟨y.blk, o2 + q, none⟩), (RC.pti hy (by rw [hty]; exact hl2) (by omega)).rv1, fun w => ?_⟩
            have hs := hj.sizeOf w
            rw [hjT] at hs; simp only [Ty.size] at hs
            have ha : (⟨y.blk, o2, none⟩ : Addr).add q = ⟨y.blk, o2 + q, none⟩ := addr_add _ _ _
            have hq : q < m2 := by omega
            simp [Instr.indexAt, asIntOf, run_underlying (show P.underlying t = _ from hd.1), Instr.sureAddr, hs, ha, hq]
          cases h
        cases h
      cases h
    cases h
  cases h
theorem indexL_sound (hτ : τ.ok P) {bx : List (Ty × AV)} (hB : BR g bx) {t : Nat} {x ix r : AV} {c : Prop} (h : indexL τ bx t x ix = some (r, c)) (hc : c) {u v : Value} (hx : RV g x u) (hv : RV g ix v) :
    ∃ z, RV g r z ∧ ∀ w, (Instr.indexAt t u v).run P w = .ok z w := by
  unfold indexL at h
  split at h
  · rename_i k n
    have e := hv.v_inv; subst e
    split at h
    · cases h
    rename_i i hi
    have hok := Tab.get_ok hτ hi
    have hd := hok.d
    split at h
    · rename_i m e b path hid
      rw [hid] at hd
      split at h
      · rename_i T a0 hb
        split at h
        · rename_i o1 T1 o2 T2 hl1 hl2
          split at h
          · rename_i hcond
            obtain ⟨rfl, ht⟩ := hcond
            obtain ⟨j, hj, hjT⟩ := tyIs_ok hτ ht
            obtain ⟨rfl, rfl⟩ := QR.inj h
            obtain ⟨hn0, hn1⟩ := hc
            obtain ⟨_, y, o3, T3, hy, ho3, e⟩ := hx.ptr_inv.ptr_inv
            injection e with e; subst e
            obtain ⟨y', hy', hty, _⟩ := hB.get hb
            rw [hy] at hy'; injection hy' with hy'; subst hy'
            rw [hty, hl1] at ho3
            simp only [Option.some.injEq, Prod.mk.injEq] at ho3
            obtain ⟨rfl, rfl⟩ := ho3
            obtain ⟨q, rfl⟩ := Int.eq_ofNat_of_zero_le hn0
            simp only [Int.toNat_natCast] at hl2 ⊢
            refine ⟨.pointer (some ⟨y.blk, o1 + q * T2.size, none⟩), (RC.ptr hy (by rw [hty]; exact hl2)).rv1, fun w => ?_⟩
            have hs := hj.sizeOf w
            rw [hjT] at hs
            have ha : (⟨y.blk, o1, none⟩ : Addr).add (q * T2.size) = ⟨y.blk, o1 + q * T2.size, none⟩ := addr_add _ _ _
            have hq : q < m := by omega
            simp [Instr.indexAt, asIntOf, run_underlying (show P.underlying t = _ from hd.1), Instr.sureAddr, hs, ha, hq]
          cases h
        cases h
      cases h
    cases h
  cases h
theorem lenq_sound (hτ : τ.ok P) {t : Nat} {x r : AV} {c : Prop} (h : lenq τ t x = some (r, c)) {u : Value} (hx : RV g x u) (ty : TypeId) :
    ∃ z, RV g r z ∧ ∀ w, (Builtin.len_ #[t] ty #[u]).run P w = .ok z w := by
  unfold lenq at h
  split at h
  · cases h
  rename_i i hi
  have hok := Tab.get_ok hτ hi
  have hd := hok.d
  split at h
  · rename_i e l tok hid
    rw [hid] at hd
    obtain ⟨rfl, rfl⟩ := QR.inj h
    obtain ⟨_, A, c, e1, _⟩ := hx.bs_inv.bs_inv
    injection e1 with e1; subst e1
    exact ⟨_, RV.v_of rfl, fun w => by simp [Builtin.len_, run_underlying (show P.underlying t = _ from hd), goInt]⟩
  · rename_i e T es tok hid
    rw [hid] at hd
    obtain ⟨rfl, rfl⟩ := QR.inj h
    obtain ⟨_, A, c, F, e1, _⟩ := hx.sl_inv.sl_inv
    injection e1 with e1; subst e1
    exact ⟨_, RV.v_of rfl, fun w => by simp [Builtin.len_, run_underlying (show P.underlying t = _ from hd), goInt]⟩
  · rename_i e b path o n hid
    rw [hid] at hd
    obtain ⟨rfl, rfl⟩ := QR.inj h
    obtain ⟨_, y, o2, n2, cc, A, e1, _⟩ := hx.win_inv.win_inv
    injection e1 with e1; subst e1
    exact ⟨_, RV.v_of rfl, fun w => by simp [Builtin.len_, run_underlying (show P.underlying t = _ from hd), goInt]⟩
  · rename_i e l n tok hid
    rw [hid] at hd
    obtain ⟨rfl, rfl⟩ := QR.inj h
    obtain ⟨_, A, e1, _⟩ := hx.bc_inv.bc_inv
    injection e1 with e1; subst e1
    exact ⟨_, RV.v_of rfl, fun w => by simp [Builtin.len_, run_underlying (show P.underlying t = _ from hd), goInt]⟩
  · rename_i e T es n hid
    rw [hid] at hd
    obtain ⟨rfl, rfl⟩ := QR.inj h
    obtain ⟨_, A, F, e1, _⟩ := hx.slc_inv.slc_inv
    injection e1 with e1; subst e1
    exact ⟨_, RV.v_of rfl, fun w => by simp [Builtin.len_, run_underlying (show P.underlying t = _ from hd), goInt]⟩
  · rename_i e hid
    rw [hid] at hd
    have e := hx.v_inv; subst e
    obtain ⟨rfl, rfl⟩ := QR.inj h
    exact ⟨_, RV.v_of rfl, fun w => by simp [Builtin.len_, run_underlying (show P.underlying t = _ from hd), goInt]⟩
  · rename_i s hid
    rw [hid] at hd
    have e := hx.v_inv; subst e
    obtain ⟨rfl, rfl⟩ := QR.inj h
    exact ⟨_, RV.v_of rfl, fun w => by simp [Builtin.len_, run_underlying (show P.underlying t = _ from hd), goInt]⟩
  cases h
theorem capq_sound (hτ : τ.ok P) {t : Nat} {x r : AV} {c : Prop} (h : capq τ t x = some (r, c)) {u : Value} (hx : RV g x u) (ty : TypeId) :
    ∃ z, RV g r z ∧ ∀ w, (Builtin.cap_ #[t] ty #[u]).run P w = .ok z w := by
  unfold capq at h
  split at h
  · cases h
  rename_i i hi
  have hok := Tab.get_ok hτ hi
  have hd := hok.d
  split at h
  · rename_i e l n tok hid
    rw [hid] at hd
    obtain ⟨rfl, rfl⟩ := QR.inj h
    obtain ⟨_, A, e1, _⟩ := hx.bc_inv.bc_inv
    injection e1 with e1; subst e1
    exact ⟨_, RV.v_of rfl, fun w => by simp [Builtin.cap_, run_underlying (show P.underlying t = _ from hd), goInt]⟩
  · rename_i e T es n hid
    rw [hid] at hd
    obtain ⟨rfl, rfl⟩ := QR.inj h
    obtain ⟨_, A, F, e1, _⟩ := hx.slc_inv.slc_inv
    injection e1 with e1; subst e1
    exact ⟨_, RV.v_of rfl, fun w => by simp [Builtin.cap_, run_underlying (show P.underlying t = _ from hd), goInt]⟩
  · rename_i e hid
    rw [hid] at hd
    have e := hx.v_inv; subst e
    obtain ⟨rfl, rfl⟩ := QR.inj h
    exact ⟨_, RV.v_of rfl, fun w => by simp [Builtin.cap_, run_underlying (show P.underlying t = _ from hd), goInt]⟩
  cases h
def RO (g : Gh) : Option AV → Option Value → Prop
  | none, none => True
  | some a, some v => RV g a v
  | _, _ => False
theorem bnd_some {d n : Int} {a : Option AV} {v : Option Value} (h : bnd d a = some n) (hv : RO g a v) : (a = none ∧ v = none ∧ n = d) ∨ ∃ k, v = some (.int k n) := by
  cases a with
  | none => cases v with
    | none => simp only [bnd, Option.some.injEq] at h; exact .inl ⟨rfl, rfl, h.symm⟩
    | some v => exact hv.elim
  | some a => cases v with
    | none => exact hv.elim
    | some v =>
      unfold bnd at h
      split at h
      · rename_i e; cases e
      · rename_i e; injection e with e; subst e; injection h with h; subst h; have := RV.v_inv (show RV g (.v _) v from hv); subst this; exact .inr ⟨_, rfl⟩
      cases h
theorem run_bounds {isS : Bool} {len cap : Nat} {lo hi : Option AV} {vlo vhi : Option Value} {a b : Int} (h1 : bnd 0 lo = some a) (h2 : bnd len hi = some b) (r1 : RO g lo vlo) (r2 : RO g hi vhi) (ha : 0 ≤ a) (hab : a ≤ b) (hb : b ≤ len) (hl : len ≤ cap) (w : World) :
    (Instr.sliceBounds isS len cap vlo vhi none).run P w = .ok (a.toNat, b.toNat, cap) w := by
  have hbc : b ≤ cap := by omega
  have hb0 : 0 ≤ b := by omega
  have e : ((b.toNat : Nat) : Int) = b := by omega
  rcases bnd_some h1 r1 with ⟨_, rfl, rfl⟩ | ⟨k1, rfl⟩ <;> rcases bnd_some h2 r2 with ⟨_, rfl, rfl⟩ | ⟨k2, rfl⟩
  · simp [Instr.sliceBounds]
  · simp [Instr.sliceBounds, Instr.sliceBound, asIntOf, hb0, hbc]
  · simp [Instr.sliceBounds, Instr.sliceBound, asIntOf, ha, hab]
  simp [Instr.sliceBounds, Instr.sliceBound, asIntOf, ha, hb0, hbc, e, hab]
theorem run_boundsC {isS : Bool} {len cap : Nat} {lo hi : Option AV} {vlo vhi : Option Value} {a b : Int} (h1 : bnd 0 lo = some a) (h2 : bnd len hi = some b) (r1 : RO g lo vlo) (r2 : RO g hi vhi) (ha : 0 ≤ a) (hab : a ≤ b) (hb : b ≤ cap) (w : World) :
    (Instr.sliceBounds isS len cap vlo vhi none).run P w = .ok (a.toNat, b.toNat, cap) w := by
  have hb0 : 0 ≤ b := by omega
  have e : ((b.toNat : Nat) : Int) = b := by omega
  rcases bnd_some h1 r1 with ⟨_, rfl, rfl⟩ | ⟨k1, rfl⟩ <;> rcases bnd_some h2 r2 with ⟨_, rfl, rfl⟩ | ⟨k2, rfl⟩
  · simp [Instr.sliceBounds]
  · simp [Instr.sliceBounds, Instr.sliceBound, asIntOf, hb0, hb]
  · simp [Instr.sliceBounds, Instr.sliceBound, asIntOf, ha, hab]
  simp [Instr.sliceBounds, Instr.sliceBound, asIntOf, ha, hb0, hb, e, hab]
theorem slq_sound (hτ : τ.ok P) {bx : List (Ty × AV)} (hB : BR g bx) {t : Nat} {x r : AV} {lo hi : Option AV} {c : Prop} (h : slq τ bx t x lo hi = some (r, c)) (hc : c) {u : Value} {vlo vhi : Option Value} (hx : RV g x u) (r1 : RO g lo vlo) (r2 : RO g hi vhi) :
    ∃ z, RV g r z ∧ ∀ w, (Instr.sliceAt t u vlo vhi none).run P w = .ok z w := by
  unfold slq at h
  split at h
  · cases h
  rename_i i hi
  have hok := Tab.get_ok hτ hi
  have hd := hok.d
  split at h
  · rename_i e l tok hid
    rw [hid] at hd
    split at h
    · rename_i a b h1 h2
      split at h
      · rename_i ht
        obtain ⟨j, hj, hjT⟩ := tyIs_ok hτ ht
        obtain ⟨rfl, rfl⟩ := QR.inj h
        obtain ⟨c1, c2, c3⟩ := hc
        obtain ⟨_, A, c, e1, hlc, hm, hr⟩ := hx.bs_inv.bs_inv
        injection e1 with e1; subst e1
        have hlen : ((l.take b.toNat).drop a.toNat).length = b.toNat - a.toNat := by rw [List.length_drop, List.length_take]; omega
        refine ⟨.slice (if c = a.toNat then A else A.map (·.add a.toNat)) (b.toNat - a.toNat) (c - a.toNat), ?_, fun w => ?_⟩
        · have := RC.bs (g := g) (l := (l.take b.toNat).drop a.toNat) (tok := none) (A := if c = a.toNat then A else A.map (·.add a.toNat)) (c := c - a.toNat) (by rw [hlen]; omega) (by omega) ?_ (fun i hi => by cases hi)
          · rw [hlen] at this; exact this.rv1
          by_cases hz : b.toNat - a.toNat = 0
          · exact .inl (List.length_eq_zero_iff.1 (by rw [hlen]; exact hz))
          rcases hr with h | ⟨bb, o, rfl, hcell⟩
          · subst h; simp at c3; omega
          refine .inr ⟨bb, o + a.toNat, ?_, fun j hj => ?_⟩
          · rw [if_neg (by omega)]; simp [addr_add]
          rw [hlen] at hj
          have := hcell (a.toNat + j) (by omega)
          rw [Nat.add_assoc, this]
          simp
        have hs := hj.sizeOf w
        rw [hjT] at hs; simp only [Ty.size] at hs
        simp [Instr.sliceAt, Instr.slice, run_underlying (show P.underlying t = _ from hd), run_bounds h1 h2 r1 r2 c1 c2 c3 hlc, hs]
      cases h
    cases h
  · rename_i e T es tok hid
    rw [hid] at hd
    split at h
    · rename_i a b h1 h2
      split at h
      · rename_i ht
        obtain ⟨j, hj, hjT⟩ := tyIs_ok hτ ht
        obtain ⟨rfl, rfl⟩ := QR.inj h
        obtain ⟨c1, c2, c3⟩ := hc
        obtain ⟨_, A, c, F, e1, hlc, hm, hr, hF⟩ := hx.sl_inv.sl_inv
        injection e1 with e1; subst e1
        have hlen : ((es.take b.toNat).drop a.toNat).length = b.toNat - a.toNat := by rw [List.length_drop, List.length_take]; omega
        refine ⟨.slice (if c = a.toNat then A else A.map (·.add (a.toNat * T.size))) (b.toNat - a.toNat) (c - a.toNat), ?_, fun w => ?_⟩
        · have := RC.sl (g := g) (T := T) (es := (es.take b.toNat).drop a.toNat) (tok := none) (A := if c = a.toNat then A else A.map (·.add (a.toNat * T.size))) (c := c - a.toNat) (by rw [hlen]; omega) (by omega) (fun k => F (a.toNat + k)) ?_ ?_ (fun i hi => by cases hi)
          · rw [hlen] at this; exact this.rv1
          · by_cases hz : b.toNat - a.toNat = 0
            · exact .inl (List.length_eq_zero_iff.1 (by rw [hlen]; exact hz))
            rcases hr with h | ⟨bb, o, rfl, hcell⟩
            · subst h; simp at c3; omega
            refine .inr ⟨bb, o + a.toNat * T.size, ?_, fun k hk j u hu => ?_⟩
            · rw [if_neg (by omega)]; simp [addr_add]
            rw [hlen] at hk
            have := hcell (a.toNat + k) (by omega) j u hu
            rw [Nat.add_mul, ← Nat.add_assoc] at this
            exact this
          intro k hk
          rw [hlen] at hk
          have := hF (a.toNat + k) (by omega)
          simpa using this
        have hs := hj.sizeOf w
        rw [hjT] at hs
        simp [Instr.sliceAt, Instr.slice, run_underlying (show P.underlying t = _ from hd), run_bounds h1 h2 r1 r2 c1 c2 c3 hlc, hs]
      cases h
    cases h
  · rename_i e l n tok hid
    rw [hid] at hd
    split at h
    · rename_i a b h1 h2
      split at h
      · rename_i ht
        obtain ⟨j, hj, hjT⟩ := tyIs_ok hτ ht
        obtain ⟨rfl, rfl⟩ := QR.inj h
        obtain ⟨c1, c2, c3⟩ := hc
        obtain ⟨_, A, e1, hn, hm, hr, htk⟩ := hx.bc_inv.bc_inv
        injection e1 with e1; subst e1
        have hlen : (l.drop a.toNat).length = l.length - a.toNat := List.length_drop
        refine ⟨.slice (if l.length = a.toNat then A else A.map (·.add a.toNat)) (b.toNat - a.toNat) (l.length - a.toNat), ?_, fun w => ?_⟩
        · have := RC.bc (g := g) (l := l.drop a.toNat) (n := b.toNat - a.toNat) (tok := keepTok lo tok) (A := if l.length = a.toNat then A else A.map (·.add a.toNat)) (by rw [hlen]; omega) (by rw [hlen]; omega) ?_ (fun i hi => ?_)
          · rw [hlen] at this; exact this.rv1
          · by_cases hz : l.length = a.toNat
            · exact .inl (List.length_eq_zero_iff.1 (by rw [hlen]; omega))
            rcases hr with h | ⟨bb, o, rfl, hcell⟩
            · subst h; exact absurd (by simp at c3 ⊢; omega) hz
            refine .inr ⟨bb, o + a.toNat, ?_, fun j hj => ?_⟩
            · rw [if_neg hz]; simp [addr_add]
            rw [hlen] at hj
            have := hcell (a.toNat + j) (by omega)
            rw [Nat.add_assoc, this]
            simp
          cases lo with
          | some q => cases hi
          | none =>
            obtain ⟨x, k1, k2, k3⟩ := htk i hi
            have ha0 : a = 0 := by simp only [bnd, Option.some.injEq] at h1; exact h1.symm
            subst ha0
            refine ⟨x, k1, ?_, by rw [hlen]; simpa using k3⟩
            rw [k2]; simp [addr_add]
        have hs := hj.sizeOf w
        rw [hjT] at hs; simp only [Ty.size] at hs
        simp [Instr.sliceAt, Instr.slice, run_underlying (show P.underlying t = _ from hd), run_boundsC h1 h2 r1 r2 c1 c2 c3, hs]
      cases h
    cases h
  · rename_i e T es n hid
    rw [hid] at hd
    split at h
    · rename_i a b h1 h2
      split at h
      · rename_i ht
        obtain ⟨j, hj, hjT⟩ := tyIs_ok hτ ht
        obtain ⟨rfl, rfl⟩ := QR.inj h
        obtain ⟨c1, c2, c3⟩ := hc
        obtain ⟨_, A, F, e1, hn, hm, hr, hF⟩ := hx.slc_inv.slc_inv
        injection e1 with e1; subst e1
        have hlen : (es.drop a.toNat).length = es.length - a.toNat := List.length_drop
        refine ⟨.slice (if es.length = a.toNat then A else A.map (·.add (a.toNat * T.size))) (b.toNat - a.toNat) (es.length - a.toNat), ?_, fun w => ?_⟩
        · have := RC.slc (g := g) (T := T) (es := es.drop a.toNat) (n := b.toNat - a.toNat) (A := if es.length = a.toNat then A else A.map (·.add (a.toNat * T.size))) (by rw [hlen]; omega) (by rw [hlen]; omega) (fun k => F (a.toNat + k)) ?_ ?_
          · rw [hlen] at this; exact this.rv1
          · by_cases hz : es.length = a.toNat
            · exact .inl (List.length_eq_zero_iff.1 (by rw [hlen]; omega))
            rcases hr with h | ⟨bb, o, rfl, hcell⟩
            · subst h; exact absurd (by simp at c3 ⊢; omega) hz
            refine .inr ⟨bb, o + a.toNat * T.size, ?_, fun k hk j u hu => ?_⟩
            · rw [if_neg hz]; simp [addr_add]
            rw [hlen] at hk
            have := hcell (a.toNat + k) (by omega) j u hu
            rw [Nat.add_mul, ← Nat.add_assoc] at this
            exact this
          intro k hk
          rw [hlen] at hk
          have := hF (a.toNat + k) (by omega)
          simpa using this
        have hs := hj.sizeOf w
        rw [hjT] at hs
        simp [Instr.sliceAt, Instr.slice, run_underlying (show P.underlying t = _ from hd), run_boundsC h1 h2 r1 r2 c1 c2 c3, hs]
      cases h
    cases h
  · rename_i e b0 path o m hid
    rw [hid] at hd
    split at h
    · rename_i a b h1 h2
      split at h
      · rename_i ht
        obtain ⟨j, hj, hjT⟩ := tyIs_ok hτ ht
        obtain ⟨rfl, rfl⟩ := QR.inj h
        obtain ⟨c1, c2, c3⟩ := hc
        obtain ⟨_, y, o2, n2, cc, A, e1, hy, hl, hon, hcc, hm, hA⟩ := hx.win_inv.win_inv
        injection e1 with e1; subst e1
        refine ⟨.slice (if cc = a.toNat then A else A.map (·.add a.toNat)) (b.toNat - a.toNat) (cc - a.toNat), ?_, fun w => ?_⟩
        · refine (RC.win hy hl (by omega) (by omega) (by omega) ?_).rv1
          by_cases hz : cc - a.toNat = 0
          · exact .inl hz
          rcases hA with h | rfl
          · omega
          right; rw [if_neg (by omega)]; simp [addr_add, Nat.add_assoc]
        have hs := hj.sizeOf w
        rw [hjT] at hs; simp only [Ty.size] at hs
        simp [Instr.sliceAt, Instr.slice, run_underlying (show P.underlying t = _ from hd), run_bounds h1 h2 r1 r2 c1 c2 c3 hcc, hs]
      cases h
    cases h
  · rename_i m e b path hid
    rw [hid] at hd
    split at h
    · rename_i T a0 hb
      split at h
      · rename_i o2 m2 a b' hl2 h1 h2
        split at h
        · rename_i hcond
          obtain ⟨rfl, ht⟩ := hcond
          obtain ⟨j, hj, hjT⟩ := tyIs_ok hτ ht
          obtain ⟨rfl, rfl⟩ := QR.inj h
          obtain ⟨c1, c2, c3, c4⟩ := hc
          obtain ⟨_, y, o3, T3, hy, ho3, e⟩ := hx.ptr_inv.ptr_inv
          injection e with e; subst e
          obtain ⟨y', hy', hty, _⟩ := hB.get hb
          rw [hy] at hy'; injection hy' with hy'; subst hy'
          rw [hty, hl2] at ho3
          simp only [Option.some.injEq, Prod.mk.injEq] at ho3
          obtain ⟨rfl, rfl⟩ := ho3
          refine ⟨.slice (some (if m2 = a.toNat then ⟨y.blk, o2, none⟩ else (⟨y.blk, o2, none⟩ : Addr).add a.toNat)) (b'.toNat - a.toNat) (m2 - a.toNat), ?_, fun w => ?_⟩
          · refine (RC.win hy (by rw [hty]; exact hl2) (by omega) (by omega) (by simp only [maxLen]; omega) ?_).rv1
            by_cases hz : m2 - a.toNat = 0
            · exact .inl hz
            right; rw [if_neg (by omega), addr_add]
          have hs := hj.sizeOf w
          rw [hjT] at hs; simp only [Ty.size] at hs
          simp [Instr.sliceAt, run_underlying (show P.underlying t = _ from hd.1), Instr.sureAddr, run_bounds h1 h2 r1 r2 c1 c2 c3 (Nat.le_refl _), hs]
        cases h
      cases h
    cases h
  cases h
theorem s2a_sound (hτ : τ.ok P) {t : Nat} {x r : AV} {c : Prop} (h : s2a τ t x = some (r, c)) (hc : c) {u : Value} (hx : RV g x u) :
    ∃ z, RV g r z ∧ ∀ w, (Instr.arrayAt t u).run P w = .ok z w := by
  unfold s2a at h
  split at h
  · cases h
  rename_i i hi
  have hok := Tab.get_ok hτ hi
  have hd := hok.d
  split at h
  · rename_i m e l tok hid
    rw [hid] at hd
    split at h
    · rename_i hcond
      obtain ⟨rfl, rfl⟩ := QR.inj h
      obtain ⟨c1, c2⟩ := hc
      obtain ⟨_, A, c, e1, hlc, hm, hr⟩ := hx.bs_inv.bs_inv
      injection e1 with e1; subst e1
      rcases hr with h | ⟨b, o, rfl, hcell⟩
      · subst h; simp at c2; omega
      refine ⟨.pointer (some ⟨b, o, none⟩), (RC.ref ((l.take m).map B8) (.ba (by rw [List.length_take]; omega)) fun j u hu => ?_).rv1, fun w => ?_⟩
      · simp only [List.getElem?_map, Option.map_eq_some_iff] at hu
        obtain ⟨x0, hx0, rfl⟩ := hu
        obtain ⟨hj, hj2⟩ := List.getElem?_eq_some_iff.1 hx0
        rw [List.length_take] at hj
        rw [hcell j (by omega), ← hj2]
        simp
      simp [Instr.arrayAt, run_underlying (show P.underlying t = _ from hd.1), Nat.not_lt.2 c2]
    cases h
  cases h
theorem idxq_sound (hτ : τ.ok P) {t : Nat} {x ix r : AV} {c : Prop} (h : idxq τ t x ix = some (r, c)) (hc : c) {u v : Value} (hx : RV g x u) (hi : RV g ix v) :
    ∃ z, RV g r z ∧ ∀ w, (Instr.index t u v).run P w = .ok z w := by
  unfold idxq at h
  split at h
  · rename_i i k n hit
    have hv := hi.v_inv; subst hv
    have hok := Tab.get_ok hτ hit
    have hd := hok.d
    split at h
    · rename_i m e l hid
      rw [hid] at hd
      split at h
      · rename_i hcond
        obtain ⟨hT, ht⟩ := hcond
        obtain ⟨j, hj, hjT⟩ := tyIs_ok hτ ht
        obtain ⟨rfl, rfl⟩ := QR.inj h
        obtain ⟨c1, c2, c3⟩ := hc
        obtain ⟨n, rfl⟩ := Int.eq_ofNat_of_zero_le c1
        have hu := hx.ba_inv; subst hu
        have hn : n < l.length := by omega
        refine ⟨B8 l[n], ?_, fun w => ?_⟩
        · have e : elemB l (n : Int) = .v (B8 l[n]) := by simp [elemB, hn, B8]
          rw [e]; exact RV.v_of rfl
        have := run_part_byte (P := P) hj hjT l n hn w
        have hn2 : n < m := by omega
        simpa [Instr.index, asIntOf, run_underlying (show P.underlying t = _ from hd.1), hn2, hj.sizeOf w, hjT, Ty.size] using this
      cases h
    · rename_i m e fs hid
      rw [hid] at hd
      split at h
      · rename_i o T f hl hf
        split at h
        · rename_i hcond
          obtain ⟨ht, hagg, hall⟩ := hcond
          obtain ⟨j, hj, hjT⟩ := tyIs_ok hτ ht
          obtain ⟨rfl, rfl⟩ := QR.inj h
          obtain ⟨⟨c1, c2⟩, hfit⟩ := hc
          obtain ⟨n, rfl⟩ := Int.eq_ofNat_of_zero_le c1
          have hn : n < m := by omega
          have hln := List.all_eq_true.1 hall n (List.mem_range.2 hn)
          simp only [beq_iff_eq] at hln
          obtain ⟨cs, hrc, rfl⟩ := hx.fit hfit
          obtain ⟨a'', ha'', pre, mid, post, hcs, hpre, hmid, _⟩ := hrc.lens hln
          have ha2 : a'' = f := by
            simp only [AV.loc, Int.toNat_natCast] at ha'' hf
            rw [hf] at ha''
            simpa using ha''.symm
          subst ha2
          rw [← hjT] at hmid
          have hTa : i.ty.agg = true := by have := hok.agg.2; rw [hd.1] at this; exact this.symm
          have hsz : j.ty.size = 1 := by rw [hjT]; cases T <;> simp [Ty.agg] at hagg; rfl
          refine ⟨_, hmid.rv.rv', fun w => ?_⟩
          have := run_part hj (xs := cs.toArray) (off := n) (pre := pre) (mid := mid) (post := post) (by simpa using hcs) (by omega) hmid w
          rw [mkV, if_pos hTa]
          simp [Instr.index, asIntOf, run_underlying (show P.underlying t = _ from hd.1), hn, hj.sizeOf w, hsz, this]
        cases h
      cases h
    cases h
  cases h
theorem fldq_sound (hτ : τ.ok P) {t f : Nat} {x r : AV} {c : Prop} (h : fldq τ t x f = some (r, c)) (hc : c) {u : Value} (hx : RV g x u) :
    ∃ z, RV g r z ∧ ∀ w, (Instr.field t u f).run P w = .ok z w := by
  unfold fldq at h
  split at h
  · cases h
  rename_i i hi
  have hok := Tab.get_ok hτ hi
  have hd := hok.d
  split at h
  · rename_i fs o T' a hid hl ha
    rw [hid] at hd
    obtain ⟨F, hF, hfs, _⟩ := hd
    split at h
    · rename_i o' t' hf
      split at h
      · rename_i hcond
        obtain ⟨rfl, ht⟩ := hcond
        obtain ⟨j, hj, hjT⟩ := tyIs_ok hτ ht
        obtain ⟨rfl, rfl⟩ := QR.inj h
        subst hfs
        rw [List.getElem?_map] at hf
        obtain ⟨f0, hf0, hf1⟩ := Option.map_eq_some_iff.1 hf
        simp only [Prod.mk.injEq] at hf1
        obtain ⟨hf1, hf2⟩ := hf1
        have hFf : F[f]? = some f0 := by rw [← Array.getElem?_toList]; exact hf0
        obtain ⟨cs, hrc, rfl⟩ := hx.fit hc
        obtain ⟨a'', ha'', pre, mid, post, hcs, hpre, hmid, _⟩ := hrc.lens hl
        rw [ha] at ha''; injection ha'' with ha''; subst ha''
        rw [← hjT] at hmid
        have hT : i.ty.agg = true := by have := hok.agg.2; rw [hF] at this; exact this.symm
        refine ⟨_, hmid.rv.rv', fun w => ?_⟩
        have := run_part hj (xs := cs.toArray) (off := f0.offset) (pre := pre) (mid := mid) (post := post) (by simpa using hcs) (by omega) hmid w
        rw [mkV, if_pos hT]
        simp [Instr.field, run_underlying hF, hFf, asAgg, hf2, this]
      cases h
    cases h
  cases h
end
section
variable {g : Gh} {P : Program} {τ : Tab}
theorem same_sound {x r : AV} {c : Prop} (h : same x = some (r, c)) {u : Value} (hx : RV g x u) : RV g r u := by
  unfold same at h
  split at h <;> first | (cases h; done) | (obtain ⟨rfl, rfl⟩ := QR.inj h; exact hx)
theorem guard_int (op : BinOp) (t : TypeId) (x y : Operand) (k k' : IntKind) (a b : Int) (w : World) : (eqGuard op t x y (.int k a) (.int k' b)).run P w = .ok () w := by
  cases op <;> simp [eqGuard]
theorem guard_str (op : BinOp) (t : TypeId) (x y : Operand) (a b : ByteArray) (w : World) : (eqGuard op t x y (.string a) (.string b)).run P w = .ok () w := by
  cases op <;> simp [eqGuard]
theorem bin_guard {op : BinOp} {x y r : AV} {c : Prop} (h : bin op x y = some (r, c)) {u v : Value} (hx : RV g x u) (hy : RV g y v) (t : TypeId) (p q : Operand) (w : World) : (eqGuard op t p q u v).run P w = .ok () w := by
  unfold bin at h
  split at h
  · have e1 := hx.v_inv; have e2 := hy.v_inv; subst e1 e2; exact guard_int ..
  · have e1 := hx.v_inv; have e2 := hy.v_inv; subst e1 e2; exact guard_str ..
  cases h
theorem eqq_sound (hτ : τ.ok P) {op : BinOp} {t : Nat} {x y r : AV} {c : Prop} (h : eqq τ op t x y = some (r, c)) (hc : c) {u v : Value} (hx : RV g x u) (hy : RV g y v) (p q : Operand) :
    ∃ z, RV g r z ∧ ∀ w, (eqGuard op t p q u v).run P w = .ok () w ∧ (binOp op t u v).run P w = .ok z w := by
  unfold eqq at h
  split at h
  · rename_i i r' hi hr'
    split at hr'
    · rename_i hsh
      have hok := Tab.get_ok hτ hi
      have key : fit i.ty x ∧ fit i.ty y → ∀ w, (eqGuard .eql t p q u v).run P w = .ok () w ∧ (eqGuard .neq t p q u v).run P w = .ok () w ∧ (binOp .eql t u v).run P w = .ok (.bool r') w ∧ (binOp .neq t u v).run P w = .ok (.bool (!r')) w := by
        rintro ⟨f1, f2⟩ w
        obtain ⟨cs, h1, e1⟩ := hx.fit f1
        obtain ⟨ds, h2, e2⟩ := hy.fit f2
        have he := eqA_sound hτ 20 t x y r' i cs ds hi hr' h1 h2 10000 (by decide) w
        rw [← e1, ← e2] at he
        clear e1 e2 h1 h2
        unfold eqShape at hsh
        split at hsh
        · have e1 := hx.v_inv; have e2 := hy.v_inv; subst e1 e2
          simp [eqGuard, binOp, Op.equal, Op.maxDepth, he]
        · have e1 := hx.v_inv; have e2 := hy.v_inv; subst e1 e2
          simp [eqGuard, binOp, Op.equal, Op.maxDepth, he]
        · have e2 := hy.v_inv; subst e2
          obtain ⟨_, y, o3, T3, _, _, e⟩ := hx.ptr_inv.ptr_inv
          injection e with e; subst e
          simp [eqGuard, binOp, Op.equal, Op.maxDepth, he]
        · have e1 := hx.v_inv; subst e1
          obtain ⟨_, y, o3, T3, _, _, e⟩ := hy.ptr_inv.ptr_inv
          injection e with e; subst e
          simp [eqGuard, binOp, Op.equal, Op.maxDepth, he]
        · have e2 := hy.v_inv; subst e2
          obtain ⟨_, b3, o3, e⟩ := hx.ref_inv.ref_one
          injection e with e; subst e
          simp [eqGuard, binOp, Op.equal, Op.maxDepth, he]
        · have e1 := hx.v_inv; subst e1
          obtain ⟨_, b3, o3, e⟩ := hy.ref_inv.ref_one
          injection e with e; subst e
          simp [eqGuard, binOp, Op.equal, Op.maxDepth, he]
        · have e2 := hy.v_inv; subst e2
          obtain ⟨_, b3, o3, e⟩ := hx.pv_inv.pv_one
          injection e with e; subst e
          simp [eqGuard, binOp, Op.equal, Op.maxDepth, he]
        · have e1 := hx.v_inv; subst e1
          obtain ⟨_, b3, o3, e⟩ := hy.pv_inv.pv_one
          injection e with e; subst e
          simp [eqGuard, binOp, Op.equal, Op.maxDepth, he]
        · have e1 := hx.ba_inv; have e2 := hy.ba_inv; subst e1 e2
          have hT : i.ty.agg = true := by cases hty : i.ty <;> simp only [hty, fit] at f1 <;> rfl
          have hg := (hok.eq hT).1
          refine ⟨run_eqGuard_agg w .eql t p q _ _ hg, run_eqGuard_agg w .neq t p q _ _ hg, ?_, ?_⟩
          · rw [run_eql_struct, he]; rfl
          rw [run_neq_struct, he]; rfl
        · obtain ⟨_, _, _, _, rfl⟩ := hx.st_inv; obtain ⟨_, _, _, _, rfl⟩ := hy.st_inv
          have hT : i.ty.agg = true := by cases hty : i.ty <;> simp only [hty, fit] at f1 <;> rfl
          have hg := (hok.eq hT).1
          refine ⟨run_eqGuard_agg w .eql t p q _ _ hg, run_eqGuard_agg w .neq t p q _ _ hg, ?_, ?_⟩
          · rw [run_eql_struct, he]; rfl
          rw [run_neq_struct, he]; rfl
        cases hsh
      split at h
      · obtain ⟨rfl, rfl⟩ := QR.inj h
        exact ⟨_, RV.v_of rfl, fun w => ⟨(key hc w).1, (key hc w).2.2.1⟩⟩
      · obtain ⟨rfl, rfl⟩ := QR.inj h
        exact ⟨_, RV.v_of rfl, fun w => ⟨(key hc w).2.1, (key hc w).2.2.2⟩⟩
      cases h
    cases hr'
  cases h
theorem binq_sound (hτ : τ.ok P) {op : BinOp} {t : Nat} {x y r : AV} {c : Prop} (h : binq τ op t x y = some (r, c)) (hc : c) {u v : Value} (hx : RV g x u) (hy : RV g y v) (p q : Operand) :
    ∃ z, RV g r z ∧ ∀ w, (eqGuard op t p q u v).run P w = .ok () w ∧ (binOp op t u v).run P w = .ok z w := by
  unfold binq at h
  split at h
  · rename_i r0 hr0
    injection h with h; subst h
    obtain ⟨z, h1, h2⟩ := bin_sound (P := P) hr0 hc hx hy t
    exact ⟨z, h1, fun w => ⟨bin_guard hr0 hx hy t p q w, h2 w⟩⟩
  exact eqq_sound hτ h hc hx hy p q
theorem extr_sound {x r : AV} {ix : Nat} {c : Prop} (h : extr x ix = some (r, c)) {u : Value} (hx : RV g x u) : ∃ z, RV g r z ∧ ∀ w, (Instr.extract u ix).run P w = .ok z w := by
  unfold extr at h
  split at h
  · rename_i az
    split at h
    · rename_i a0 ha0
      obtain ⟨rfl, rfl⟩ := QR.inj h
      obtain ⟨vs, rfl, hl, hv⟩ := (show ∃ vs : List Value, u = .tuple vs.toArray ∧ vs.length = az.length ∧ ∀ (i : Nat) a u, az[i]? = some a → vs[i]? = some u → RV1 g a u from hx)
      have hlt : ix < vs.length := by rw [hl]; exact (List.getElem?_eq_some_iff.1 ha0).1
      refine ⟨vs[ix], (hv ix _ _ ha0 (List.getElem?_eq_getElem hlt)).rv, fun w => ?_⟩
      simp [Instr.extract, hlt]
    cases h
  cases h
theorem minq_sound {x y r : AV} {c : Prop} (h : minq x y = some (r, c)) {u v : Value} (hx : RV g x u) (hy : RV g y v) (ts : Array TypeId) (ty : TypeId) : ∃ z, RV g r z ∧ ∀ w, (Builtin.min_ ts ty #[u, v]).run P w = .ok z w := by
  unfold minq at h
  split at h
  · split at h
    · rename_i e; subst e
      obtain ⟨rfl, rfl⟩ := QR.inj h
      have e1 := hx.v_inv; have e2 := hy.v_inv; subst e1 e2
      exact ⟨_, RV.v_of rfl, fun w => by simp [Builtin.min_, Builtin.min2]⟩
    cases h
  cases h
theorem nilq_sound {x r : AV} {c : Prop} (h : nilq x = some (r, c)) {u : Value} (hx : RV g x u) : RV g r u ∧ ∃ a, u = .pointer (some a) := by
  unfold nilq at h
  split at h
  · obtain ⟨rfl, rfl⟩ := QR.inj h
    obtain ⟨_, y, o3, T3, _, _, e⟩ := hx.ptr_inv.ptr_inv
    injection e with e; subst e; exact ⟨hx, _, rfl⟩
  · obtain ⟨rfl, rfl⟩ := QR.inj h
    obtain ⟨_, b, o, e⟩ := hx.pv_inv.pv_one
    injection e with e; subst e; exact ⟨hx, _, rfl⟩
  · obtain ⟨rfl, rfl⟩ := QR.inj h
    obtain ⟨_, y, o3, n3, e, _⟩ := hx.pti_inv.pti_inv
    injection e with e; subst e; exact ⟨hx, _, rfl⟩
  · obtain ⟨rfl, rfl⟩ := QR.inj h
    obtain ⟨_, b, q, ds, e, _⟩ := hx.ref_inv.ref_inv
    injection e with e; subst e; exact ⟨hx, _, rfl⟩
  cases h
theorem ev2_sound {nt : Nat} {st : St} {a : Act} (hF : FR g nt st a) {c c' : Gd} (hc : gholds a c) (hc' : gholds a c') (x : Operand) : RV g (st.ev2 c c' x) (a.eval x) := by
  unfold St.ev2
  split
  · exact ev_sound hF hc' x
  exact ev_sound hF hc x
theorem flat_at {es : List AV} {F : Nat → List Value} {sp : List Value} {T : Ty} (h : ∀ k (h : k < es.length), RC g.base T es[k] (F k)) {k : Nat} (hk : k < es.length) {j : Nat} {u : Value} (hu : (F k)[j]? = some u) : ((List.range es.length).flatMap F ++ sp)[k * T.size + j]? = some u := by
  have := flat_get (F := F) (s := T.size) es.length (fun k hk => (h k hk).size) k j u hk hu
  rw [List.getElem?_append_left (List.getElem?_eq_some_iff.1 this).1]; exact this
theorem TI.ok.grows {t : TypeId} {i : TI} (h : i.ok P t) : i.ty.grows = false := by
  obtain ⟨_, z, _, _, _, _, e⟩ := h.info
  exact (e ⟨fun _ _ => none, [], []⟩).grows
theorem indexV_sound (hτ : τ.ok P) {bx : List (Ty × AV)} (hB : BR g bx) {t : Nat} {x ix r : AV} {c : Prop} (h : indexV τ bx t x ix = some (r, c)) (hc : c) {u v : Value} (hx : RV g x u) (hv : RV g ix v) :
    ∃ z, RV g r z ∧ ∀ w, (Instr.indexAt t u v).run P w = .ok z w := by
  have key : ∀ {b γ m k e e' : Nat} {T : Ty} {y : Bx} {A : Option Addr} {cc : Nat} {kk : IntKind}, g.bx[b]? = some y → y.ty = .vc e' T → y.gen = γ → m ≤ cc → (y.gen = γ → cc = y.cap ∧ (y.off = true ∧ A = none ∨ y.off = false ∧ A = some ⟨y.blk, 0, none⟩)) → (y.off = true → y.cap = 0) →
      P.underlying t = some (.slice e) → (∃ j : TI, j.ok P e ∧ j.ty = T) → k < m → ∃ z, RV g (.pv b γ k []) z ∧ ∀ w, (Instr.indexAt t (.slice A m cc) (.int kk (k : Int))).run P w = .ok z w := by
    intro b γ m k e e' T y A cc kk hy hty hgen hmc hx hz hd hj hk
    obtain ⟨j, hj, hjT⟩ := hj
    obtain ⟨h1, h2⟩ := hx hgen
    rcases h2 with ⟨h2, _⟩ | ⟨h2, rfl⟩
    · have := hz h2; omega
    refine ⟨.pointer (some ⟨y.blk, k * T.size + 0, none⟩), (RC.pv (T' := T) hy hty (Nat.le_of_eq hgen.symm) (Ty.loc_nil (hjT ▸ hj.grows)) (fun _ => ⟨h2, by omega, rfl⟩)).rv1, fun w => ?_⟩
    have hs := hj.sizeOf w
    rw [hjT] at hs
    have ha : (⟨y.blk, 0, none⟩ : Addr).add (k * T.size) = ⟨y.blk, k * T.size, none⟩ := by rw [addr_add, Nat.zero_add]
    simp [Instr.indexAt, asIntOf, run_underlying hd, hs, ha, hk]
  unfold indexV at h
  split at h
  · rename_i i b γ m kk n hi
    have hok := Tab.get_ok hτ hi
    have hd := hok.d
    split at h
    · rename_i e e' T γ' es hid hb
      rw [hid] at hd
      split at h
      · rename_i ht
        have hj := tyIs_ok hτ ht
        obtain ⟨rfl, rfl⟩ := QR.inj h
        obtain ⟨⟨rfl, c2⟩, c3, c4⟩ := hc
        have e := hv.v_inv; subst e
        obtain ⟨q, rfl⟩ := Int.eq_ofNat_of_zero_le c3
        obtain ⟨_, y, e9, T', A, cc, e1, hy, hty, hle, hnc, hm, hxx⟩ := hx.vw_inv.vw_inv
        injection e1 with e1; subst e1
        obtain ⟨y', hy', hty', hbc⟩ := hB.get hb
        rw [hy] at hy'; injection hy' with hy'; subst hy'
        obtain ⟨T2, F, sp, e2, hmp, hgen, h0, hcm, _⟩ := hbc.vc_inv
        exact key hy hty' hgen hnc hxx hcm.2 hd hj (by omega)
      cases h
    · rename_i e e' γ' l hid hb
      rw [hid] at hd
      split at h
      · rename_i ht
        have hj := tyIs_ok hτ ht
        obtain ⟨rfl, rfl⟩ := QR.inj h
        obtain ⟨⟨rfl, c2⟩, c3, c4⟩ := hc
        have e := hv.v_inv; subst e
        obtain ⟨q, rfl⟩ := Int.eq_ofNat_of_zero_le c3
        obtain ⟨_, y, e9, T', A, cc, e1, hy, hty, hle, hnc, hm, hxx⟩ := hx.vw_inv.vw_inv
        injection e1 with e1; subst e1
        obtain ⟨y', hy', hty', hbc⟩ := hB.get hb
        rw [hy] at hy'; injection hy' with hy'; subst hy'
        obtain ⟨l2, _, hmp, hgen, hcm, _⟩ := hbc.vb_inv
        exact key hy hty' hgen hnc hxx hcm.2 hd hj (by omega)
      cases h
    cases h
  cases h
theorem ldV_sound (hτ : τ.ok P) {bx : List (Ty × AV)} (hB : BR g bx) {t : Nat} {x r : AV} {c : Prop} (h : ldV τ bx t x = some (r, c)) (hc : c) {u : Value} (hx : RV g x u) :
    ∃ z, RV g r z ∧ ∀ w, Mem g w → (Instr.loadAt t u).run P w = .ok z w := by
  unfold ldV at h
  split at h
  · rename_i i b γ k path hi
    have hok := Tab.get_ok hτ hi
    obtain ⟨_, y, e9, T1, T2, bb, o, e1, hy, hty, hle, hlo, hxx⟩ := hx.pv_inv.pv_inv
    injection e1 with e1; subst e1
    split at h
    · rename_i _ T γ' es hb
      obtain ⟨y', hy', hty', hbc⟩ := hB.get hb
      rw [hy] at hy'; injection hy' with hy'; subst hy'
      rw [hty] at hty'; injection hty' with hty0 hty'; subst hty0 hty'
      split at h
      · rename_i o2 T3 hl2
        rw [hlo] at hl2; injection hl2 with hl2; injection hl2 with e2 e3; subst e2 e3
        split at h
        · rename_i hT; subst hT
          obtain ⟨rfl, rfl⟩ := QR.inj h
          obtain ⟨rfl, c2⟩ := hc
          obtain ⟨T4, F, sp, e4, hmp, hgen, h0, hcm, hcs, hcl, hsp, hF⟩ := hbc.vc_inv
          obtain ⟨_, e4, _⟩ := e4; injection e4 with e40 e4; subst e4
          obtain ⟨f1, f2, rfl⟩ := hxx hgen
          obtain ⟨a', ha', pre, mid, post, hFk, hpre, hmid, _⟩ := (hF k c2).lens hlo
          have hes : es.getD k .any = es[k] := by rw [List.getElem_eq_getD .any]
          refine ⟨mkV i.ty mid, ?_, fun w hw => ?_⟩
          · dsimp only; rw [hes, ha']; exact (hmid.mono (Gh.base_le g)).rv.rv'
          have hblk := (hw.bx _ _ hy f1).c hmp
          simp only [Instr.loadAt, Instr.sureAddr, Sem.run_bind, Sem.run_pure, Result.andThen_ok]
          refine run_loadV hok (hmid.mono (Gh.base_le g)) fun j u hu => ?_
          rw [hblk.cell, List.getElem?_toArray, hcs, Nat.add_assoc]
          refine flat_at hF c2 ?_
          rw [hFk, List.append_assoc, List.getElem?_append_right (by omega), hpre, Nat.add_sub_cancel_left, List.getElem?_append_left (List.getElem?_eq_some_iff.1 hu).1]
          exact hu
        cases h
      cases h
    · rename_i _ γ' l hb
      obtain ⟨y', hy', hty', hbc⟩ := hB.get hb
      rw [hy] at hy'; injection hy' with hy'; subst hy'
      rw [hty] at hty'; injection hty' with hty0 hty'; subst hty0 hty'
      split at h
      · split at h
        · rename_i hT
          obtain ⟨rfl, rfl⟩ := QR.inj h
          obtain ⟨rfl, c2⟩ := hc
          obtain ⟨l2, _, hmp, hgen, hcm, hcs, hcl⟩ := hbc.vb_inv
          obtain ⟨f1, f2, rfl⟩ := hxx hgen
          simp only [Ty.loc, Option.some.injEq, Prod.mk.injEq] at hlo
          obtain ⟨rfl, rfl⟩ := hlo
          refine ⟨B8 l[k], ?_, fun w hw => ?_⟩
          · rw [show (l.getD k 0) = l[k] from by rw [List.getElem_eq_getD 0]]; exact RV.v_of rfl
          have hblk := (hw.bx _ _ hy f1).c hmp
          simp only [Instr.loadAt, Instr.sureAddr, Sem.run_bind, Sem.run_pure, Result.andThen_ok]
          have := run_loadV (w := w) (b := y.blk) (o := k * Ty.sc.size + 0) hok (g := g) (a := .v (B8 l[k])) (cs := [B8 l[k]]) (by rw [hT]; exact .v rfl) (fun j u hu => by
            cases j with
            | succ j => simp at hu
            | zero =>
              simp at hu; subst hu
              rw [hblk.cell, List.getElem?_toArray, hcs]
              simp only [Ty.size, Nat.mul_one, Nat.add_zero, List.getElem?_map]
              rw [List.getElem?_append_left c2, List.getElem?_eq_getElem c2]; rfl)
          rw [this, hT]; rfl
        cases h
      cases h
    cases h
  cases h
theorem lenV_sound (hτ : τ.ok P) {t : Nat} {x r : AV} {c : Prop} (h : lenV τ t x = some (r, c)) {u : Value} (hx : RV g x u) (ty : TypeId) :
    ∃ z, RV g r z ∧ ∀ w, (Builtin.len_ #[t] ty #[u]).run P w = .ok z w := by
  unfold lenV at h
  split at h
  · rename_i i b γ n hi
    have hd := (Tab.get_ok hτ hi).d
    split at h
    · rename_i e hid
      rw [hid] at hd
      obtain ⟨rfl, rfl⟩ := QR.inj h
      obtain ⟨_, y, e9, T', A, cc, e1, _⟩ := hx.vw_inv.vw_inv
      injection e1 with e1; subst e1
      exact ⟨_, RV.v_of rfl, fun w => by simp [Builtin.len_, run_underlying (show P.underlying t = _ from hd), goInt]⟩
    cases h
  cases h
theorem slV_sound (hτ : τ.ok P) {bx : List (Ty × AV)} (hB : BR g bx) {t : Nat} {x r : AV} {lo hi : Option AV} {c : Prop} (h : slV τ bx t x lo hi = some (r, c)) (hc : c) {u : Value} {vlo vhi : Option Value} (hx : RV g x u) (r1 : RO g lo vlo) (r2 : RO g hi vhi) :
    ∃ z, RV g r z ∧ ∀ w, (Instr.sliceAt t u vlo vhi none).run P w = .ok z w := by
  unfold slV at h
  split at h
  · rename_i i b γ m hi
    have hd := (Tab.get_ok hτ hi).d
    split at h
    · rename_i e _ T a0 p q hid hb h1 h2
      rw [hid] at hd
      split at h
      · rename_i ht
        obtain ⟨j, hj, hjT⟩ := tyIs_ok hτ ht
        obtain ⟨rfl, rfl⟩ := QR.inj h
        obtain ⟨⟨rfl, c2⟩, c3⟩ := hc
        obtain ⟨_, y, e9, T', A, cc, e1, hy, hty, hle, hnc, hm, hxx⟩ := hx.vw_inv.vw_inv
        injection e1 with e1; subst e1
        refine ⟨.slice A q.toNat cc, (RC.vw hy hty hle (by omega) hm hxx).rv1, fun w => ?_⟩
        have hs := hj.sizeOf w
        have hA : (if cc = 0 then A else A.map (·.add 0)) = A := by
          split
          · rfl
          cases A with
          | none => rfl
          | some a => simp [Addr.add]
        simp [Instr.sliceAt, Instr.slice, run_underlying (show P.underlying t = _ from hd), run_bounds h1 h2 r1 r2 (Int.le_refl 0) c2 c3 hnc, hs]
        intro h0
        rw [if_neg h0] at hA
        exact hA
      cases h
    cases h
  cases h
theorem fieldV_sound (hτ : τ.ok P) {bx : List (Ty × AV)} (hB : BR g bx) {s f : Nat} {x r : AV} {c : Prop} (h : fieldV τ bx s x f = some (r, c)) {u : Value} (hx : RV g x u) :
    ∃ z, RV g r z ∧ ∀ w, (Instr.fieldAt s u f).run P w = .ok z w := by
  unfold fieldV at h
  split at h
  · rename_i i b γ k path hi
    have hd := (Tab.get_ok hτ hi).d
    obtain ⟨_, y, e9, T1, T2, bb, o1, e1, hy, hty, hle, hlo, hxx⟩ := hx.pv_inv.pv_inv
    injection e1 with e1; subst e1
    split at h
    · rename_i fs o T' _ T a0 hid hloc hb
      rw [hid] at hd
      obtain ⟨F, hF, hfs, _⟩ := hd
      obtain ⟨y', hy', hty', hbc⟩ := hB.get hb
      rw [hy] at hy'; injection hy' with hy'; subst hy'
      rw [hty] at hty'; injection hty' with hty0 hty'; subst hty0 hty'
      split at h
      · rename_i o' t' _ T3 hf hl3
        rw [hlo] at hl3; injection hl3 with hl3; injection hl3 with e2 e3; subst e2 e3
        split at h
        · rename_i hcond
          obtain ⟨⟨rfl, hsz, htt⟩, rfl⟩ := hcond
          obtain ⟨rfl, rfl⟩ := QR.inj h
          obtain ⟨j, hj, hjT⟩ := tyIs_ok hτ htt
          subst hfs
          rw [List.getElem?_map] at hf
          obtain ⟨f0, hf0, hf1⟩ := Option.map_eq_some_iff.1 hf
          simp only [Prod.mk.injEq] at hf1
          obtain ⟨hf1, hf2⟩ := hf1
          have hFf : F[f]? = some f0 := by rw [← Array.getElem?_toList]; exact hf0
          have hs : ∀ w, (sizeOf f0.type).run P w = .ok T'.size w := fun w => by rw [hf2, ← hjT]; exact hj.sizeOf w
          have ha : (⟨bb, k * T1.size + o1, none⟩ : Addr).add o = ⟨bb, k * T1.size + (o1 + o), none⟩ := by rw [addr_add, Nat.add_assoc]
          exact ⟨_, (RC.pv hy hty hle (Ty.loc_append hlo hloc) hxx).rv1, fun w => by simp [Instr.fieldAt, run_underlying hF, hFf, Instr.sureAddr, fieldPlace, hs, hsz, hf1, ha]⟩
        cases h
      cases h
    cases h
  cases h
theorem qop_sound (hτ : τ.ok P) {nt : Nat} {st : St} {a : Act} (hF : FR g nt st a) (hB : BR g st.bx) {c : Gd} (hg : gholds a c) {o : Oper} {r : AV} {cd : Prop} (h : qop τ st c o.op = some (r, cd)) (hc : cd) :
    ∃ z, RV g r z ∧ ∀ w, (memless o.op = true ∨ Mem g w) → (execOp a.eval o).run P w = .ok (.value z) w := by
  have E := fun x => ev_sound hF hg x
  have RO_ : ∀ x : Option Operand, RO g (x.map (st.ev c)) (x.map a.eval) := fun x => by cases x with | none => trivial | some x => exact E x
  obtain ⟨dst, op, ty, pos, after, gd⟩ := o
  dsimp only at h
  unfold qop at h
  unfold execOp
  split at h
  · exact ⟨_, same_sound h (E _), fun w _ => by simp⟩
  · exact ⟨_, same_sound h (E _), fun w _ => by simp⟩
  · rename_i t x y
    unfold pickq at h
    split at h
    · rename_i d
      split at h
      · rename_i b p q e1 e2 e3
        obtain ⟨rfl, rfl⟩ := QR.inj h
        have v1 := E (.tmp d); rw [e1] at v1; have v1 := v1.v_inv
        cases b with
        | true =>
          have v2 := ev2_sound hF hg (show gholds a (some (d, true)) from v1) x
          rw [e2] at v2; have v2 := v2.v_inv
          exact ⟨_, RV.v_of rfl, fun w _ => by simp [v1, v2, asBool]⟩
        | false =>
          have v3 := ev2_sound hF hg (show gholds a (some (d, false)) from v1) y
          rw [e3] at v3; have v3 := v3.v_inv
          exact ⟨_, RV.v_of rfl, fun w _ => by simp [v1, v3, asBool]⟩
      cases h
    cases h
  · rename_i op' t' x y yT
    obtain ⟨z, h1, h2⟩ := binq_sound (P := P) hτ h hc (E x) (E y) x y
    exact ⟨z, h1, fun w _ => by simp [(h2 w).1, (h2 w).2]⟩
  · obtain ⟨z, h1, h2⟩ := un_sound (P := P) h hc (E _)
    exact ⟨z, h1, fun w _ => by simp [h2 w]⟩
  · obtain ⟨z, h1, h2⟩ := conv_sound (P := P) hτ h hc (E _).asb_
    exact ⟨z, h1, fun w hw => by simp [h2 w (hw.resolve_left (by simp [memless]))]⟩
  · rcases orQ_some h with h | h
    · obtain ⟨z, h1, h2⟩ := fieldA_sound (P := P) hτ hB h (E _)
      exact ⟨z, h1, fun w _ => by simp [h2 w]⟩
    obtain ⟨z, h1, h2⟩ := fieldV_sound (P := P) hτ hB h (E _)
    exact ⟨z, h1, fun w _ => by simp [h2 w]⟩
  · rcases orQ_some h with h | h
    · obtain ⟨z, h1, h2⟩ := indexA_sound (P := P) hτ hB h hc (E _).asb_ (E _)
      exact ⟨z, h1, fun w _ => by simp [h2 w]⟩
    rcases orQ_some h with h | h
    · obtain ⟨z, h1, h2⟩ := indexV_sound (P := P) hτ hB h hc (E _) (E _)
      exact ⟨z, h1, fun w _ => by simp [h2 w]⟩
    obtain ⟨z, h1, h2⟩ := indexL_sound (P := P) hτ hB h hc (E _) (E _)
    exact ⟨z, h1, fun w _ => by simp [h2 w]⟩
  · rcases orQ_some h with h | h
    · obtain ⟨z, h1, h2⟩ := ld_sound (P := P) hτ hB h (E _)
      exact ⟨z, h1, fun w hw => by simp [h2 w (hw.resolve_left (by simp [memless]))]⟩
    obtain ⟨z, h1, h2⟩ := ldV_sound (P := P) hτ hB h hc (E _)
    exact ⟨z, h1, fun w hw => by simp [h2 w (hw.resolve_left (by simp [memless]))]⟩
  · rcases orQ_some h with h | h
    · obtain ⟨z, h1, h2⟩ := slq_sound (P := P) hτ hB h hc (E _) (RO_ _) (RO_ _)
      exact ⟨z, h1, fun w _ => by simp [h2 w]⟩
    obtain ⟨z, h1, h2⟩ := slV_sound (P := P) hτ hB h hc (E _) (RO_ _) (RO_ _)
    exact ⟨z, h1, fun w _ => by simp [h2 w]⟩
  · obtain ⟨z, h1, h2⟩ := s2a_sound (P := P) hτ h hc (E _).asb_
    exact ⟨z, h1, fun w _ => by simp [h2 w]⟩
  · obtain ⟨z, h1, h2⟩ := fldq_sound (P := P) hτ h hc (E _)
    exact ⟨z, h1, fun w _ => by simp [h2 w]⟩
  · obtain ⟨z, h1, h2⟩ := extr_sound (P := P) h (E _)
    exact ⟨z, h1, fun w _ => by simp [h2 w]⟩
  · obtain ⟨z, h1, h2⟩ := idxq_sound (P := P) hτ h hc (E _) (E _)
    exact ⟨z, h1, fun w _ => by simp [h2 w]⟩
  · rename_i x
    obtain ⟨h1, b, h2⟩ := nilq_sound h (E _)
    exact ⟨_, h1, fun w _ => by simp [h2]⟩
  · rename_i k
    obtain ⟨cal, args, ats⟩ := k
    unfold callq at h
    dsimp only at h
    split at h
    · split at h
      · rename_i x t e1 e2
        obtain rfl : args = #[x] := Array.toList_inj.1 e1
        obtain rfl : ats = #[t] := Array.toList_inj.1 e2
        obtain ⟨z, h1, h2⟩ := capq_sound (P := P) hτ h (E x) ty
        exact ⟨z, h1, fun w _ => by simp [resolve, invoke, builtin, h2 w]⟩
      cases h
    · split at h
      · rename_i x t e1 e2
        obtain rfl : args = #[x] := Array.toList_inj.1 e1
        obtain rfl : ats = #[t] := Array.toList_inj.1 e2
        rcases orQ_some h with h | h
        · obtain ⟨z, h1, h2⟩ := lenq_sound (P := P) hτ h (E x) ty
          exact ⟨z, h1, fun w _ => by simp [resolve, invoke, builtin, h2 w]⟩
        obtain ⟨z, h1, h2⟩ := lenV_sound (P := P) hτ h (E x) ty
        exact ⟨z, h1, fun w _ => by simp [resolve, invoke, builtin, h2 w]⟩
      cases h
    · split at h
      · rename_i x y e1
        obtain rfl : args = #[x, y] := Array.toList_inj.1 e1
        obtain ⟨z, h1, h2⟩ := minq_sound (P := P) h (E x) (E y) ats ty
        exact ⟨z, h1, fun w _ => by simp [resolve, invoke, builtin, h2 w]⟩
      cases h
    cases h
  cases h
end
def place (τ : Tab) (i : TI) (k : Nat) : Option Ty :=
  match i.d, i.ty.loc [k] with
  | .rcd fs, some (o, T') => (match fs[k]? with
    | some (o', t') => if o = o' ∧ tyIs τ t' T' = true then some T' else none
    | none => none)
  | .arr _ e, some (o, T') => if o = k * T'.size ∧ tyIs τ e T' = true then some T' else none
  | _, _ => none
def parts (τ : Tab) (i : TI) (ev : Operand → AV) : List (Nat × Operand) → AV → Option (AV × Prop)
  | [], a => some (a, True)
  | (k, x) :: l, a =>
    match place τ i k with
    | some T' => (match parts τ i ev l (a.put [k] (ev x)) with
      | some (b, c) => some (b, fit T' (ev x) ∧ c)
      | none => none)
    | none =>
      match i.d, a, ev x with
      | .arr m e, .ba l', .v (.int .u8 n) => if i.ty = .ba m ∧ tyIs τ e .sc = true ∧ k < m then
          (match parts τ i ev l (.ba (l'.set k (UInt8.ofNat n.toNat))) with
          | some (b, c) => some (b, (0 ≤ n ∧ n ≤ 255) ∧ c)
          | none => none) else none
      | _, _, _ => none
def buildq (τ : Tab) (st : St) (c : Gd) (t : Nat) (ps : List (Nat × Operand)) : QR :=
  match Tab.get t τ with
  | some i => (match i.d with
    | .rcd _ => parts τ i (st.ev c) ps i.zero
    | .arr _ _ => parts τ i (st.ev c) ps i.zero
    | _ => none)
  | none => none
section
variable {g : Gh} {P : Program} {τ : Tab}
theorem fold_set (off : Nat) : ∀ (vs : List Value) (k : Nat) (cs : Array Value) (pre mid post : List Value), cs.toList = pre ++ mid ++ post → pre.length = off + k → mid.length = vs.length →
    ((vs.zipIdx k).foldl (fun (cs : Array Value) (x : Value × Nat) => cs.setIfInBounds (off + x.2) x.1) cs).toList = pre ++ vs ++ post := by
  intro vs
  induction vs with
  | nil => intro k cs pre mid post h _ h2; simp at h2; subst h2; simpa using h
  | cons v vs ih =>
    intro k cs pre mid post h h1 h2
    cases mid with
    | nil => simp at h2
    | cons m ms =>
      simp only [List.zipIdx_cons, List.foldl_cons]
      rw [ih (k + 1) _ (pre ++ [v]) ms post ?_ (by simp; omega) (by simpa using h2)]
      · simp
      rw [Array.toList_setIfInBounds, h, List.append_assoc, List.set_append_right _ _ (by omega), h1, Nat.sub_self]; simp
theorem fold_cells {v : Value} {off : Nat} {cs : Array Value} {pre mid post : List Value} (h : cs.toList = pre ++ mid ++ post) (h1 : pre.length = off) (h2 : mid.length = v.cells.toList.length) :
    (v.cells.zipIdx.foldl (fun (cs : Array Value) (x : Value × Nat) => cs.setIfInBounds (off + x.2) x.1) cs).toList = pre ++ v.cells.toList ++ post := by
  have := fold_set off v.cells.toList 0 cs pre mid post h (by omega) h2
  rw [← this, ← Array.foldl_toList, Array.toList_zipIdx]
theorem fill_one {pl : Nat → Option (Nat × Nat)} {T T' : Ty} {a b : AV} {cs : Array Value} {k o : Nat} (hr : RC g T a cs.toList) (hl : T.loc [k] = some (o, T')) (hp : pl k = some (o, T'.size)) {v : Value} {ds : List Value} (hb : RC g T' b ds) (hv : v.cells.toList = ds) (rest : List (Nat × Value)) :
    ∃ cs' : Array Value, RC g T (a.put [k] b) cs'.toList ∧ cs'.size = cs.size ∧ Instr.fill pl cs ((k, v) :: rest) = Instr.fill pl cs' rest := by
  obtain ⟨a', ha', pre, mid, post, hcs, hpre, hmid, hput⟩ := hr.lens hl
  subst hv
  have hs : v.cells.toList.length = T'.size := hb.size
  have hs' : v.cells.size = T'.size := by simpa using hs
  have hf := fold_cells (v := v) (off := o) hcs hpre (by rw [hmid.size, hs])
  refine ⟨_, by rw [hf]; exact hput b _ hb, ?_, ?_⟩
  · have h1 : cs.size = (pre ++ mid ++ post).length := by rw [← hcs]; simp
    have h2 := congrArg List.length hf
    simp only [Array.length_toList, List.length_append] at h2 h1
    rw [h2, h1, hmid.size, ← hs]; simp
  have h1 : o + T'.size ≤ cs.size := by
    have : cs.size = (pre ++ mid ++ post).length := by rw [← hcs]; simp
    rw [this]; simp only [List.length_append, hmid.size, hpre]; omega
  rw [Instr.fill]
  simp only [hp]
  rw [if_neg (by simp [hs']; omega)]
theorem place_ok (hτ : τ.ok P) {i : TI} {k : Nat} {T' : Ty} (h : place τ i k = some T') : ∃ o, i.ty.loc [k] = some (o, T') ∧ ((∃ fs t', i.d = .rcd fs ∧ fs[k]? = some (o, t') ∧ ∃ j : TI, j.ok P t' ∧ j.ty = T') ∨ (∃ m e, i.d = .arr m e ∧ o = k * T'.size ∧ ∃ j : TI, j.ok P e ∧ j.ty = T')) := by
  unfold place at h
  split at h
  · rename_i fs o T2 hd hl
    split at h
    · rename_i o' t' hf
      split at h
      · rename_i hc
        obtain ⟨rfl, ht⟩ := hc
        injection h with h; subst h
        exact ⟨o, hl, .inl ⟨fs, t', hd, hf, tyIs_ok hτ ht⟩⟩
      cases h
    cases h
  · rename_i m e o T2 hd hl
    split at h
    · rename_i hc
      obtain ⟨h1, ht⟩ := hc
      injection h with h; subst h
      exact ⟨o, hl, .inr ⟨m, e, hd, h1, tyIs_ok hτ ht⟩⟩
    cases h
  cases h
def Places (P : Program) (i : TI) (pl : Nat → Option (Nat × Nat)) : Prop :=
  (∀ fs, i.d = .rcd fs → ∀ (k o t' : Nat) (j : TI), fs[k]? = some (o, t') → j.ok P t' → pl k = some (o, j.ty.size)) ∧ (∀ m e, i.d = .arr m e → ∀ (k : Nat) (j : TI), j.ok P e → pl k = some (k * j.ty.size, j.ty.size))
theorem parts_sound (hτ : τ.ok P) {i : TI} {pl : Nat → Option (Nat × Nat)} (hpl : Places P i pl) {ev : Operand → AV} {ρ : Operand → Value} (hev : ∀ x, RV g (ev x) (ρ x)) :
    ∀ (l : List (Nat × Operand)) (a r : AV) (c : Prop) (cs : Array Value), parts τ i ev l a = some (r, c) → c → RC g i.ty a cs.toList → ∃ cs' : Array Value, Instr.fill pl cs (l.map fun x => (x.1, ρ x.2)) = some cs' ∧ RC g i.ty r cs'.toList := by
  intro l
  induction l with
  | nil =>
    intro a r c cs h hc hr
    simp only [parts] at h
    obtain ⟨rfl, rfl⟩ := QR.inj h
    exact ⟨cs, rfl, hr⟩
  | cons p l ih =>
    intro a r c cs h hc hr
    obtain ⟨k, x⟩ := p
    unfold parts at h
    split at h
    · rename_i T' hp
      obtain ⟨o, hl, hcase⟩ := place_ok hτ hp
      split at h
      · rename_i b c0 hb
        obtain ⟨rfl, rfl⟩ := QR.inj h
        obtain ⟨c1, c2⟩ := hc
        obtain ⟨ds, h1, h2⟩ := (hev x).fit c1
        have hpk : pl k = some (o, T'.size) := by
          rcases hcase with ⟨fs, t', hd, hf, j, hj, rfl⟩ | ⟨m, e, hd, ho, j, hj, rfl⟩
          · exact hpl.1 fs hd k o t' j hf hj
          rw [ho]; exact hpl.2 m e hd k j hj
        obtain ⟨cs1, h3, _, h4⟩ := fill_one hr hl hpk h1 (v := ρ x) (by rw [h2]; exact mkV_cells h1) (l.map fun x => (x.1, ρ x.2))
        obtain ⟨cs2, h5, h6⟩ := ih _ _ _ cs1 hb c2 h3
        exact ⟨cs2, by rw [List.map_cons, h4, h5], h6⟩
      cases h
    split at h
    · rename_i hd a0 x0 m e l' n hdd hx0
      split at h
      · rename_i hc3
        obtain ⟨hT, ht, hkm⟩ := hc3
        split at h
        · rename_i b c0 hb
          obtain ⟨rfl, rfl⟩ := QR.inj h
          obtain ⟨⟨c1, c1'⟩, c2⟩ := hc
          obtain ⟨j, hj, hjT⟩ := tyIs_ok hτ ht
          have hpk : pl k = some (k, 1) := by have := hpl.2 m e hdd k j hj; rw [hjT] at this; simpa [Ty.size] using this
          have hx1 : ρ x = .int .u8 n := by have := hev x; rw [hx0] at this; exact this.v_inv
          obtain ⟨hm, hcs⟩ := hr.ba_inv
          rw [hT] at hm; injection hm with hm
          have hk2 : k < l'.length := by omega
          have hn : Value.int .u8 n = B8 (UInt8.ofNat n.toNat) := by rw [B8_ofNat]; congr 1; omega
          have hsz : cs.size = l'.length := by have := congrArg List.length hcs; simpa using this
          have hstep : Instr.fill pl cs ((k, ρ x) :: l.map fun x => (x.1, ρ x.2)) = Instr.fill pl (cs.setIfInBounds k (ρ x)) (l.map fun x => (x.1, ρ x.2)) := by
            rw [Instr.fill]
            simp only [hpk]
            rw [hx1]
            rw [if_neg (by simp [Value.cells]; omega)]
            congr 1
          obtain ⟨cs2, h5, h6⟩ := ih _ _ _ (cs.setIfInBounds k (ρ x)) hb c2 (by
            rw [Array.toList_setIfInBounds, hcs, hx1, hn, ← List.map_set, hT]
            exact .ba (by rw [List.length_set]; exact hm.symm))
          exact ⟨cs2, by rw [List.map_cons, hstep, h5], h6⟩
        cases h
      cases h
    cases h
theorem mapM_places (F : List Field) (hs : ∀ f ∈ F, (P.info? f.type).isSome = true) : ∀ w, (F.mapM fun f => (do pure (f.offset, ← sizeOf f.type) : Sem (Nat × Nat))).run P w = .ok (F.map fun f => (f.offset, P.cellsOf f.type)) w := by
  have hsz : ∀ f ∈ F, ∀ w, (sizeOf f.type).run P w = .ok (P.cellsOf f.type) w := by
    intro f hf w
    have hn := hs f hf
    unfold sizeOf typeInfo
    cases hi : P.info? f.type with
    | none => simp [hi] at hn
    | some i => simp [hi, Program.cellsOf]
  clear hs
  induction F with
  | nil => intro w; simp
  | cons f F ih =>
    intro w
    rw [List.mapM_cons]
    simp only [Sem.run_bind, Sem.run_pure, hsz f List.mem_cons_self w, Result.andThen_ok, ih (fun f hf => hsz f (List.mem_cons_of_mem _ hf)) w, List.map_cons]
theorem TI.ok.cells {t : TypeId} {i : TI} (h : i.ok P t) : P.cellsOf t = i.ty.size := by
  obtain ⟨inf, z0, e1, e2, _⟩ := h.info
  simp [Program.cellsOf, e1, e2]
theorem buildq_sound (hτ : τ.ok P) {nt : Nat} {st : St} {a : Act} (hF : FR g nt st a) {c : Gd} (hg : gholds a c) {t : Nat} {ps : Array (Nat × Operand)} {r : AV} {cd : Prop} (h : buildq τ st c t ps.toList = some (r, cd)) (hc : cd) :
    ∃ z, RV g r z ∧ ∀ w, (Instr.build t (ps.map fun (i, x) => (i, a.eval x))).run P w = .ok z w := by
  unfold buildq at h
  split at h
  · rename_i i hi
    have hok := Tab.get_ok hτ hi
    obtain ⟨inf, z0, e1, e2, e3, e4, e5⟩ := hok.info
    have hz : ∀ w, (zeroValue t).run P w = .ok z0 w := fun w => by simp [zeroValue, typeInfo, e1, e4]
    have hps : (ps.map fun (i, x) => (i, a.eval x)).toList = ps.toList.map fun x => (x.1, a.eval x.2) := by simp
    have hd := hok.d
    have hag := hok.agg.2
    split at h
    · rename_i fs hdd
      rw [hdd] at hd
      obtain ⟨F, hF', hfs, hinf⟩ := hd
      have hT : i.ty.agg = true := by rw [hF'] at hag; exact hag.symm
      subst hfs
      obtain ⟨cs', h1, h2⟩ := parts_sound hτ (i := i) (pl := fun k => ((F.toList.map fun f => (f.offset, P.cellsOf f.type)).toArray)[k]?) (ρ := a.eval) ⟨fun fs hfs k o t' j hf hj => by
          rw [hdd] at hfs; injection hfs with hfs; subst hfs
          rw [List.getElem?_map] at hf
          obtain ⟨f0, hf0, hf1⟩ := Option.map_eq_some_iff.1 hf
          simp only [Prod.mk.injEq] at hf1
          obtain ⟨rfl, rfl⟩ := hf1
          simp only [List.getElem?_toArray, List.getElem?_map, hf0, Option.map_some, hj.cells], fun m e h => (by rw [hdd] at h; cases h)⟩ (fun x => ev_sound hF hg x) ps.toList i.zero r cd z0.cells h hc (e5 g)
      refine ⟨_, (show RV1 g r (.agg cs') from .inl ⟨i.ty, cs'.toList, hT, h2, by simp⟩).rv, fun w => ?_⟩
      have hm := mapM_places F.toList (fun f hf => (hinf f hf).2) w
      unfold Instr.build
      simp only [Sem.run_bind, hz, Result.andThen_ok, run_underlying hF', Array.mapM_eq_mapM_toList, Sem.run_map, hm, hps, h1, Sem.run_pure]
    · rename_i m e hdd
      rw [hdd] at hd
      obtain ⟨hu, hinf⟩ := hd
      have hT : i.ty.agg = true := by rw [hu] at hag; exact hag.symm
      have hsz : ∀ w, (sizeOf e).run P w = .ok (P.cellsOf e) w := fun w => by
        unfold sizeOf typeInfo
        cases hi : P.info? e with
        | none => simp [hi] at hinf
        | some i => simp [hi, Program.cellsOf]
      obtain ⟨cs', h1, h2⟩ := parts_sound hτ (i := i) (pl := fun k => some (k * P.cellsOf e, P.cellsOf e)) (ρ := a.eval) ⟨fun fs h => (by rw [hdd] at h; cases h), fun m' e' hme k j hj => by
          rw [hdd] at hme; injection hme with _ hme; subst hme; rw [hj.cells]⟩ (fun x => ev_sound hF hg x) ps.toList i.zero r cd z0.cells h hc (e5 g)
      refine ⟨_, (show RV1 g r (.agg cs') from .inl ⟨i.ty, cs'.toList, hT, h2, by simp⟩).rv, fun w => ?_⟩
      unfold Instr.build
      simp only [Sem.run_bind, hz, Result.andThen_ok, run_underlying hu, hsz, hps, h1, Sem.run_pure]
    cases h
  cases h
end
end Go.Proofs.YtgffimanhmpohaaGreat
