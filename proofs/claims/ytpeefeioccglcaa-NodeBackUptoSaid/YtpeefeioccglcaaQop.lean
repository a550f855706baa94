/- Operations without effect: what they yield, and on what condition. -/
import Derived.Test.YtpeefeioccglcaaRel
import Derived.Laws.MakeOwn
set_option linter.unusedSimpArgs false
set_option linter.unusedVariables false
namespace Go.Proofs.Ytpeefeioccglcaa
open Go Go.RowKit
inductive D where
  | int (k : IntKind)
  | bool
  | str
  | ptr (e : Nat)
  | slc (e : Nat)
  | arr (n e : Nat)
  | rcd (fs : List (Nat × Nat))
  | oth
/-- A type of the program, as it is used here. -/
structure TI where
  d : D
  ty : Ty
  zero : AV
  bytes : Nat
def D.ok (P : Program) (t : TypeId) : D → Prop
  | .int k => P.underlying t = some (.int k)
  | .bool => P.underlying t = some .bool
  | .str => P.underlying t = some .string
  | .ptr e => P.underlying t = some (.pointer e)
  | .slc e => P.underlying t = some (.slice e)
  | .arr n e => P.underlying t = some (.array n e) ∧ (P.info? e).isSome = true
  | .rcd fs => ∃ F, P.underlying t = some (.struct F) ∧ F.toList.map (fun f => (f.offset, f.type)) = fs ∧ ∀ f ∈ F.toList, f.name ≠ "_" ∧ (P.info? f.type).isSome = true
  | .oth => True
structure TI.ok (P : Program) (t : TypeId) (i : TI) : Prop where
  info : ∃ inf z, P.info? t = some inf ∧ inf.size = i.ty.size ∧ inf.bytes = i.bytes ∧ inf.zero = some z ∧ ∀ g, RC g i.ty i.zero z.cells.toList
  agg : (P.underlying t).isSome = true ∧ aggB (P.underlying t) = i.ty.agg
  d : i.d.ok P t
  iz : ∀ k, i.d = .int k → i.zero = .v (.int k 0)
  eq : i.ty.agg = true → P.eqGuardType P.depth t = false ∧ P.stoodInHeld t = false
abbrev Tab := List (Nat × TI)
def Tab.ok (P : Program) (τ : Tab) : Prop := ∀ p ∈ τ, p.2.ok P p.1
def Tab.get (t : Nat) : Tab → Option TI
  | [] => none
  | (k, i) :: l => if k = t then some i else Tab.get t l
theorem Tab.get_ok {P : Program} {t : Nat} {i : TI} : ∀ {τ : Tab}, τ.ok P → Tab.get t τ = some i → i.ok P t
  | (k, j) :: l, h, hg => by
    unfold Tab.get at hg
    split at hg
    · rename_i e; subst e; injection hg with hg; subst hg; exact h _ List.mem_cons_self
    · exact Tab.get_ok (fun p hp => h p (List.mem_cons_of_mem _ hp)) hg
abbrev QR := Option (AV × Prop)

def ilo : IntKind → Int
  | .i64 => -9223372036854775808
  | .i32 => -2147483648
  | .i16 => -32768
  | .i8 => -128
  | _ => 0
def ihi : IntKind → Int
  | .i64 => 9223372036854775807
  | .i32 => 2147483647
  | .i16 => 32767
  | .i8 => 127
  | .u8 => 255
  | .u16 => 65535
  | .u32 => 4294967295
  | .u64 => 18446744073709551615
theorem wrap_in (k : IntKind) (n : Int) (h : ilo k ≤ n ∧ n ≤ ihi k) : k.wrap n = n := by
  cases k <;> simp only [ilo, ihi] at h <;> simp [IntKind.wrap, IntKind.bits, IntKind.signed] <;> omega
/-- A number that fits as it is, or is wrapped. -/
def fitI (k : IntKind) (n : Int) : AV × Prop := if k.signed then (.v (.int k n), ilo k ≤ n ∧ n ≤ ihi k) else (.v (.int k (k.wrap n)), True)
theorem fitI_sound {g : Gh} {k : IntKind} {n : Int} (h : (fitI k n).2) : RV g (fitI k n).1 (.int k (k.wrap n)) := by
  cases hs : k.signed
  · simp only [fitI, hs, Bool.false_eq_true, if_false] at h ⊢; exact RV.v_of (v := .int k (k.wrap n)) rfl
  · simp only [fitI, hs, if_true] at h ⊢; rw [wrap_in k n h]; exact RV.v_of (v := .int k n) rfl
def binI (op : BinOp) (k : IntKind) (a b : Int) : QR :=
  match op with
  | .add => some (fitI k (a + b))
  | .sub => some (fitI k (a - b))
  | .mul => some (fitI k (a * b))
  | .quo => some (.v (.int k (a / b)), 0 ≤ a ∧ 0 < b ∧ a ≤ ihi k)
  | .rem => some (.v (.int k (a % b)), 0 ≤ a ∧ 0 < b)
  | .and => some (.v (.int k (bits .and k a b)), True)
  | .or => some (.v (.int k (bits .or k a b)), True)
  | .xor => some (.v (.int k (bits .xor k a b)), True)
  | .andNot => some (.v (.int k (bits .andNot k a b)), True)
  | .eql => some (.v (.bool (decide (a = b))), True)
  | .neq => some (.v (.bool (!decide (a = b))), True)
  | .lss => some (.v (.bool (decide (a < b))), True)
  | .leq => some (.v (.bool (decide (a ≤ b))), True)
  | .gtr => some (.v (.bool (decide (b < a))), True)
  | .geq => some (.v (.bool (decide (b ≤ a))), True)
  | _ => none
def bin (op : BinOp) : AV → AV → QR
  | .v (.int k a), .v (.int k' b) =>
    match op with
    | .shl => some (.v (.int k (k.wrap (a * 2 ^ (min b.toNat k.bits)))), 0 ≤ b)
    | .shr => some (.v (.int k (a / (2 ^ (min b.toNat k.bits)))), 0 ≤ b)
    | _ => if k = k' then binI op k a b else none
  | .v (.string a), .v (.string b) =>
    match op with
    | .eql => some (.v (.bool (a.toList == b.toList)), True)
    | .neq => some (.v (.bool (!(a.toList == b.toList))), True)
    | _ => none
  | _, _ => none
section
variable {g : Gh} {P : Program}
theorem binI_sound {op : BinOp} {k : IntKind} {a b : Int} {r : AV} {c : Prop} (h : binI op k a b = some (r, c)) (hc : c) (xT : TypeId) :
    ∃ z, RV g r z ∧ ∀ w, (binOp op xT (.int k a) (.int k b)).run P w = .ok z w := by
  have fit : ∀ n, some (fitI k n) = some (r, c) → RV g r (.int k (k.wrap n)) := fun n e => by
    injection e with e
    have h1 : (fitI k n).1 = r := by rw [e]
    have h2 : (fitI k n).2 = c := by rw [e]
    rw [← h1]; exact fitI_sound (by rw [h2]; exact hc)
  cases op <;> simp only [binI] at h <;> try (cases h; done)
  case add => exact ⟨_, fit _ h, fun w => by simp [binOp, Op.intArith]⟩
  case sub => exact ⟨_, fit _ h, fun w => by simp [binOp, Op.intArith]⟩
  case mul => exact ⟨_, fit _ h, fun w => by simp [binOp, Op.intArith]⟩
  case quo =>
    simp only [Option.some.injEq, Prod.mk.injEq] at h
    obtain ⟨rfl, rfl⟩ := h
    obtain ⟨h1, h2, h3⟩ := hc
    refine ⟨_, RV.v_of rfl, fun w => ?_⟩
    have e1 : a.tdiv b = a / b := Int.tdiv_eq_ediv_of_nonneg h1
    have e2 : k.wrap (a / b) = a / b := wrap_in k _ ⟨by
      have := Int.ediv_nonneg h1 (Int.le_of_lt h2); cases k <;> simp only [ilo] <;> omega, Int.le_trans (Int.ediv_le_self _ h1) h3⟩
    have hb : b ≠ 0 := by omega
    simp [binOp, Op.intDiv, hb, e1, e2]
  case rem =>
    simp only [Option.some.injEq, Prod.mk.injEq] at h
    obtain ⟨rfl, rfl⟩ := h
    obtain ⟨h1, h2⟩ := hc
    refine ⟨_, RV.v_of rfl, fun w => ?_⟩
    have e1 : a.tmod b = a % b := Int.tmod_eq_emod_of_nonneg h1
    have hb : b ≠ 0 := by omega
    simp [binOp, Op.intDiv, hb, e1]
  all_goals
    simp only [Option.some.injEq, Prod.mk.injEq] at h
    obtain ⟨rfl, rfl⟩ := h
    refine ⟨_, RV.v_of rfl, fun w => ?_⟩
    first
      | (simp [binOp, Op.intBits, bits]; done)
      | (simp [binOp, Op.intCmp]; done)
      | (simp [binOp, Op.intCmp]; rfl)
theorem bin_sound {op : BinOp} {x y r : AV} {c : Prop} (h : bin op x y = some (r, c)) (hc : c) {u v : Value} (hx : RV g x u) (hy : RV g y v) (xT : TypeId) :
    ∃ z, RV g r z ∧ ∀ w, (binOp op xT u v).run P w = .ok z w := by
  unfold bin at h
  split at h
  · rename_i k a k' b
    have e1 := hx.v_inv; have e2 := hy.v_inv; subst e1 e2
    split at h
    · simp only [Option.some.injEq, Prod.mk.injEq] at h
      obtain ⟨rfl, rfl⟩ := h
      exact ⟨_, RV.v_of rfl, fun w => by simp [binOp, Op.shift, Int.not_lt.2 hc]⟩
    · simp only [Option.some.injEq, Prod.mk.injEq] at h
      obtain ⟨rfl, rfl⟩ := h
      refine ⟨_, RV.v_of rfl, fun w => ?_⟩
      have e : a.fdiv (2 ^ (min b.toNat k.bits)) = a / (2 ^ (min b.toNat k.bits)) := Int.fdiv_eq_ediv_of_nonneg _ (Int.le_of_lt (Int.pow_pos (by decide)))
      simp [binOp, Op.shift, Int.not_lt.2 hc, e]
    · split at h
      · rename_i e; subst e; exact binI_sound h hc xT
      · cases h
  · rename_i a b
    have e1 := hx.v_inv; have e2 := hy.v_inv; subst e1 e2
    split at h <;> first | (cases h; done) | skip
    all_goals
      simp only [Option.some.injEq, Prod.mk.injEq] at h
      obtain ⟨rfl, rfl⟩ := h
      exact ⟨_, RV.v_of rfl, fun w => by simp [binOp, Op.stringOp]⟩
  · cases h

/-- The value of a type, of its cells. -/
def mkV (T : Ty) (cs : List Value) : Value := if T.agg then .agg cs.toArray else cs.headD undef
def fit : Ty → AV → Prop
  | .ba n, .ba l => l.length = n
  | .nl, .st [] => True
  | .cn T Ts, .st (a :: az) => fit T a ∧ fit Ts (.st az)
  | .sc, .v _ => True
  | .sc, .bs _ _ => True
  | .sc, .bc _ _ _ => True
  | .sc, .sl _ _ _ => True
  | .sc, .ptr _ _ => True
  | .sc, .pti _ _ _ => True
  | .sc, .win _ _ _ _ => True
  | .sc, .ref _ _ => True
  | _, _ => False
theorem RC.fit {T' : Ty} {a : AV} {cs : List Value} (h : RC g T' a cs) : ∀ {T : Ty}, fit T a → RC g T a cs := by
  induction h with
  | v h => intro T hf; cases T <;> simp only [Proofs.Ytpeefeioccglcaa.fit] at hf; exact .v h
  | ba h => intro T hf; cases T <;> simp only [Proofs.Ytpeefeioccglcaa.fit] at hf; exact .ba hf
  | nl => intro T hf; cases T <;> simp only [Proofs.Ytpeefeioccglcaa.fit] at hf; exact .nl
  | cn h hs ih1 ih2 => intro T hf; cases T <;> simp only [Proofs.Ytpeefeioccglcaa.fit] at hf; exact .cn (ih1 hf.1) (ih2 hf.2)
  | bs hc hm hr ht => intro T hf; cases T <;> simp only [Proofs.Ytpeefeioccglcaa.fit] at hf; exact .bs hc hm hr ht
  | sl hc hm F hr hv ht ih => intro T hf; cases T <;> simp only [Proofs.Ytpeefeioccglcaa.fit] at hf; exact .sl hc hm F hr hv ht
  | bc hn hm hr ht => intro T hf; cases T <;> simp only [Proofs.Ytpeefeioccglcaa.fit] at hf; exact .bc hn hm hr ht
  | ptr h ho => intro T hf; cases T <;> simp only [Proofs.Ytpeefeioccglcaa.fit] at hf; exact .ptr h ho
  | pti h ho hk => intro T hf; cases T <;> simp only [Proofs.Ytpeefeioccglcaa.fit] at hf; exact .pti h ho hk
  | win h ho hn hc hm hA => intro T hf; cases T <;> simp only [Proofs.Ytpeefeioccglcaa.fit] at hf; exact .win h ho hn hc hm hA
  | ref cs h hr ih => intro T hf; cases T <;> simp only [Proofs.Ytpeefeioccglcaa.fit] at hf; exact .ref cs h hr
theorem RC.agg_of {T : Ty} {a : AV} {cs : List Value} (h : RC g T a cs) (hT : T.agg = false) : ∃ u, cs = [u] ∧ T = .sc := by
  cases h <;> first | exact ⟨_, rfl, rfl⟩ | (simp [Ty.agg] at hT)
theorem RV.fit {T : Ty} {a : AV} {v : Value} (h : RV g a v) (hf : fit T a) : ∃ cs, RC g T a cs ∧ v = mkV T cs := by
  have h1 : RV1 g a v := by
    cases a with
    | any => cases T <;> simp only [Proofs.Ytpeefeioccglcaa.fit] at hf
    | tup az => cases T <;> simp only [Proofs.Ytpeefeioccglcaa.fit] at hf
    | _ => exact h
  rcases h1 with ⟨T', cs, h1, h2, h3⟩ | h1
  · refine ⟨cs, h2.fit hf, ?_⟩
    have hTa : T.agg = true := by
      cases h2 <;> first | (simp [Ty.agg] at h1; done) | (cases T <;> simp only [Proofs.Ytpeefeioccglcaa.fit] at hf <;> rfl)
    rw [mkV, if_pos hTa]; exact h3
  · have h2 := h1.fit hf
    refine ⟨_, h2, ?_⟩
    have hTa : T = .sc := by cases h1 <;> (cases T <;> simp only [Proofs.Ytpeefeioccglcaa.fit] at hf <;> rfl)
    subst hTa; rfl
theorem RC.rv {T : Ty} {a : AV} {cs : List Value} (h : RC g T a cs) : RV1 g a (mkV T cs) := by
  cases hT : T.agg with
  | true => exact .inl ⟨T, cs, hT, h, by simp [mkV, hT]⟩
  | false => obtain ⟨u, rfl, rfl⟩ := h.agg_of hT; exact .inr h
theorem RV1.rv' {a : AV} {v : Value} (h : RV1 g a v) : RV g a v := h.rv
theorem mkV_cells {T : Ty} {a : AV} {cs : List Value} (h : RC g T a cs) : (mkV T cs).cells.toList = cs := by
  cases hT : T.agg with
  | true => simp [mkV, hT, Value.cells]
  | false =>
    obtain ⟨u, rfl, rfl⟩ := h.agg_of hT
    have := h.one u (by simp)
    cases u <;> first | rfl | (simp [Value.oneCell'] at this)
theorem TI.ok.isAgg {t : TypeId} {i : TI} (h : i.ok P t) (w : World) : (isAgg t).run P w = .ok i.ty.agg w := by
  obtain ⟨h1, h2⟩ := h.agg
  cases hu : P.underlying t with
  | none => rw [hu] at h1; cases h1
  | some d =>
    unfold Go.isAgg
    rw [Sem.run_bind, run_underlying hu w, ← h2, hu]
    cases d <;> simp [aggB]
theorem TI.ok.sizeOf {t : TypeId} {i : TI} (h : i.ok P t) (w : World) : (sizeOf t).run P w = .ok i.ty.size w := by
  obtain ⟨inf, z, h1, h2, _⟩ := h.info
  simp [Go.sizeOf, typeInfo, h1, h2]
/-- What is loaded of cells that are known. -/
theorem run_loadV {t : TypeId} {i : TI} (h : i.ok P t) {a : AV} {cs : List Value} (hr : RC g i.ty a cs) {w : World} {b o : Nat} (hc : ∀ j u, cs[j]? = some u → w.cell? ⟨b, o + j, none⟩ = some u) :
    (loadVar t ⟨b, o, none⟩).run P w = .ok (mkV i.ty cs) w := by
  unfold loadVar
  rw [Sem.run_bind, h.isAgg w]
  simp only [Result.andThen_ok]
  cases hT : i.ty.agg with
  | true =>
    have hl := run_loadCells_list (P := P) w ⟨b, o, none⟩ cs (fun j v hv => by rw [addr_add]; exact hc j v hv)
    rw [hr.size] at hl
    simp [h.sizeOf w, hl, mkV, hT]
  | false =>
    obtain ⟨u, rfl, hi⟩ := hr.agg_of hT
    have := hc 0 u rfl
    rw [Nat.add_zero] at this
    simp [this, mkV, hT]
theorem run_part {t : TypeId} {i : TI} (h : i.ok P t) {a : AV} {pre mid post : List Value} {xs : Array Value} {off : Nat} (hx : xs.toList = pre ++ mid ++ post) (ho : pre.length = off) (hr : RC g i.ty a mid) (w : World) :
    (part t xs off).run P w = .ok (mkV i.ty mid) w := by
  unfold part
  rw [Sem.run_bind, h.isAgg w]
  simp only [Result.andThen_ok]
  cases hT : i.ty.agg with
  | true =>
    have e : xs.extract off (off + i.ty.size) = mid.toArray := by
      apply Array.toList_inj.1
      rw [Array.toList_extract, hx, ← hr.size, ← ho]
      simp
    simp [h.sizeOf w, e, mkV, hT]
  | false =>
    obtain ⟨u, rfl, hi⟩ := hr.agg_of hT
    have e : xs[off]? = some u := by rw [← Array.getElem?_toList, hx, ← ho]; simp
    simp [e, mkV, hT]
end
end Go.Proofs.Ytpeefeioccglcaa
