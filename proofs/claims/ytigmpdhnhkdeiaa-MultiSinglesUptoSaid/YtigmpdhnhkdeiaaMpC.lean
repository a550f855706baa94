/- The arguments of a statement, as values; what a statement's form asks for, out of a contract in values. -/
import Derived.Test.YtigmpdhnhkdeiaaRows
import Derived.Test.YtigmpdhnhkdeiaaPut
import Derived.OpenShut
import Derived.Carry
import Derived.WalkKit
import Derived.ProofKit
import Derived.JoinedCond
import Derived.Test.YtigmpdhnhkdeiaaSpanB
import Derived.Test.YtigmpdhnhkdeiaaA1
import Derived.Deep.OwnRows
import Derived.BigQuiet
import Derived.BigRegion
import Derived.Deep.Draws
import Derived.Deep.LoopGhost
set_option linter.unusedSimpArgs false
set_option linter.unusedVariables false
namespace Go.Proofs.Ytigmpdhnhkdeiaa
open Go Go.RowKit
theorem bulk_part {H : Type} {d : DataW H} : ∀ {l : List (DataW H)}, d ∈ l → Rows.uptoBulk d ≤ Rows.uptoBulkAll l
  | x :: l, h => by
    rcases List.mem_cons.1 h with e | e
    · subst e; simp only [Rows.uptoBulkAll]; omega
    · have := bulk_part e; simp only [Rows.uptoBulkAll]; omega
theorem bulk_one {H : Type} (d : DataW H) : 1 ≤ Rows.uptoBulk d := by
  cases d with
  | lit l => cases l <;> simp [Rows.uptoBulk]
  | _ => simp [Rows.uptoBulk]
theorem bulk_len {H : Type} : ∀ l : List (DataW H), l.length ≤ Rows.uptoBulkAll l
  | [] => by simp
  | x :: l => by have := bulk_one x; have := bulk_len l; simp only [Rows.uptoBulkAll, List.length_cons]; omega
def isU8 (τ : Tab) (e : Nat) : Bool := match Tab.get e τ with
  | some j => (match j.d with | .int .u8 => true | _ => false)
  | none => false
def tyOf (τ : Tab) (e : Nat) : Ty := match Tab.get e τ with
  | some j => j.ty
  | none => .sc
def ShL (f : Nat → AV → Prop) : List Nat → List AV → Prop
  | [], [] => True
  | t :: ts, a :: az => f t a ∧ ShL f ts az
  | _, _ => False
/-- The values that a type may have: each stretch no longer than M. -/
def Sh (τ : Tab) (M : Nat) : Nat → Nat → AV → Prop
  | 0, _, _ => False
  | d + 1, t, a => match (Tab.get t τ).map TI.d with
    | some (.int k) => ∃ n, a = .v (.int k n) ∧ ilo k ≤ n ∧ n ≤ ihi k
    | some .bool => ∃ b, a = .v (.bool b)
    | some .str => ∃ s : ByteArray, a = .v (.string s) ∧ s.size ≤ M
    | some (.slc e) => if isU8 τ e then ∃ l, a = .bs l none ∧ l.length ≤ M else ∃ es, a = .sl (tyOf τ e) es none ∧ es.length ≤ M ∧ ∀ x ∈ es, Sh τ M d e x
    | some (.arr n _) => ∃ l, a = .ba l ∧ l.length = n
    | some (.rcd fs) => ∃ az, a = .st az ∧ ShL (Sh τ M d) (fs.map (·.2)) az
    | _ => False
def lay (τ : Tab) : List (Nat × Nat) → Nat → Ty → Bool
  | [], _, .nl => true
  | (o, t) :: fs, off, .cn T Ts => o == off && (Tab.get t τ).isSome && tyOf τ t == T && lay τ fs (off + T.size) Ts
  | _, _, _ => false
def okT (τ : Tab) : Nat → Nat → Bool
  | 0, _ => false
  | d + 1, t => match Tab.get t τ with
    | some i => (match i.d with
      | .int _ => i.ty == .sc
      | .bool => i.ty == .sc
      | .str => i.ty == .sc
      | .slc e => i.ty == .sc && (Tab.get e τ).isSome && decide (0 < (tyOf τ e).size) && (isU8 τ e && tyOf τ e == .sc || !isU8 τ e && okT τ d e)
      | .arr n e => isU8 τ e && i.ty == .ba n && tyOf τ e == .sc
      | .rcd fs => lay τ fs 0 i.ty && i.ty.agg && fs.all fun f => okT τ d f.2
      | _ => false)
    | none => false
section
variable {τ : Tab} {M d t : Nat} {a : AV} {i : TI}
theorem Sh.int {k : IntKind} (ht : Tab.get t τ = some i) (hd : i.d = .int k) (h : Sh τ M (d + 1) t a) : ∃ n, a = .v (.int k n) ∧ ilo k ≤ n ∧ n ≤ ihi k := by
  unfold Sh at h; simp only [ht, Option.map_some, hd] at h; exact h
theorem Sh.bool (ht : Tab.get t τ = some i) (hd : i.d = .bool) (h : Sh τ M (d + 1) t a) : ∃ b, a = .v (.bool b) := by
  unfold Sh at h; simp only [ht, Option.map_some, hd] at h; exact h
theorem Sh.str (ht : Tab.get t τ = some i) (hd : i.d = .str) (h : Sh τ M (d + 1) t a) : ∃ s : ByteArray, a = .v (.string s) ∧ s.size ≤ M := by
  unfold Sh at h; simp only [ht, Option.map_some, hd] at h; exact h
theorem Sh.bytes {e : Nat} (ht : Tab.get t τ = some i) (hd : i.d = .slc e) (hu : isU8 τ e = true) (h : Sh τ M (d + 1) t a) : ∃ l, a = .bs l none ∧ l.length ≤ M := by
  unfold Sh at h; simp only [ht, Option.map_some, hd, hu, if_true] at h; exact h
theorem Sh.slc {e : Nat} (ht : Tab.get t τ = some i) (hd : i.d = .slc e) (hu : isU8 τ e = false) (h : Sh τ M (d + 1) t a) : ∃ es, a = .sl (tyOf τ e) es none ∧ es.length ≤ M ∧ ∀ x ∈ es, Sh τ M d e x := by
  unfold Sh at h; simp only [ht, Option.map_some, hd, hu, Bool.false_eq_true, if_false] at h; exact h
theorem Sh.arr {n e : Nat} (ht : Tab.get t τ = some i) (hd : i.d = .arr n e) (h : Sh τ M (d + 1) t a) : ∃ l, a = .ba l ∧ l.length = n := by
  unfold Sh at h; simp only [ht, Option.map_some, hd] at h; exact h
theorem Sh.rcd {fs : List (Nat × Nat)} (ht : Tab.get t τ = some i) (hd : i.d = .rcd fs) (h : Sh τ M (d + 1) t a) : ∃ az, a = .st az ∧ ShL (Sh τ M d) (fs.map (·.2)) az := by
  unfold Sh at h; simp only [ht, Option.map_some, hd] at h; exact h
theorem shl_nil {f : Nat → AV → Prop} {az : List AV} (h : ShL f [] az) : az = [] := by
  cases az with
  | nil => rfl
  | cons _ _ => exact h.elim
theorem shl_cons {f : Nat → AV → Prop} {t : Nat} {ts : List Nat} {az : List AV} (h : ShL f (t :: ts) az) : ∃ a r, az = a :: r ∧ f t a ∧ ShL f ts r := by
  cases az with
  | nil => exact h.elim
  | cons a r => exact ⟨a, r, rfl, h.1, h.2⟩
/-- Elements, each of a form. -/
theorem sh_list {α : Type} {p : AV → Prop} {q : α → Prop} {f : α → AV} (hp : ∀ x, p x → ∃ y, x = f y ∧ q y) : ∀ {es : List AV}, (∀ x ∈ es, p x) → ∃ ys : List α, es = ys.map f ∧ ∀ y ∈ ys, q y
  | [], _ => ⟨[], rfl, fun y h => by cases h⟩
  | x :: es, h => by
    obtain ⟨y, rfl, hy⟩ := hp x (h x List.mem_cons_self)
    obtain ⟨ys, rfl, hys⟩ := sh_list hp (es := es) fun x hx => h x (List.mem_cons_of_mem _ hx)
    exact ⟨y :: ys, rfl, fun z hz => by rcases List.mem_cons.1 hz with e | e; (subst e; exact hy); exact hys z e⟩
theorem u8_of {n : Int} (h : ilo .u8 ≤ n ∧ n ≤ ihi .u8) : ∃ k : UInt8, Value.int .u8 n = B8 k := ⟨UInt8.ofNat n.toNat, by
  simp only [ilo, ihi] at h
  simp only [B8, UInt8.toNat_ofNat']
  congr 1; omega⟩
end
/-- All cells of a memory. -/
def allOf (w : World) : Gh := ⟨fun b o => w.cell? ⟨b, o, none⟩, [], []⟩
section
variable {H : Type} {enc : TypeId × Value → H} {P : Program} {τ : Tab} {w : World} {sp : Nat → Bool} {held : Bool} {M : Nat}
theorem wf_lohi {k : IntKind} {n : Int} (h : (Lit.int k n).wf = true) : ilo k ≤ n ∧ n ≤ ihi k := by
  cases k <;> simp [Lit.wf, IntKind.min, IntKind.max, IntKind.signed, IntKind.bits] at h <;> simp only [ilo, ihi] <;> omega
theorem isU8_ok (hτ : τ.ok P) {e : Nat} (h : isU8 τ e = true) : P.underlying e = some (.int .u8) := by
  unfold isU8 at h
  split at h
  · rename_i j hj
    have hok := (Tab.get_ok hτ hj).d
    split at h
    · rename_i hd; rw [hd] at hok; exact hok
    · cases h
  · cases h
theorem cells_ty (hτ : τ.ok P) {e : Nat} (h : (Tab.get e τ).isSome = true) : P.cellsOf e = (tyOf τ e).size := by
  unfold tyOf
  cases hj : Tab.get e τ with
  | none => rw [hj] at h; cases h
  | some j =>
    obtain ⟨inf, z, h1, h2, _⟩ := (Tab.get_ok hτ hj).info
    simp [Program.cellsOf, h1, h2]
theorem isU8_some {e : Nat} (h : isU8 τ e = true) : (Tab.get e τ).isSome = true := by
  unfold isU8 at h
  split at h
  · rename_i j hj; rw [hj]; rfl
  · cases h
theorem B8_of {n : Int} (h : 0 ≤ n ∧ n ≤ 255) : B8 (UInt8.ofNat n.toNat) = .int .u8 n := by
  simp only [B8, UInt8.toNat_ofNat']
  congr 1; omega
theorem trod_rc (hτ : τ.ok P) : ∀ (d : Nat) {t fuel : Nat} {cs : List Value} {x : DataW H × List MemPlace}, okT τ d t = true → DataW.trod enc P w 0 sp held fuel t cs = some x → Rows.uptoBulk x.1 ≤ M →
    ∃ a, Sh τ M d t a ∧ RC (allOf w) (tyOf τ t) a cs := by
  intro d
  induction d with
  | zero => intro t fuel cs x h; cases h
  | succ d ih =>
    intro t fuel cs x hok hx hM
    unfold okT at hok
    cases hg : Tab.get t τ with
    | none => rw [hg] at hok; cases hok
    | some i =>
    rw [hg] at hok
    have hi := Tab.get_ok hτ hg
    have hty : tyOf τ t = i.ty := by unfold tyOf; rw [hg]
    have hdd := hi.d
    have hsz : P.cellsOf t = i.ty.size := by rw [← hty]; exact cells_ty hτ (by rw [hg]; rfl)
    rw [hty]
    dsimp only at hok
    have sh : ∀ a, (match some i.d with
      | some (.int k) => ∃ n, a = AV.v (.int k n) ∧ ilo k ≤ n ∧ n ≤ ihi k
      | some .bool => ∃ b, a = .v (.bool b)
      | some .str => ∃ s : ByteArray, a = .v (.string s) ∧ s.size ≤ M
      | some (.slc e) => if isU8 τ e then ∃ l, a = .bs l none ∧ l.length ≤ M else ∃ es, a = .sl (tyOf τ e) es none ∧ es.length ≤ M ∧ ∀ x ∈ es, Sh τ M d e x
      | some (.arr n _) => ∃ l, a = .ba l ∧ l.length = n
      | some (.rcd fs) => ∃ az, a = .st az ∧ ShL (Sh τ M d) (fs.map (·.2)) az
      | _ => False) → Sh τ M (d + 1) t a := fun a h => by unfold Sh; rw [hg]; exact h
    generalize hdi : i.d = D' at hok hdd sh
    cases D' with
    | int k =>
      obtain ⟨n, rfl, rfl, hw⟩ := DataW.trod_int hdd hx
      rw [eq_of_beq hok]
      exact ⟨.v (.int k n), sh _ ⟨n, rfl, wf_lohi hw⟩, .v rfl⟩
    | bool =>
      obtain ⟨b, rfl, rfl⟩ := DataW.trod_bool hdd hx
      rw [eq_of_beq hok]
      exact ⟨.v (.bool b), sh _ ⟨b, rfl⟩, .v rfl⟩
    | str =>
      obtain ⟨s, rfl, rfl, hs⟩ := DataW.trod_string hdd hx
      rw [eq_of_beq hok]
      refine ⟨.v (.string s), sh _ ⟨s, rfl, ?_⟩, .v rfl⟩
      simp only [Rows.uptoBulk] at hM
      have : s.data.toList.length = s.size := by rw [Array.length_toList]; rfl
      omega
    | slc e =>
      simp only [Bool.and_eq_true, Bool.or_eq_true, Bool.not_eq_true', decide_eq_true_eq] at hok
      obtain ⟨⟨⟨h1, h2⟩, h3⟩, h4⟩ := hok
      have hce := cells_ty hτ h2
      rw [eq_of_beq h1]
      by_cases hu : isU8 τ e = true
      · have hu1 : tyOf τ e = .sc := by rcases h4 with h4 | h4; exact eq_of_beq h4.2; rw [h4.1] at hu; cases hu
        have hs0 : P.cellsOf e = 1 := by rw [hce, hu1]; rfl
        rcases ChangeShapes.open_ints hdd (isU8_ok hτ hu) hs0 hx with ⟨rfl, rfl⟩ | ⟨A, len, cap, zs, rfl, _, hl, hm, hz, rfl, hc, hw⟩
        · refine ⟨.bs [] none, sh _ ?_, RC.nil1 rfl⟩
          show ite _ _ _
          rw [if_pos hu]; exact ⟨[], rfl, Nat.zero_le _⟩
        · have hlz : len ≤ zs.length := by rw [hz]; split <;> omega
          have hll : ((zs.take len).map fun n => UInt8.ofNat n.toNat).length = len := by simp [hlz]
          refine ⟨.bs ((zs.take len).map fun n => UInt8.ofNat n.toNat) none, sh _ ?_, ?_⟩
          · show ite _ _ _
            rw [if_pos hu]
            refine ⟨_, rfl, ?_⟩
            rw [hll]
            simp only [Rows.uptoBulk] at hM
            have h5 := bulk_len (ChangeShapes.lits (H := H) .u8 (zs.take len))
            have h6 : (ChangeShapes.lits (H := H) .u8 (zs.take len)).length = len := by simp [ChangeShapes.lits, hlz]
            omega
          · have := RC.bs (g := allOf w) (l := (zs.take len).map fun n => UInt8.ofNat n.toNat) (tok := none) (A := some A) (c := cap) (by rw [hll]; exact hl) hm ?_ (fun i hi => by cases hi)
            · rw [hll] at this; exact this
            · rcases Nat.eq_zero_or_pos len with h0 | h0
              · left; rw [h0]; rfl
              · right
                obtain ⟨b, o, rfl, hcc⟩ := ints_at hc (by omega)
                refine ⟨b, o, rfl, fun j hj => ?_⟩
                rw [hll] at hj
                have h7 := hcc j (by omega)
                show w.cell? _ = _
                rw [h7]
                have h8 : zs.getD j 0 = zs[j]'(by omega) := by simp [List.getD, show j < zs.length by omega]
                have h9 := wf_lohi (hw _ (List.getElem_mem (show j < zs.length by omega)))
                simp only [ilo, ihi] at h9
                rw [h8]
                simp only [List.getElem_map, List.getElem_take]
                rw [B8_of h9]
      · have h4' : okT τ d e = true := by rcases h4 with h4 | h4; exact absurd h4.1 hu; exact h4.2
        rcases DataW.trod_slice hdd hx with ⟨rfl, rfl⟩ | ⟨A, len, cap, elems, rest, n, _, rfl, rfl, _, hl, hm, hlen, hel, _, _⟩
        · refine ⟨.sl (tyOf τ e) [] none, sh _ ?_, RC.nil2 rfl⟩
          show ite _ _ _
          rw [if_neg hu]; exact ⟨[], rfl, Nat.zero_le _, fun x hx => by cases hx⟩
        · simp only [Rows.uptoBulk] at hM
          have hb1 := bulk_len (elems.map (·.1))
          rw [List.length_map, hlen] at hb1
          have each : ∀ k, ∃ p : List Value × AV, k < len → w.cells? 0 (A.add (k * P.cellsOf e)) (P.cellsOf e) = some p.1 ∧ Sh τ M d e p.2 ∧ RC (allOf w) (tyOf τ e) p.2 p.1 := fun k => by
            by_cases hk : k < len
            · have h5 := hel k hk
              rw [List.getElem?_eq_getElem (by omega)] at h5
              obtain ⟨cs', h6, h7⟩ := Option.bind_eq_some_iff.1 h5
              have h8 : Rows.uptoBulk (elems[k]'(by omega)).1 ≤ M := by
                have := bulk_part (List.mem_map_of_mem (f := (·.1)) (List.getElem_mem (show k < elems.length by omega)))
                omega
              obtain ⟨a, ha1, ha2⟩ := ih h4' h7 h8
              exact ⟨(cs', a), fun _ => ⟨h6, ha1, ha2⟩⟩
            · exact ⟨([], .any), fun h => absurd h hk⟩
          obtain ⟨f, hf⟩ := Classical.axiomOfChoice each
          have hll : ((List.range len).map fun k => (f k).2).length = len := by simp
          refine ⟨.sl (tyOf τ e) ((List.range len).map fun k => (f k).2) none, sh _ ?_, ?_⟩
          · show ite _ _ _
            rw [if_neg hu]
            refine ⟨_, rfl, by rw [hll]; omega, fun x hx => ?_⟩
            obtain ⟨k, hk, rfl⟩ := List.mem_map.1 hx
            exact (hf k (List.mem_range.1 hk)).2.1
          · have := RC.sl (g := allOf w) (T := tyOf τ e) (es := (List.range len).map fun k => (f k).2) (tok := none) (A := some A) (c := cap) (by rw [hll]; exact hl) hm (fun k => (f k).1) ?_ (fun k hk => ?_) (fun i hi => by cases hi)
            · rw [hll] at this; exact this
            · rcases Nat.eq_zero_or_pos len with h0 | h0
              · left; rw [h0]; rfl
              · right
                obtain ⟨b, o, spot⟩ := A
                have hs0 : spot = none := by
                  obtain ⟨_, h6, h7⟩ := World.cells?_some (hf 0 h0).1
                  have h8 := h7 0 (by omega)
                  have : 0 < (f 0).1.length := by omega
                  rw [List.getElem?_eq_getElem this] at h8
                  have := World.cell?_spot h8
                  simpa [Addr.add] using this
                subst hs0
                refine ⟨b, o, rfl, fun k hk j u hu => ?_⟩
                rw [hll] at hk
                obtain ⟨_, h6, h7⟩ := World.cells?_some (hf k hk).1
                have hj := (List.getElem?_eq_some_iff.1 hu).1
                have h8 := h7 j (by omega)
                rw [hu, addr_add, addr_add, hce] at h8
                exact h8
            · have hk' : k < len := by rw [hll] at hk; exact hk
              simp only [List.getElem_map, List.getElem_range]
              exact (hf k hk').2.2
    | arr n e =>
      simp only [Bool.and_eq_true] at hok
      obtain ⟨⟨h1, h2⟩, h3⟩ := hok
      have hce : P.cellsOf e = 1 := by rw [cells_ty hτ (isU8_some h1), eq_of_beq h3]; rfl
      obtain ⟨xs, m, _, rfl, hcl, hxl, hx1⟩ := DataW.trod_array hdd.1 hx
      rw [eq_of_beq h2]
      have hn : cs.length = n := by rw [hcl, hsz, eq_of_beq h2]; rfl
      have key : ∀ k (hk : k < cs.length), ∃ q : Int, cs[k] = .int .u8 q ∧ 0 ≤ q ∧ q ≤ 255 := fun k hk => by
        have h5 := hx1 k (by omega)
        rw [List.getElem?_eq_getElem (by omega)] at h5
        obtain ⟨q, h6, _, h7⟩ := DataW.trod_int (isU8_ok hτ h1) h5
        rw [hce, Nat.mul_one] at h6
        have h8 : ((cs.drop k).take 1)[0]? = some (.int .u8 q) := by rw [h6]; rfl
        rw [List.getElem?_take, if_pos (by decide), List.getElem?_drop, Nat.add_zero, List.getElem?_eq_getElem hk] at h8
        injection h8 with h8
        have := wf_lohi h7
        exact ⟨q, h8, this⟩
      have hcs : cs = (cs.map fun v => match v with | .int _ q => UInt8.ofNat q.toNat | _ => 0).map B8 := by
        apply List.ext_getElem
        · simp
        · intro k hk _
          obtain ⟨q, h5, h6⟩ := key k hk
          simp only [List.getElem_map, h5]
          exact (B8_of h6).symm
      obtain ⟨l, hl⟩ : ∃ l : List UInt8, cs = l.map B8 := ⟨_, hcs⟩
      subst hl
      exact ⟨.ba l, sh _ ⟨l, rfl, by simpa using hn⟩, .ba (by simpa using hn)⟩
    | rcd fs =>
      simp only [Bool.and_eq_true, List.all_eq_true] at hok
      obtain ⟨⟨h1, h2⟩, h3⟩ := hok
      obtain ⟨F, hu, hF, _⟩ := hdd
      obtain ⟨xs, m, _, rfl, hcl, hxl, hx1⟩ := DataW.trod_struct hu hx
      simp only [Rows.uptoBulk] at hM
      rw [hsz] at hcl
      have key : ∀ (L : List (Nat × Nat)) (off : Nat) (T : Ty) (k : Nat), fs.drop k = L → lay τ L off T = true → cs.length = off + T.size → ∃ az, ShL (Sh τ M d) (L.map (·.2)) az ∧ RC (allOf w) T (.st az) (cs.drop off) := by
        intro L
        induction L with
        | nil =>
          intro off T k _ hlay hc
          cases T with
          | nl => rw [show cs.drop off = [] from List.drop_eq_nil_of_le (by rw [hc]; exact Nat.le_refl _)]; exact ⟨[], trivial, .nl⟩
          | _ => cases hlay
        | cons p L ihL =>
          intro off T k hk hlay hc
          cases T with
          | cn T Ts =>
            obtain ⟨o, ft⟩ := p
            simp only [lay, Bool.and_eq_true] at hlay
            obtain ⟨⟨⟨h4, h5⟩, h6⟩, h7⟩ := hlay
            obtain rfl := eq_of_beq h4
            obtain rfl := eq_of_beq h6
            have hfk : fs[k]? = some (o, ft) := by
              have : (fs.drop k)[0]? = some (o, ft) := by rw [hk]; rfl
              rw [List.getElem?_drop, Nat.add_zero] at this; exact this
            have hFk : ∃ fl, F[k]? = some fl ∧ fl.offset = o ∧ fl.type = ft := by
              rw [← hF, List.getElem?_map] at hfk
              obtain ⟨fl, h8, h9⟩ := Option.map_eq_some_iff.1 hfk
              simp only [Prod.mk.injEq] at h9
              exact ⟨fl, by simpa using h8, h9.1, h9.2⟩
            obtain ⟨fl, hfl, rfl, rfl⟩ := hFk
            have h8 := hx1 k fl hfl
            have hkx : k < xs.length := by rw [hxl]; have := (Array.getElem?_eq_some_iff.1 hfl).1; exact this
            rw [List.getElem?_eq_getElem hkx] at h8
            have h9 : Rows.uptoBulk xs[k].1 ≤ M := by
              have := bulk_part (List.mem_map_of_mem (f := (·.1)) (List.getElem_mem hkx))
              omega
            obtain ⟨a, ha1, ha2⟩ := ih (h3 _ (List.mem_of_getElem? hfk)) h8 h9
            obtain ⟨az, hz1, hz2⟩ := ihL (fl.offset + (tyOf τ fl.type).size) Ts (k + 1) (by rw [← List.drop_drop, hk]; rfl) h7 (by rw [hc]; simp only [Ty.size]; omega)
            refine ⟨a :: az, ⟨ha1, hz1⟩, ?_⟩
            have := RC.cn ha2 hz2
            rw [cells_ty hτ h5, ← List.drop_drop, List.take_append_drop] at this
            exact this
          | _ => cases hlay
      obtain ⟨az, hz1, hz2⟩ := key fs 0 i.ty 0 rfl h1 (by rw [hcl]; omega)
      exact ⟨.st az, sh _ ⟨az, rfl, hz1⟩, hz2⟩
    | _ => cases hok
theorem arg_rv (hτ : τ.ok P) {d t b0 : Nat} {r : Reach} {v : Value} {x : DataW H} {ps : List MemPlace} (hok : okT τ d t = true) (hval : Value.okWide P w r b0 t v) (hx : DataW.Trod enc P w 0 sp held t v x ps) (hM : Rows.uptoBulk x ≤ M) :
    ∃ a, Sh τ M d t a ∧ RV (allOf w) a v := by
  obtain ⟨fuel, hf⟩ := hx
  obtain ⟨a, h1, h2⟩ := trod_rc hτ d hok hf hM
  refine ⟨a, h1, ?_⟩
  cases d with
  | zero => cases hok
  | succ d =>
  unfold okT at hok
  cases hg : Tab.get t τ with
  | none => rw [hg] at hok; cases hok
  | some i =>
  rw [hg] at hok
  have hdd := (Tab.get_ok hτ hg).d
  have hty : tyOf τ t = i.ty := by unfold tyOf; rw [hg]
  rw [hty] at h2
  dsimp only at hok
  have hag : i.ty.agg = true → (∃ cs, v = .agg cs) → RV (allOf w) a v := fun h3 ⟨cs, hv⟩ => by
    subst hv
    refine (show RV1 (allOf w) a (.agg cs) from .inl ⟨i.ty, cs.toList, h3, h2, rfl⟩).rv
  have hsc : i.ty = .sc → v.cells.toList = [v] → RV (allOf w) a v := fun h3 hv => by
    rw [h3, hv] at h2; exact h2.rvp
  generalize i.d = D' at hok hdd
  cases D' with
  | int k => obtain ⟨n, rfl⟩ := WideShapes.okWide_int hdd hval; exact hsc (eq_of_beq hok) rfl
  | bool => obtain ⟨n, rfl⟩ := WideShapes.okWide_bool hdd hval; exact hsc (eq_of_beq hok) rfl
  | str => obtain ⟨n, rfl⟩ := WideShapes.okWide_string hdd hval; exact hsc (eq_of_beq hok) rfl
  | slc e =>
    obtain ⟨A, len, cap, rfl⟩ := WideShapes.okWide_slice hdd hval
    simp only [Bool.and_eq_true] at hok
    exact hsc (eq_of_beq hok.1.1.1) rfl
  | arr n e =>
    simp only [Bool.and_eq_true] at hok
    have hu := hdd.1
    simp only [Value.okWide, hu] at hval
    obtain ⟨cs, rfl, _⟩ := hval
    exact hag (by rw [eq_of_beq hok.1.2]; rfl) ⟨cs, rfl⟩
  | rcd fs =>
    simp only [Bool.and_eq_true] at hok
    obtain ⟨F, hu, _⟩ := hdd
    obtain ⟨cs, rfl, _⟩ := WideShapes.okWide_struct hu hval
    exact hag hok.1.2 ⟨cs, rfl⟩
  | _ => cases hok
/-- All arguments. -/
theorem args_rv (hτ : τ.ok P) {d b0 : Nat} {r : Reach} : ∀ {ts : List TypeId} {vs : List Value} {ds : List (DataW H)} {ps : List MemPlace}, (ts.all fun t => okT τ d t) = true → DataW.TrodAll enc P w 0 sp held ts vs ds ps →
    (∀ (j : Nat) t v, ts[j]? = some t → vs[j]? = some v → Value.okWide P w r b0 t v) → Rows.uptoBulkAll ds ≤ M →
    ∃ az, ShL (Sh τ M d) ts az ∧ vs.length = az.length ∧ ∀ (i : Nat) x v, az[i]? = some x → vs[i]? = some v → RV (allOf w) x v
  | [], [], [], _, _, _, _, _ => ⟨[], trivial, rfl, fun i x v h => by simp at h⟩
  | t :: ts, v :: vs, x :: ds, _, hok, h, hval, hM => by
    obtain ⟨p, q, h1, h2, _⟩ := h
    simp only [List.all_cons, Bool.and_eq_true] at hok
    simp only [Rows.uptoBulkAll] at hM
    obtain ⟨a, ha1, ha2⟩ := arg_rv (M := M) hτ hok.1 (hval 0 t v rfl rfl) h1 (by omega)
    obtain ⟨az, hz1, hz2, hz3⟩ := args_rv hτ hok.2 h2 (fun j t v hj hv => hval (j + 1) t v hj hv) (by omega)
    refine ⟨a :: az, ⟨ha1, hz1⟩, by simp [hz2], fun i y u hy hu => ?_⟩
    cases i with
    | zero =>
      simp only [List.getElem?_cons_zero, Option.some.injEq] at hy hu
      subst hy hu; exact ha2
    | succ i => exact hz3 i y u (by simpa using hy) (by simpa using hu)
  | [], _ :: _, _, _, _, h, _, _ => by cases h
  | [], [], _ :: _, _, _, h, _, _ => by cases h
  | _ :: _, [], _, _, _, h, _, _ => by cases h
  | _ :: _, _ :: _, [], _, _, h, _, _ => by cases h
theorem allOf_inv (P : Program) (w : World) : Inv P w (allOf w) (allOf w) [] [] [] w := by
  have nb : ∀ (i : Nat) (x : Bx), (allOf w).bx[i]? = some x → False := fun i x h => by simp [allOf] at h
  have nr : ∀ (i : Nat) (x : Rw), (allOf w).rw[i]? = some x → False := fun i x h => by simp [allOf] at h
  refine ⟨⟨fun b o u h => h, fun i x hx => (nb i x hx).elim, fun i x hx => (nb i x hx).elim, fun i x hx => (nb i x hx).elim, fun i r hr => (nr i r hr).elim, fun i x hx => (nb i x hx).elim, fun i x hx => (nb i x hx).elim, fun i j x y hx => (nb i x hx).elim, fun i r k hr => (nr i r hr).elim, fun i r k hr => (nr i r hr).elim, fun i j x r hx => (nb i x hx).elim, fun i j r s k hr => (nr i r hr).elim⟩,
    ⟨Kept.refl _ _, fun i x hx => (nb i x hx).elim, fun i r k hr => (nr i r hr).elim, fun b _ _ o => rfl, Gh.le.refl _⟩, ⟨rfl, fun i T a h => by simp at h⟩, fun i x hx => (nb i x hx).elim, rfl, fun r hr => by simp [allOf] at hr⟩
/-- A law's function, called: true, and nothing old has turned. -/
theorem law_calls (hτ : τ.ok P) {f : FuncId} {fn : Func} {d b0 : Nat} {r : Reach} {args : Array Value} {ds : List (DataW H)} {ps : List MemPlace} (hok : (fn.params.toList.all fun t => okT τ d t) = true)
    (hT : DataW.TrodAll enc P w 0 sp held fn.params.toList args.toList ds ps) (hval : ∀ (j : Nat) t v, fn.params[j]? = some t → args[j]? = some v → Value.okWide P w r b0 t v) (hM : Rows.uptoBulkAll ds ≤ M)
    (h : ∀ az, ShL (Sh τ M d) fn.params.toList az → VC P f az [] (.v (.bool true))) : Calls P f args w fun e w' => e = .returned (.bool true) ∧ Below w.heap.size w w' := by
  obtain ⟨az, h1, h2, h3⟩ := args_rv (M := M) hτ hok hT (fun j t v hj hv => hval j t v (by simpa using hj) (by simpa using hv)) hM
  have := (h az h1).2 w (allOf w) args.toList (allOf_inv P w) h2 h3
  refine this.mono fun e w' hp => ?_
  obtain ⟨g, v, rfl, hi, hv⟩ := hp
  refine ⟨by rw [hv.v_inv], hi.fr.kept.below (Nat.le_refl _) fun k _ hk => ?_⟩
  rcases hk with ⟨x, hx, _⟩ | ⟨x, hx, _⟩ <;> simp [allOf] at hx
theorem trodAll_below (hl : laidOutB P = true) {W W' : World} (hb : Below W.heap.size W W') : ∀ {ts : List TypeId} {vs : List Value} {ds : List (DataW H)} {ps : List MemPlace}, (ts.all fun t => P.readableRec t && decide (t < P.types.size)) = true →
    DataW.TrodAll enc P W 0 (fun _ => true) true ts vs ds ps → (∀ x ∈ ps, x.block < W.heap.size) → DataW.TrodAll enc P W' 0 (fun b => decide (b < W.heap.size)) true ts vs ds ps
  | [], [], [], _, _, h, _ => h
  | t :: ts, v :: vs, x :: ds, _, hr, h, hlt => by
    obtain ⟨p, q, h1, h2, rfl⟩ := h
    simp only [List.all_cons, Bool.and_eq_true, decide_eq_true_eq] at hr
    exact ⟨p, q, Below.trod hl hr.1.1 hr.1.2 h1 hb (fun x hx => hlt x (List.mem_append_left _ hx)), trodAll_below hl hb hr.2 h2 (fun x hx => hlt x (List.mem_append_right _ hx)), rfl⟩
  | [], _ :: _, _, _, _, h, _ => by cases h
  | [], [], _ :: _, _, _, h, _ => by cases h
  | _ :: _, [], _, _, _, h, _ => by cases h
  | _ :: _, _ :: _, [], _, _, h, _ => by cases h
/-- What a statement's form asks for: true is handed back, the arguments are as they were. -/
theorem post_true (hl : laidOutB P = true) {fn : Func} {s : ChangeSpec} {W W' : World} {args : Array Value} {ds gs : List (DataW H)} {before : List MemPlace} {bt : TypeId}
    (hW : DataW.Whole enc P fn.params.toList s.vars false W args.toList ds gs before) (hb : Below W.heap.size W W') (hr : (fn.params.toList.all fun t => P.readableRec t && decide (t < P.types.size)) = true) (hv : s.vars = []) (hrt : fn.resultTypes = #[bt]) (hbt : P.underlying bt = some .bool)
    (hs : s.fn H (ds ++ gs) = ⟨[.lit (.bool true)], ds, []⟩) : s.post enc P fn false true false false W args (.bool true) W' := by
  have hlt := fun x hx => hW.lt x hx
  obtain ⟨p, q, hA, hV, rfl, hfz, hnd⟩ := id hW
  refine ⟨ds, gs, p ++ q, [], p, [], hW, ?_, ?_, ?_, hb.frame _, fun h => by cases h⟩
  · rw [hrt, hs]
    exact ⟨[], [], ⟨1, by simp [DataW.trod, hbt, Value.cells]⟩, rfl, rfl⟩
  · rw [hs]
    exact trodAll_below hl hb hr hA fun x hx => by simpa using hlt x (List.mem_append_left _ hx)
  · rw [hs, hv]; rfl
end
end Go.Proofs.Ytigmpdhnhkdeiaa
/- What grows, lent to a call that only reads it. -/
namespace Go.Proofs.Ytigmpdhnhkdeiaa
open Go Go.RowKit
def flat : Nat → AV → Bool
  | _, .v _ => true
  | _, .ba _ => true
  | d + 1, .st fs => fs.all (flat d)
  | d + 1, .tup fs => fs.all (flat d)
  | _, _ => false
section
variable {P : Program} {τ : Tab} {w0 w : World} {N : Gh} {g gS : Gh} {st st' sq sq' : St} {nt : Nat} {a : Act}
theorem RC.flat_ {g g' : Gh} : ∀ {d : Nat} {T : Ty} {x : AV} {cs : List Value}, RC g T x cs → flat d x = true → RC g' T x cs := by
  intro d
  induction d with
  | zero => intro T x cs h hp; cases h <;> first | exact .v ‹_› | exact .ba ‹_› | (simp [flat] at hp)
  | succ d ih =>
    have key : ∀ {T : Ty} {cs : List Value} {fs : List AV}, RC g T (.st fs) cs → fs.all (flat d) = true → RC g' T (.st fs) cs := by
      intro T
      induction T with
      | cn T Ts _ ihs =>
        intro cs fs h hp
        cases h with
        | cn h hs =>
          simp only [List.all_cons, Bool.and_eq_true] at hp
          exact .cn (ih h hp.1) (ihs hs hp.2)
      | nl => intro cs fs h hp; cases h; exact .nl
      | _ => intro cs fs h hp; cases h
    intro T x cs h hp
    cases h with
    | v h => exact .v h
    | ba h => exact .ba h
    | nl => exact .nl
    | cn h hs => exact key (.cn h hs) hp
    | _ => simp [flat] at hp
theorem RV1.flat_ {g g' : Gh} {d : Nat} {x : AV} {v : Value} (h : RV1 g x v) (hp : flat d x = true) : RV1 g' x v := by
  rcases h with ⟨T, cs, h1, h2, h3⟩ | h
  · exact .inl ⟨T, cs, h1, h2.flat_ hp, h3⟩
  · exact .inr (h.flat_ hp)
theorem RV.flat_ {g g' : Gh} {d : Nat} {x : AV} {v : Value} (h : RV g x v) (hp : flat (d + 1) x = true) : RV g' x v := by
  cases x with
  | any => trivial
  | tup az =>
    obtain ⟨vs, h1, h2, h3⟩ := h
    simp only [flat, List.all_eq_true] at hp
    exact ⟨vs, h1, h2, fun i a u ha hu => (h3 i a u ha hu).flat_ (hp a (List.mem_of_getElem? ha))⟩
  | _ => exact RV1.flat_ (d := d + 1) h hp
end
section
variable {P : Program} {τ : Tab} {w0 w : World} {N : Gh} {g gS : Gh} {st st' sq sq' : St} {nt : Nat} {a : Act} {r : AV} {cd : Prop}
end
end Go.Proofs.Ytigmpdhnhkdeiaa
/- A region in every order of its loud operations: the steps as theorems that a tactic can try one after another. -/
namespace Go.Proofs.Ytigmpdhnhkdeiaa
open Go Go.RowKit
section
variable {P : Program} {ops : Array Oper} {Q : Exit → Act → World → Prop} {S : World → Prop} {L A : List Nat} {U : List (Nat × Nat)}
theorem wpT_at {l : List Oper} {a : Act} {w : World} (i : Nat) (h : wpT P ops Q S L A l i a w) : wpT P ops Q S L A l i a w := h
theorem wpZ_q1 {i n : Nat} {rest : List Nat} {o : Oper} {a : Act} {w : World} (hL : L.contains i = false) (ho : (ops.toList.drop i).head? = some o)
    (h : wpT P ops (fun _ a w => wpZ P ops Q S L A U n rest a w) S L A [o] i a w) : wpZ P ops Q S L A U (n + 1) (i :: rest) a w := by
  have ho : ops[i]? = some o := by rw [List.head?_drop, Array.getElem?_toList] at ho; exact ho
  unfold wpZ; rw [if_neg (by rw [hL]; exact Bool.false_ne_true)]; unfold tOp; simp only [ho]; exact h
theorem wpZ_l1 {i n : Nat} {rest : List Nat} {o : Oper} {a : Act} {w : World} (hL : L.contains i = true) (hc : altZ U i rest = []) (ho : (ops.toList.drop i).head? = some o)
    (h : wpT P ops (fun _ a w => wpZ P ops Q S L A U n rest a w) S L A [o] i a w) : wpZ P ops Q S L A U (n + 1) (i :: rest) a w := by
  refine wpZ_two hL hc (all1 ?_)
  exact wpZ_pick (by simp) ho h
theorem wpZ_l2 {i m n : Nat} {rest r2 : List Nat} {o o2 : Oper} {a : Act} {w : World} (hL : L.contains i = true) (hc : altZ U i rest = [m]) (ho : (ops.toList.drop i).head? = some o) (ho2 : (ops.toList.drop m).head? = some o2) (hr2 : (i :: rest).erase m = r2)
    (h : wpT P ops (fun _ a w => wpZ P ops Q S L A U n rest a w) S L A [o] i a w) (h2 : wpT P ops (fun _ a w => wpZ P ops Q S L A U n r2 a w) S L A [o2] m a w) : wpZ P ops Q S L A U (n + 1) (i :: rest) a w := by
  refine wpZ_two hL hc (all2 ⟨?_, ?_⟩)
  · exact wpZ_pick (by simp) ho h
  · exact wpZ_pick hr2 ho2 h2
theorem wpZ_l3 {i m k n : Nat} {rest r2 r3 : List Nat} {o o2 o3 : Oper} {a : Act} {w : World} (hL : L.contains i = true) (hc : altZ U i rest = [m, k]) (ho : (ops.toList.drop i).head? = some o) (ho2 : (ops.toList.drop m).head? = some o2) (ho3 : (ops.toList.drop k).head? = some o3) (hr2 : (i :: rest).erase m = r2) (hr3 : (i :: rest).erase k = r3)
    (h : wpT P ops (fun _ a w => wpZ P ops Q S L A U n rest a w) S L A [o] i a w) (h2 : wpT P ops (fun _ a w => wpZ P ops Q S L A U n r2 a w) S L A [o2] m a w) (h3 : wpT P ops (fun _ a w => wpZ P ops Q S L A U n r3 a w) S L A [o3] k a w) : wpZ P ops Q S L A U (n + 1) (i :: rest) a w := by
  refine wpZ_two hL hc (all3 ⟨?_, ?_, ?_⟩)
  · exact wpZ_pick (by simp) ho h
  · exact wpZ_pick hr2 ho2 h2
  · exact wpZ_pick hr3 ho3 h3
theorem all4 {p : Nat → Prop} {x y z u : Nat} (h : p x ∧ p y ∧ p z ∧ p u) : ∀ m ∈ [x, y, z, u], p m := fun m hm => by
  simp at hm
  rcases hm with rfl | rfl | rfl | rfl
  · exact h.1
  · exact h.2.1
  · exact h.2.2.1
  · exact h.2.2.2
theorem wpZ_l4 {i m k j n : Nat} {rest r2 r3 r4 : List Nat} {o o2 o3 o4 : Oper} {a : Act} {w : World} (hL : L.contains i = true) (hc : altZ U i rest = [m, k, j]) (ho : (ops.toList.drop i).head? = some o) (ho2 : (ops.toList.drop m).head? = some o2) (ho3 : (ops.toList.drop k).head? = some o3) (ho4 : (ops.toList.drop j).head? = some o4) (hr2 : (i :: rest).erase m = r2) (hr3 : (i :: rest).erase k = r3) (hr4 : (i :: rest).erase j = r4)
    (h : wpT P ops (fun _ a w => wpZ P ops Q S L A U n rest a w) S L A [o] i a w) (h2 : wpT P ops (fun _ a w => wpZ P ops Q S L A U n r2 a w) S L A [o2] m a w) (h3 : wpT P ops (fun _ a w => wpZ P ops Q S L A U n r3 a w) S L A [o3] k a w) (h4 : wpT P ops (fun _ a w => wpZ P ops Q S L A U n r4 a w) S L A [o4] j a w) : wpZ P ops Q S L A U (n + 1) (i :: rest) a w := by
  refine wpZ_two hL hc (all4 ⟨?_, ?_, ?_, ?_⟩)
  · exact wpZ_pick (by simp) ho h
  · exact wpZ_pick hr2 ho2 h2
  · exact wpZ_pick hr3 ho3 h3
  · exact wpZ_pick hr4 ho4 h4
end
end Go.Proofs.Ytigmpdhnhkdeiaa
/- A reader of a stretch: (*span.reader).leaf. -/
namespace Go.Proofs.Ytigmpdhnhkdeiaa
open Go Go.RowKit
abbrev brT : Ty := ti54.ty
def brs (l : List Br) : List AV := l.map Br.av
theorem brs_len (l : List Br) : (brs l).length = l.length := by simp [brs]
structure RS.wf (s : RS) : Prop where
  rest : ∀ b ∈ s.rest, b.wf
  ks : ∀ k ∈ s.ks, k.length = 32
  ds : ∀ k ∈ s.ds, k.length = 32
  sd : ∀ k ∈ s.sd, k.length = 32
  en : s.en.wf
  lk : s.ks.length + s.rest.length ≤ 100000
  ld : s.ds.length + s.rest.length ≤ 100000
  ls : s.sd.length + s.rest.length ≤ 100000
theorem cutG9 {B R : Act → World → Prop} {G : Prop} (h : (∀ a w, R a w → B a w) → G) (k : ∀ a w, R a w → B a w) : G := h k
end Go.Proofs.Ytigmpdhnhkdeiaa
/- The end of ways, in a reader of a sketch for keys: multi.end. -/
namespace Go.Proofs.Ytigmpdhnhkdeiaa
open Go Go.RowKit
abbrev mrdT : Ty := ti288.ty
abbrev pfT0 : Ty := ti68.ty
def wyF (n lo k : Nat) (c : Bool) (m : Nd) (vs : Nat → Value) (ns : Nat → Nd) : List AV := (List.range n).map fun t => .st [.v (vs t), (if c = true ∧ lo ≤ t ∧ t < k then m else ns t).av]
theorem wyF_len (n lo k : Nat) (c : Bool) (m : Nd) (vs : Nat → Value) (ns : Nat → Nd) : (wyF n lo k c m vs ns).length = n := by simp [wyF]
theorem wyF_get (n lo k : Nat) (c : Bool) (m : Nd) (vs : Nat → Value) (ns : Nat → Nd) (h : k < n) : (wyF n lo k c m vs ns).getD k .any = .st [.v (vs k), (ns k).av] := by
  simp only [wyF, List.getD_eq_getElem?_getD, List.getElem?_map, List.getElem?_range h, Option.map_some, Option.getD_some]
  rw [if_neg (by omega)]
theorem wyF_step (n lo k : Nat) (m : Nd) (vs : Nat → Value) (ns : Nat → Nd) (h : k < n) (hl : lo ≤ k) : (wyF n lo k true m vs ns).set k (.st [.v (vs k), m.av]) = wyF n lo (k + 1) true m vs ns := by
  apply List.ext_getElem (by simp [wyF])
  intro i h1 h2
  rw [List.getElem_set]
  split
  · rename_i e; subst e
    simp only [wyF, List.getElem_map, List.getElem_range]
    rw [if_pos ⟨trivial, hl, by omega⟩]
  · rename_i e
    simp only [wyF, List.getElem_map, List.getElem_range]
    by_cases hh : lo ≤ i ∧ i < k
    · rw [if_pos ⟨trivial, hh⟩, if_pos ⟨trivial, hh.1, by omega⟩]
    · rw [if_neg (fun q => hh q.2), if_neg (fun q => hh ⟨q.2.1, by omega⟩)]
theorem wyF_no (n lo k j : Nat) (m : Nd) (vs : Nat → Value) (ns : Nat → Nd) : wyF n lo k false m vs ns = wyF n lo j false m vs ns := by
  unfold wyF
  refine List.map_congr_left fun t _ => ?_
  rw [if_neg (fun h => by cases h.1), if_neg (fun h => by cases h.1)]
attribute [local irreducible] wpT
set_option maxRecDepth 20000 in
set_option maxHeartbeats 4000000 in
theorem mend_v (rest : List Br) (e : List UInt8) (he : e.length = 32) (n : Nat) (hn : n ≤ 64) (b : Br) (hw : b.wf) (lo hi : Nat) (hlo : lo ≤ hi) (hhi : hi ≤ n) (vs : Nat → Value) (ns : Nat → Nd) (hns : ∀ t, (ns t).wf) :
    VX Try.prog 227 [(mrdT, .st [.sl brT (brs rest) none, .ba e, .vw 1 0 n]), (.vc 68 pfT0, .vc 0 (wyF n lo lo (decide (b.k = 1)) (Nd.one b.key b.v) vs ns))] [] [] [.ptr 0 [], b.av, .v (.int .i64 (lo : Int)), .v (.int .i64 (hi : Int))]
      [(mrdT, .st [.sl brT (brs rest) none, .ba e, .vw 1 0 n]), (.vc 68 pfT0, .vc 0 (wyF n lo hi (decide (b.k = 1)) (Nd.one b.key b.v) vs ns))] [] [] (.tup []) := by
  obtain ⟨q1, q2, q3⟩ := id hw
  obtain ⟨bk, bkey, bv, bg⟩ := b
  dsimp only at q1 q2 q3 ⊢
  have k1 : decide ((bk.toNat : Int) = 1) = decide (bk = 1) := kz bk 1 (by decide)
  have hz2 : (List.replicate 32 (0 : UInt8)).length = 32 := List.length_replicate
  have hl0 := wyF_len n lo lo (decide (bk = 1)) (Nd.one bkey bv) vs ns
  refine mE Try.func227 ?_; intro N w0 a w hN hR H
  simp only [Br.av] at H
  have hX := And.intro @he (And.intro @q1 (And.intro @q2 (And.intro @q3 (@hl0))))
  refine mW ?_; clear H; intro a w H
  replace H := v_ref H 5 2 (Nat.le_trans hN (Nat.le_of_ble_eq_true rfl)) rfl rfl rfl
  simp only [nilT, strip, List.map_cons, List.map_nil, reduceIte, Nat.reduceEqDiff] at H
  refine v_loop (fun k : Nat => ⟨[(8, none, .v (.int .i64 (k : Int))), (5, none, .ref brT (.st [.v (B8 bk), .ba bkey, .ba bv, .ba bg])), (3, none, .v (.int .i64 (hi : Int))), (0, none, .ptr 0 [])], [(mrdT, .st [.sl brT (brs rest) none, .ba e, .vw 1 0 n]), (.vc 68 pfT0, .vc 0 (wyF n lo k (decide (bk = 1)) (Nd.one bkey bv) vs ns)), (brT, .st [.v (B8 bk), .ba bkey, .ba bv, .ba bg])], [2], []⟩) (fun k => lo ≤ k ∧ k ≤ hi) (fun k => hi - k) lo ⟨Nat.le_refl _, hlo⟩
    (H.to 3 0 ⟨Nat.le_trans hN (Nat.le_of_ble_eq_true rfl), hR⟩ ⟨rfl, rfl, rfl, rfl, trivial⟩ rfl rfl rfl rfl rfl) ?_
  clear H
  intro k a w hk H
  obtain ⟨hk1, hk2⟩ := hk
  have hlk := wyF_len n lo k (decide (bk = 1)) (Nd.one bkey bv) vs ns
  clear hX; have hX := And.intro @he (And.intro @q1 (And.intro @q2 (And.intro @q3 (@hlk))))
  refine mW ?_; clear H; intro a w H
  refine mC H (fun hb => ?_) (fun hb => ?_)
  · have hlt : k < hi := by rw [decide_eq_true_eq] at hb; omega
    clear hb
    have hg := wyF_get n lo k (decide (bk = 1)) (Nd.one bkey bv) vs ns (by omega)
    have hst := wyF_step n lo k (Nd.one bkey bv) vs ns (by omega) hk1
    obtain ⟨n1, n2, n3, n4⟩ := hns k
    refine mW ?_; clear H; intro a w H
    simp only [k1] at H
    refine mC H (fun hb => ?_) (fun hb => ?_)
    · have e1 : bk = 1 := of_decide_eq_true hb
      clear hb
      rw [decide_eq_true e1] at *
      simp only [Nd.av] at hg
      replace hst : (wyF n lo k true (Nd.one bkey bv) vs ns).set k (.st [.v (vs k), .st [.v (.int .u8 1), .ba bkey, .ba bv, .ba (List.replicate 32 0), .ba (List.replicate 32 0)]]) = wyF n lo (k + 1) true (Nd.one bkey bv) vs ns := hst
      clear hX; have hX := And.intro @he (And.intro @q1 (And.intro @q2 (And.intro @q3 (And.intro @hlk (And.intro @hg (And.intro @hz2 (And.intro @n1 (And.intro @n2 (And.intro @n3 (@n4))))))))))
      refine mS ?_; refine mD 0 [12] [] H ?_; clear H; intro gS H
      refine mT ?_; clear H; intro a w H
      refine v_drawNil H ?_; clear H; intro H
      refine mW ?_; clear H; intro a w H
      rw [hst, show (k : Int) + 1 = ((k + 1 : Nat) : Int) by omega] at H
      exact ⟨k + 1, ⟨by omega, hlt⟩, by omega, H.to 3 0 ⟨Nat.le_trans hN (Nat.le_of_ble_eq_true rfl), hR⟩ ⟨rfl, rfl, rfl, rfl, trivial⟩ rfl rfl rfl rfl rfl⟩
    · have e1 : ¬ bk = 1 := of_decide_eq_false hb
      clear hb
      rw [decide_eq_false e1] at *
      clear hX; have hX := And.intro @he (And.intro @q1 (And.intro @q2 (And.intro @q3 (And.intro @hlk (And.intro @hg (And.intro @hz2 (And.intro @n1 (And.intro @n2 (And.intro @n3 (@n4))))))))))
      refine mW ?_; clear H; intro a w H
      rw [wyF_no n lo k (k + 1), show (k : Int) + 1 = ((k + 1 : Nat) : Int) by omega] at H
      exact ⟨k + 1, ⟨by omega, hlt⟩, by omega, H.to 3 0 ⟨Nat.le_trans hN (Nat.le_of_ble_eq_true rfl), hR⟩ ⟨rfl, rfl, rfl, rfl, trivial⟩ rfl rfl rfl rfl rfl⟩
  · have hge : k = hi := by rw [decide_eq_false_iff_not] at hb; omega
    clear hb
    subst hge
    refine mW ?_; clear H; intro a w H
    exact mEnd [0, 1] [] [] [] hN hR H
end Go.Proofs.Ytigmpdhnhkdeiaa
/- The statements' kit: do lists share memory? -/
namespace Go.Proofs.Ytigmpdhnhkdeiaa
open Go Go.RowKit
attribute [local irreducible] wpT
/-- A slice, in its three parts. -/
abbrev SV := Option Addr × Nat × Nat
abbrev SV.v (x : SV) : Value := .slice x.1 x.2.1 x.2.2
/-- A row, and what the list that names it says of it. -/
abbrev ARow := SV × List UInt8 × List UInt8 × TypeId
abbrev ARow.str (x : ARow) : Value := .string (strOf (x.2.1 ++ x.2.2.1))
/-- Rows that do not share memory. -/
structure Apart (w : World) (base : Nat) (L : List ARow) : Prop where
  own : ∀ i (hi : i < L.length), Own (byteT L[i].2.2.2) w base L[i].1.v L[i].2.1 L[i].2.2.1
  ne : ∀ i j (hi : i < L.length) (hj : j < L.length), i ≠ j → L[i].1.v.ownBlock = none ∨ L[i].1.v.ownBlock ≠ L[j].1.v.ownBlock
theorem Apart.below {w w' : World} {base : Nat} {L : List ARow} (h : Apart w base L) (hb : Below w.heap.size w w') : Apart w' base L :=
  ⟨fun i hi => (h.own i hi).belowSize hb, h.ne⟩
end Go.Proofs.Ytigmpdhnhkdeiaa
/- ApartBytes of slices that own their memory, written out where they are asked about; guards that are known to hold. -/
namespace Go.Proofs.Ytigmpdhnhkdeiaa
open Go Go.RowKit
section
variable {P : Program} {τ : Tab} {w0 w : World} {N : Gh} {g gS : Gh} {st st' sq sq' : St} {nt : Nat} {a : Act}
theorem zero_u8 : zeroOf Try.prog 5 = [.int .u8 0] := by kernel_rfl
theorem flat_z (m : Nat) : (List.replicate m [Value.int .u8 0]).flatten = (List.replicate m (0 : UInt8)).map B8 := by
  induction m with
  | zero => rfl
  | succ m ih => rw [List.replicate_succ, List.flatten_cons, ih, List.replicate_succ]; rfl
end
end Go.Proofs.Ytigmpdhnhkdeiaa
/- Rows that no frame owns: lists of bytes, each with memory of its own; contracts that hand them out. -/
namespace Go.Proofs.Ytigmpdhnhkdeiaa
open Go Go.RowKit
/-- A slice on its own: its block, its length and room, the block's cells; the first k of them stay as they are. -/
structure XR where
  A : Option Nat
  n : Nat
  c : Nat
  tid : TypeId
  cells : List Value
  k : Nat
def XR.v (x : XR) : Value := .slice (x.A.map fun b => ⟨b, 0, none⟩) x.n x.c
theorem XR.own (x : XR) : x.v.ownBlock = x.A := by unfold XR.v; cases x.A <;> rfl
structure XOk (lo : Nat) (g : Gh) (w : World) (x : XR) : Prop where
  le : x.n ≤ x.c ∧ x.c ≤ maxLen
  nil : x.A = none → x.c = 0
  own : ∀ b, x.A = some b → ¬ g.has b ∧ lo ≤ b ∧ Blk w b x.tid x.cells.toArray ∧ ∀ o u, o < x.k → x.cells[o]? = some u → g.ro b o = some u
theorem XOk.lt {lo : Nat} {g : Gh} {w : World} {x : XR} (h : XOk lo g w x) {b : Nat} (hb : x.A = some b) : b < w.heap.size := (h.own b hb).2.2.1.lt
def XApart (X : List XR) : Prop := X.Pairwise fun x y => x.A = none ∨ x.A ≠ y.A
structure Xs (lo : Nat) (g : Gh) (w : World) (X : List XR) : Prop where
  ok : ∀ x ∈ X, XOk lo g w x
  un : XApart X
/-- As Fr, but for blocks from lo on. -/
structure FrX (lo : Nat) (w0 : World) (N g : Gh) (w : World) : Prop where
  os : w.os = w0.os
  tape : w.tape = w0.tape
  output : w.output = w0.output
  size : w0.heap.size ≤ w.heap.size
  block : ∀ k, k < w0.heap.size → k < lo → ¬ N.has k → w.heap[k]? = w0.heap[k]?
  bx : ∀ (i : Nat) (x : Bx), g.bx[i]? = some x → x.off = false → w0.heap.size ≤ x.blk ∨ ∃ y, N.bx[i]? = some y ∧ y.off = false ∧ y.blk = x.blk
  rw : ∀ (i : Nat) (r : Rw) (k : Nat), g.rw[i]? = some r → r.v.ownBlock = some k → w0.heap.size ≤ k ∨ ∃ s, N.rw[i]? = some s ∧ s.v.ownBlock = some k
  ro : ∀ b, b < w0.heap.size → b < lo → ¬ N.has b → ∀ o, g.ro b o = N.ro b o
  le : N.le g
section
variable {P : Program} {τ : Tab} {w0 w w1 w2 : World} {N N1 N2 : Gh} {g g1 gS : Gh} {st st' sq sq' : St} {nt : Nat} {a : Act} {lo : Nat} {X Y : List XR}
theorem FrX.of (h : Fr w0 N g w) (lo : Nat) : FrX lo w0 N g w := ⟨h.kept.os, h.kept.tape, h.kept.output, h.kept.size, fun k hk _ hn => h.kept.block k hk hn, h.bx, h.rw, fun b hb _ hn => h.ro b hb hn, h.le⟩
theorem FrX.fr (h : FrX lo w0 N g w) (hlo : w0.heap.size ≤ lo) : Fr w0 N g w := ⟨⟨h.os, h.tape, h.output, h.size, fun k hk hn => h.block k hk (by omega) hn⟩, h.bx, h.rw, fun b hb hn => h.ro b hb (by omega) hn, h.le⟩
theorem FrX.back (h : FrX lo w0 N g w) {b : Nat} (hb : b < w0.heap.size) (hh : g.has b) : N.has b := by
  rcases hh with ⟨y, hy, hyo, he⟩ | ⟨s, hr, he⟩
  · obtain ⟨i, hi⟩ := List.getElem?_of_mem hy
    rcases h.bx i y hi hyo with h3 | ⟨z, h3, h4, h5⟩
    · omega
    · exact .inl ⟨z, List.mem_of_getElem? h3, h4, h5.trans he⟩
  · obtain ⟨i, hi⟩ := List.getElem?_of_mem hr
    rcases h.rw i s b hi he with h3 | ⟨z, h3, h4⟩
    · omega
    · exact .inr ⟨z, List.mem_of_getElem? h3, h4⟩
theorem FrX.trans (h : FrX lo w0 N N1 w1) (k : FrX lo w1 N1 g w) : FrX lo w0 N g w := by
  have hs := h.size
  refine ⟨k.os.trans h.os, k.tape.trans h.tape, k.output.trans h.output, Nat.le_trans h.size k.size, fun b hb hl hn => (k.block b (by omega) hl (fun hh => hn (h.back hb hh))).trans (h.block b hb hl hn), fun i x hx hxo => ?_, fun i r b hr hrb => ?_, fun b hb hl hn o => (k.ro b (by omega) hl (fun hh => hn (h.back hb hh)) o).trans (h.ro b hb hl hn o), h.le.trans k.le⟩
  · rcases k.bx i x hx hxo with h1 | ⟨y, h1, h2, h3⟩
    · exact .inl (by omega)
    · rw [← h3]; exact h.bx i y h1 h2
  · rcases k.rw i r b hr hrb with h1 | ⟨s, h1, h2⟩
    · exact .inl (by omega)
    · exact h.rw i s b h1 h2
theorem Inv.self {bx : List (Ty × AV)} {fz : List Nat} {rw : List (TypeId × Nat)} (HI : Inv P w0 N g bx fz rw w) : Inv P w g g bx fz rw w :=
  ⟨HI.mem, ⟨Kept.refl _ _, fun i x hx hxo => .inr ⟨x, hx, hxo, rfl⟩, fun i r k hr hrk => .inr ⟨r, hr, hrk⟩, fun _ _ _ _ => rfl, Gh.le.refl _⟩, HI.br, HI.fz, HI.wr, HI.wz⟩
theorem XOk.step {x : XR} (h : XOk lo N1 w1 x) {bx : List (Ty × AV)} {fz : List Nat} {rw : List (TypeId × Nat)} (HI : Inv P w1 N1 g bx fz rw w) : XOk lo g w x := by
  have hB := FrX.of HI.fr w1.heap.size
  refine ⟨h.le, h.nil, fun b hb => ?_⟩
  obtain ⟨h1, h2, h3, h4⟩ := h.own b hb
  exact ⟨fun hh => h1 (hB.back h3.lt hh), h2, h3.kept HI.fr.kept h1, fun o u ho hu => HI.fr.le.ro _ _ _ (h4 o u ho hu)⟩
theorem Xs.step (h : Xs lo N1 w1 X) {bx : List (Ty × AV)} {fz : List Nat} {rw : List (TypeId × Nat)} (HI : Inv P w1 N1 g bx fz rw w) : Xs lo g w X := ⟨fun x hx => (h.ok x hx).step HI, h.un⟩
/-- A frame, and rows on their own. -/
def RelX (lo : Nat) (P : Program) (w0 : World) (N : Gh) (nt : Nat) (st : St) (X : List XR) (a : Act) (w : World) : Prop :=
  ∃ g, Inv P w g g st.bx st.fz st.rw w ∧ FrX lo w0 N g w ∧ FR g nt st a ∧ Xs lo g w X
theorem RelX.open_ (H : RelX lo P w0 N nt st X a w) : ∃ N1, FrX lo w0 N N1 w ∧ Xs lo N1 w X ∧ Rel P w N1 nt st a w ∧ N1.bx.length = st.bx.length ∧ N1.rw.length = st.rw.length := by
  obtain ⟨g, HI, hB, hF, hX⟩ := H
  exact ⟨g, hB, hX, ⟨g, HI, hF⟩, HI.br.len, by rw [← HI.wr, List.length_map]⟩
theorem RelX.close (hB : FrX lo w0 N N1 w1) (hX : Xs lo N1 w1 X) (H : Rel P w1 N1 nt st a w) : RelX lo P w0 N nt st X a w := by
  obtain ⟨g, HI, hF⟩ := H
  exact ⟨g, HI.self, hB.trans (.of HI.fr lo), hF, hX.step HI⟩
theorem RelX.eq (H : RelX lo P w0 N nt st X a w) (h : X = Y) : RelX lo P w0 N nt st Y a w := h ▸ H
/-- Rows on their own are seen as bytes. -/
inductive SeeX (X : List XR) : AV → AV → Prop
  | refl (x : AV) : SeeX X x x
  | pub (x : XR) (l : List UInt8) (h : x ∈ X) (hk : l.length ≤ x.k) (hn : x.n = l.length) (hc : x.cells.take l.length = l.map B8) : SeeX X (.v x.v) (.bs l none)
  | pubc (x : XR) (full : List UInt8) (h : x ∈ X) (hk : full.length ≤ x.k) (hc : x.c = full.length) (hs : x.cells = full.map B8) : SeeX X (.v x.v) (.bc full x.n none)
  | bs (l : List UInt8) (tok : Option Nat) : SeeX X (.bs l tok) (.bs l none)
  | bc (full l : List UInt8) (n : Nat) (tok : Option Nat) (h : full.take n = l) : SeeX X (.bc full n tok) (.bs l none)
  | nil : SeeX X (.v (.slice none 0 0)) (.bs [] none)
  | st {fs fs' : List AV} (hl : fs.length = fs'.length) (h : ∀ i (h1 : i < fs.length) (h2 : i < fs'.length), SeeX X fs[i] fs'[i]) : SeeX X (.st fs) (.st fs')
  | sl {T : Ty} {es es' : List AV} {tok : Option Nat} (hl : es.length = es'.length) (h : ∀ i (h1 : i < es.length) (h2 : i < es'.length), SeeX X es[i] es'[i]) : SeeX X (.sl T es tok) (.sl T es' none)
theorem SeeX.not {x y : AV} (h : SeeX X x y) : (x = .any → y = .any) ∧ (∀ az, x = .tup az → y = .tup az) := by
  cases h <;> exact ⟨fun e => (by first | exact e | cases e), fun az e => (by first | exact e | cases e)⟩
/-- A contract that hands out rows on their own. -/
def PostX (P : Program) (w0 : World) (N : Gh) (R : List XR → List (Ty × AV) → List (TypeId × Nat) → AV → Prop) (e : Ending) (w' : World) : Prop :=
  ∃ X bx' rw' res g v, R X bx' rw' res ∧ e = .returned v ∧ Inv P w0 N g bx' [] rw' w' ∧ RV g res v ∧ Xs w0.heap.size g w' X
def VE (P : Program) (f : FuncId) (args : List AV) (R : List XR → List (Ty × AV) → List (TypeId × Nat) → AV → Prop) : Prop :=
  Fok P f ∧ ∀ (w : World) (N : Gh) (vs : List Value), Inv P w N N [] [] [] w → vs.length = args.length → (∀ (i : Nat) x v, args[i]? = some x → vs[i]? = some v → RV N x v) → Calls P f vs.toArray w (PostX P w N R)
theorem v_endG {fn : Func} {rs : List ResultVar} {nb nr : Nat} (js ks : List Nat) (hτ : τ.ok P) (hM : N.bx.length ≤ nb ∧ N.rw.length ≤ nr) (hr : fn.results = rs.toArray) (HI : Inv P w0 N g st.bx st.fz st.rw w) (hF : FR g nt st a)
    (hchk : (okSel js st.bx.length && okSel ks st.rw.length && usesB js st.bx && preOk js nb && preOk ks nr && rs.all (fun x => argOk js (resv τ st x))) = true)
    {bx' : List (Ty × AV)} {fz' : List Nat} {rw' : List (TypeId × Nat)} {ress : List AV} {res : AV} (hf : fzOk js st.fz fz' 0 = true) (hb : bxs (pickB js ks st.bx) bx') (hw : ks.filterMap (st.rw[·]?) = rw')
    (he : allP (sub 4) (rs.map fun x => ren (idx? js) (idx? ks) 4 (resv τ st x)) ress) (ht : tupOf ress = res) :
    a.defers = [] ∧ ∃ v, (results fn a.tmps).run P w = .ok v w ∧ Inv P w0 N (g.pick js ks) bx' fz' rw' w ∧ RV (g.pick js ks) res v := by
  subst ht
  simp only [Bool.and_eq_true] at hchk
  obtain ⟨⟨⟨⟨⟨c1, c2⟩, c3⟩, c4⟩, c5⟩, c6⟩ := hchk
  obtain ⟨hj, nj⟩ := okSel_ok c1
  obtain ⟨hk, nk⟩ := okSel_ok c2
  have hlr : g.rw.length = st.rw.length := by rw [← HI.wr, List.length_map]
  have hj' : ∀ j ∈ js, j < g.bx.length := fun j hm => by rw [HI.br.len]; exact hj j hm
  have hk' : ∀ k ∈ ks, k < g.rw.length := fun k hm => by rw [hlr]; exact hk k hm
  have p1 := fun j hj => preOk_ok c4 j (Nat.lt_of_lt_of_le hj hM.1)
  have p2 := fun j hj => preOk_ok c5 j (Nat.lt_of_lt_of_le hj hM.2)
  have hfr : Fr w0 N (g.pick js ks) w := by
    refine ⟨HI.fr.kept, fun i x hx hxo => ?_, fun i r k hr hrk => ?_, HI.fr.ro, ⟨HI.fr.le.ro, fun i x hx => ?_, fun i r hr => ?_⟩⟩
    · have hx' : (js.filterMap (g.bx[·]?))[i]? = some x := hx
      rw [pick_get hj'] at hx'
      obtain ⟨j, h1, h2⟩ := Option.bind_eq_some_iff.1 hx'
      rcases HI.fr.bx j x h2 hxo with h3 | ⟨y, h3, h4⟩
      · exact .inl h3
      · have := nodup_get nj h1 (p1 j (List.getElem?_eq_some_iff.1 h3).1); subst this
        exact .inr ⟨y, h3, h4⟩
    · have hx' : (ks.filterMap (g.rw[·]?))[i]? = some r := hr
      rw [pick_get hk'] at hx'
      obtain ⟨j, h1, h2⟩ := Option.bind_eq_some_iff.1 hx'
      rcases HI.fr.rw j r k h2 hrk with h3 | ⟨y, h3, h4⟩
      · exact .inl h3
      · have := nodup_get nk h1 (p2 j (List.getElem?_eq_some_iff.1 h3).1); subst this
        exact .inr ⟨y, h3, h4⟩
    · obtain ⟨x', h1, h2⟩ := HI.fr.le.bx i x hx
      refine ⟨x', ?_, h2⟩
      show (js.filterMap (g.bx[·]?))[i]? = _
      rw [pick_get hj', p1 i (List.getElem?_eq_some_iff.1 hx).1]; exact h1
    · obtain ⟨x', h1, h2⟩ := HI.fr.le.rw i r hr
      refine ⟨x', ?_, h2⟩
      show (ks.filterMap (g.rw[·]?))[i]? = _
      rw [pick_get hk', p2 i (List.getElem?_eq_some_iff.1 hr).1]; exact h1
  have HP : Inv P w0 N (g.pick js ks) bx' fz' rw' w := HI.pick js ks hj hk nj nk (usesB_ok c3) hb (fun i j hi hm => by simpa using fzOk_ok hf i j hi hm) hw hfr
  have key : ∀ (l : List ResultVar) (ress : List AV), l.all (fun x => argOk js (resv τ st x)) = true → allP (sub 4) (l.map fun x => ren (idx? js) (idx? ks) 4 (resv τ st x)) ress → ∃ vs : List Value, (l.mapM fun x : ResultVar => (match x with
      | .tmp t => pure (a.tmps.getD t undef)
      | .cell p t => (do loadVar t (← asAddr (a.tmps.getD p undef))) : Sem Value)).run P w = .ok vs w ∧ vs.length = l.length ∧ vs.length = ress.length ∧ ∀ (i : Nat) x v, ress[i]? = some x → vs[i]? = some v → RV1 (g.pick js ks) x v := by
    intro l
    induction l with
    | nil => intro ress _ he; cases ress with
      | nil => exact ⟨[], rfl, rfl, rfl, fun i x v h => by simp at h⟩
      | cons _ _ => exact he.elim
    | cons x l ih =>
      intro ress hp he
      cases ress with
      | nil => exact he.elim
      | cons y ress =>
      simp only [List.all_cons, Bool.and_eq_true] at hp
      obtain ⟨vs, h1, h2, h2', h3⟩ := ih ress hp.2 he.2
      have hc := hp.1
      simp only [argOk, Bool.and_eq_true, Bool.not_eq_true'] at hc
      obtain ⟨v, h4, h5⟩ := resv_sound (P := P) hτ HI hF x hc.1.2
      have ht : ∀ az, resv τ st x ≠ .tup az := fun az e => by rw [e] at hc; simp at hc
      have h6 := ((h5.pick_ (d := 3) hj' hk' hc.1.1).rv1 (ren_any hc.1.2) (ren_tup ht)).sub_ he.1
      refine ⟨v :: vs, ?_, by simp [h2], by simp [h2'], fun i z u hz hu => ?_⟩
      · rw [List.mapM_cons]
        cases x <;> (dsimp only at h4 ⊢; simp only [Sem.run_bind, h4, Result.andThen_ok, h1, Sem.run_pure])
      · cases i with
        | zero =>
          simp only [List.getElem?_cons_zero, Option.some.injEq] at hz hu
          subst hz hu; exact h6
        | succ i => exact h3 i z u (by simpa using hz) (by simpa using hu)
  obtain ⟨vs, h1, h2, h2', h3⟩ := key rs ress c6 he
  have hres : (results fn a.tmps).run P w = .ok (if h : vs.length = 1 then vs[0] else .tuple vs.toArray) w := by
    have e : results fn a.tmps = (do
        let vs ← rs.toArray.mapM fun x : ResultVar => (match x with
          | .tmp t => pure (a.tmps.getD t undef)
          | .cell p t => (do loadVar t (← asAddr (a.tmps.getD p undef))) : Sem Value)
        pure (if h : vs.size = 1 then vs[0] else .tuple vs)) := by unfold results; rw [hr]; rfl
    rw [e]
    simp only [Sem.run_bind, Array.mapM_eq_mapM_toList, Sem.run_map]
    rw [h1]
    simp
  refine ⟨hF.df, _, hres, HP, ?_⟩
  by_cases hl : vs.length = 1
  · rw [dif_pos hl]
    obtain ⟨x, rfl⟩ : ∃ x, ress = [x] := by
      match ress, h2' with
      | [x], _ => exact ⟨x, rfl⟩
      | [], h => simp at h; rw [h] at hl; cases hl
      | x :: y :: l, h => simp at h; omega
    exact (h3 0 _ _ rfl (List.getElem?_eq_getElem (by omega))).rv
  · rw [dif_neg hl]
    have htu : tupOf ress = .tup ress := by
      match ress, h2' with
      | [x], h => simp at h; exact absurd h hl
      | [], h => rfl
      | x :: y :: l, h => rfl
    rw [htu]
    exact ⟨vs, rfl, h2', fun i x u hx hu => h3 i x u hx hu⟩

theorem pick_has {js ks : List Nat} {b : Nat} (h : (g.pick js ks).has b) : g.has b := by
  rcases h with ⟨y, hy, h⟩ | ⟨s, hs, h⟩
  · obtain ⟨j, _, hj⟩ := List.mem_filterMap.1 hy; exact .inl ⟨y, List.mem_of_getElem? hj, h⟩
  · obtain ⟨j, _, hj⟩ := List.mem_filterMap.1 hs; exact .inr ⟨s, List.mem_of_getElem? hj, h⟩
/-- A loop, by a family of what holds. -/
theorem v_loopI {ι : Type} {c : Code} {Q : Exit → Act → World → Prop} (F : ι → Act → World → Prop) (C : ι → Prop) (μ : ι → Nat) (i0 : ι) (h0 : C i0) (H : F i0 a w)
    (round : ∀ i a w, C i → F i a w → c.wp P (Exit.then (fun a' w' => ∃ i', C i' ∧ μ i' < μ i ∧ F i' a' w') Q) a w) : (Code.loop c).wp P Q a w := by
  have hp : ∀ a w, (∃ i, C i ∧ F i a w) → ∃ m, (∃ i, (C i ∧ F i a w) ∧ μ i = m) ∧ ∀ k, (∃ i, (C i ∧ F i a w) ∧ μ i = k) → m ≤ k := fun a w ⟨i, hi⟩ => min_ex ⟨_, i, hi, rfl⟩
  obtain ⟨m, hm⟩ : ∃ m : Act → World → Nat, ∀ a w, (∃ i, C i ∧ F i a w) → (∃ i, (C i ∧ F i a w) ∧ μ i = m a w) ∧ ∀ k, (∃ i, (C i ∧ F i a w) ∧ μ i = k) → m a w ≤ k := by
    classical
    refine ⟨fun a w => if h : ∃ i, C i ∧ F i a w then Classical.choose (hp a w h) else 0, fun a w h => ?_⟩
    have := Classical.choose_spec (hp a w h)
    simp only [dif_pos h]
    exact this
  refine wp_loop (fun a w => ∃ i, C i ∧ F i a w) m ⟨i0, h0, H⟩ fun a w hi => ?_
  obtain ⟨⟨i, hi', hmi⟩, _⟩ := hm a w hi
  refine Code.wp_mono (fun e a' w' q => ?_) (round i a w hi'.1 hi'.2)
  cases e with
  | normal => obtain ⟨i', h1, h2, h3⟩ := q; exact ⟨⟨i', h1, h3⟩, by have := (hm a' w' ⟨i', h1, h3⟩).2 _ ⟨i', ⟨h1, h3⟩, rfl⟩; omega⟩
  | _ => exact q
end
end Go.Proofs.Ytigmpdhnhkdeiaa
/- slices.Reverse of slices, in memory that may be written. -/
namespace Go.Proofs.Ytigmpdhnhkdeiaa
open Go Go.RowKit
end Go.Proofs.Ytigmpdhnhkdeiaa
/- A list of slices written out into what grows; do lists share memory that are on their own? -/
namespace Go.Proofs.Ytigmpdhnhkdeiaa
open Go Go.RowKit
section
variable {P : Program} {τ : Tab} {w0 w w1 w2 : World} {N N1 N2 : Gh} {g g1 gS : Gh} {st st' sq sq' : St} {nt : Nat} {a : Act} {lo : Nat} {X Y : List XR}
/-- Bytes, with their room. -/
def XW (x : XR) : Prop := ∃ l sp : List UInt8, x.cells = (l ++ sp).map B8 ∧ x.n = l.length ∧ x.c = l.length + sp.length
end
end Go.Proofs.Ytigmpdhnhkdeiaa
/- A growing array that a field points to is turned to stay as it is. -/
namespace Go.Proofs.Ytigmpdhnhkdeiaa
open Go Go.RowKit
section
variable {P : Program} {w0 w : World} {N : Gh} {g : Gh} {st : St} {nt : Nat} {a : Act}
theorem v_frzB0 (HI : Inv P w0 N g st.bx st.fz st.rw w) (hF : FR g nt st a) (i j : Nat) (path : List Nat) {e γ n o : Nat} {T Tj : Ty} {x : AV} {es : List AV} (hN : N.bx.length ≤ i) (hb : st.bx[i]? = some (.vc e T, .vc γ es)) (hj : st.bx[j]? = some (Tj, x)) (hT : Tj.loc path = some (o, .sc)) (hx : x.loc path = some (.vw i γ n)) (hn : n ≤ es.length) :
    ∃ g1, g.lex g1 ∧ Inv P w0 N g1 (st.bx.set j (Tj, x.put path (.sl T (es.take n) none))) (i :: st.fz) st.rw w ∧ FR g1 nt ⟨st.t, st.bx.set j (Tj, x.put path (.sl T (es.take n) none)), i :: st.fz, st.rw⟩ a := by
  obtain ⟨y, hy, hyT, hbc⟩ := HI.br.at_ i _ _ hb
  obtain ⟨T2, F, sp, ⟨e2, he2, htid⟩, hmp, hgen, h0, hcm, hcs, hcl, hsp, hFk⟩ := hbc.vc_inv
  injection he2 with he20 he2; subst he20 he2
  have htl : (es.take n).length = n := by rw [List.length_take]; omega
  have key : ∀ g1, g.lex g1 → Inv P w0 N g1 st.bx (i :: st.fz) st.rw w → (∀ u, RC g1 .sc (.vw i γ n) [u] → RC g1 .sc (.sl T (es.take n) none) [u]) → ∃ g1, g.lex g1 ∧ Inv P w0 N g1 (st.bx.set j (Tj, x.put path (.sl T (es.take n) none))) (i :: st.fz) st.rw w ∧ FR g1 nt ⟨st.t, st.bx.set j (Tj, x.put path (.sl T (es.take n) none)), i :: st.fz, st.rw⟩ a := by
    intro g1 l1 I1 hu
    obtain ⟨xj, hxj, hxT, hbj⟩ := I1.br.at_ j _ _ hj
    obtain ⟨hjo, hjm, hrc⟩ := hbj.rc (Ty.loc_grows hT)
    obtain ⟨a', ha', pre, mid, post, hc, hpl, hmid, hput⟩ := hrc.lens hT
    rw [hx] at ha'; injection ha' with ha'; subst ha'
    obtain ⟨u, rfl⟩ : ∃ u, mid = [u] := by
      cases hmid with
      | vw => exact ⟨_, rfl⟩
    have h2 := hput _ _ (hu u hmid)
    rw [← hc] at h2
    subst hxT
    refine ⟨g1, l1, I1.re hxj (BC.pl h2 hjo hjm), (hF.mono l1.1).sz, hF.df, fun p hp hg => (hF.mono l1.1).t p hp hg, fun p hp hg => hF.u p hp hg⟩
  cases ho : y.off with
  | true =>
    refine key g (Gh.lex.refl g) ⟨HI.mem, HI.fr, HI.br, fun j x hj hf => List.mem_cons_of_mem _ (HI.fz j x hj hf), HI.wr, HI.wz⟩ fun u hu => ?_
    obtain ⟨_, y', e3, T3, A, c, hval, hy', hty', hle, hnc, hm, hxx⟩ := hu.vw_inv
    rw [hy] at hy'; injection hy' with hy'; subst hy'
    injection hval with hval; subst hval
    obtain ⟨hcc, hA⟩ := hxx hgen
    have hc0 : c = 0 := by rw [hcc]; exact hcm.2 ho
    rcases hA with ⟨_, hA⟩ | ⟨h, _⟩
    · rw [hA, hc0, show n = 0 by omega]
      exact RC.nil2 (by simp)
    · rw [ho] at h; cases h
  | false =>
    obtain ⟨g1, l1, I1, ⟨y1, hy1, q1, q2, q3, q4, q5, q6⟩, hro⟩ := HI.freeze hy ho hmp hN
    refine key g1 l1 I1 fun u hu => ?_
    obtain ⟨_, y', e3, T3, A, c, hval, hy', hty', hle, hnc, hm, hxx⟩ := hu.vw_inv
    rw [hy1] at hy'; injection hy' with hy'; subst hy'
    injection hval with hval; subst hval
    obtain ⟨hcc, hA⟩ := hxx (q4.trans hgen)
    rcases hA with ⟨h, _⟩ | ⟨_, hA⟩
    · rw [q6] at h; cases h
    · rw [hA]
      have := RC.sl (g := g1) (T := T) (es := es.take n) (tok := none) (A := some ⟨y1.blk, 0, none⟩) (c := c) (by omega) hm F (.inr ⟨y1.blk, 0, rfl, fun k hk j u hu => by
        rw [Nat.zero_add, q1]
        refine hro _ _ ?_
        rw [hcs]
        exact flat_at hFk (by omega) hu⟩) (fun k hk => by
        rw [List.getElem_take]
        exact (hFk k (by omega)).mono l1.1.base) (fun i hi => by cases hi)
      rw [htl] at this
      exact this
theorem v_frzB (H : Rel P w0 N nt st a w) (i j : Nat) (path : List Nat) {e γ n o : Nat} {T Tj : Ty} {x : AV} {es : List AV} (hN : N.bx.length ≤ i) (hb : st.bx[i]? = some (.vc e T, .vc γ es)) (hj : st.bx[j]? = some (Tj, x)) (hT : Tj.loc path = some (o, .sc)) (hx : x.loc path = some (.vw i γ n)) (hn : n ≤ es.length) :
    Rel P w0 N nt ⟨st.t, st.bx.set j (Tj, x.put path (.sl T (es.take n) none)), i :: st.fz, st.rw⟩ a w := by
  obtain ⟨g, HI, hF⟩ := H
  obtain ⟨g1, _, h1, h2⟩ := v_frzB0 HI hF i j path hN hb hj hT hx hn
  exact ⟨g1, h1, h2⟩
end
end Go.Proofs.Ytigmpdhnhkdeiaa
/- Slices on their own, in regions that draw their order. -/
namespace Go.Proofs.Ytigmpdhnhkdeiaa
open Go Go.RowKit
theorem FrX.refl (lo : Nat) (w : World) (N : Gh) : FrX lo w N N w := .of ⟨Kept.refl _ _, fun i x hx hxo => .inr ⟨x, hx, hxo, rfl⟩, fun i r k hr hrk => .inr ⟨r, hr, hrk⟩, fun _ _ _ _ => rfl, Gh.le.refl _⟩ lo
theorem Xs.nil (lo : Nat) (N : Gh) (w : World) : Xs lo N w [] := ⟨fun x hx => (by cases hx), List.Pairwise.nil⟩
/-- A slice on its own that holds bytes. -/
def XB (x : XR) (l : List UInt8) : Prop := x.n = l.length ∧ x.tid = 5 ∧ x.k = l.length ∧ ∃ m, x.c = l.length + m ∧ x.cells = l.map B8 ++ (List.replicate m (zeroOf Try.prog 5)).flatten
def XL (X : List XR) (ls : List (List UInt8)) : Prop := X.length = ls.length ∧ ∀ i (h1 : i < X.length) (h2 : i < ls.length), XB X[i] ls[i]
theorem XL.last {X : List XR} {ls : List (List UInt8)} {x : XR} {l : List UInt8} (h : XL (X ++ [x]) (ls ++ [l])) : XL X ls ∧ XB x l := by
  have hl : X.length = ls.length := by have := h.1; simpa using this
  refine ⟨⟨hl, fun i h1 h2 => ?_⟩, ?_⟩
  · have := h.2 i (by simp; omega) (by simp; omega)
    rwa [List.getElem_append_left h1, List.getElem_append_left h2] at this
  · have := h.2 X.length (by simp) (by simp [hl])
    rw [List.getElem_append_right (Nat.le_refl _), List.getElem_append_right (by omega)] at this
    simpa using this
theorem XL.nil : XL [] [] := ⟨rfl, fun i h => (by cases h)⟩
theorem XB.w {x : XR} {l : List UInt8} (h : XB x l) : XW x := by
  obtain ⟨h1, _, _, m, h3, h4⟩ := h
  refine ⟨l, List.replicate m 0, ?_, h1, by rw [List.length_replicate]; exact h3⟩
  rw [h4, zero_u8, flat_z, List.map_append]
theorem VE.mono {P : Program} {f : FuncId} {args : List AV} {R R2 : List XR → List (Ty × AV) → List (TypeId × Nat) → AV → Prop} (h : VE P f args R) (hR : ∀ X bx rw res, R X bx rw res → R2 X bx rw res) : VE P f args R2 :=
  ⟨h.1, fun w N vs a b c => (h.2 w N vs a b c).mono fun e w' hp => by
    obtain ⟨X, bx', rw', res, g, v, h1, h2⟩ := hp
    exact ⟨X, bx', rw', res, g, v, hR _ _ _ _ h1, h2⟩⟩
theorem RelX.rel {P : Program} {w0 w : World} {N : Gh} {nt : Nat} {st : St} {X : List XR} {a : Act} (H : RelX w0.heap.size P w0 N nt st X a w) : Rel P w0 N nt st a w := by
  obtain ⟨g, HI, hB, hF, _⟩ := H
  exact ⟨g, ⟨HI.mem, hB.fr (Nat.le_refl _), HI.br, HI.fz, HI.wr, HI.wz⟩, hF⟩
section
variable {P : Program} {τ : Tab} {w0 w w1 w2 : World} {N N1 N2 : Gh} {g g1 gS : Gh} {st st' sq sq' : St} {nt : Nat} {a : Act} {lo : Nat} {X Y : List XR}
def RelXT (lo : Nat) (P : Program) (w0 : World) (N : Gh) (nt : Nat) (gS : Gh) (sq st : St) (X : List XR) (a : Act) (w : World) : Prop :=
  Mem gS w ∧ gS.rw = [] ∧ FR gS nt sq a ∧ BR gS sq.bx ∧ ∃ g, Inv P w g g st.bx st.fz st.rw w ∧ FrX lo w0 N g w ∧ FR g nt st a ∧ gS.le g ∧ Bs gS g ∧ Xs lo g w X
theorem RelXT.open_ (H : RelXT lo P w0 N nt gS sq st X a w) : ∃ N1, FrX lo w0 N N1 w ∧ Xs lo N1 w X ∧ RelT P w N1 nt gS sq st a w ∧ N1.bx.length = st.bx.length ∧ N1.rw.length = st.rw.length := by
  obtain ⟨hM, hrw, hFq, hBq, g, HI, hB, hF, hle, hbs, hX⟩ := H
  exact ⟨g, hB, hX, ⟨hM, hrw, hFq, hBq, g, HI, hF, hle, hbs⟩, HI.br.len, by rw [← HI.wr, List.length_map]⟩
theorem RelXT.close (hB : FrX lo w0 N N1 w1) (hX : Xs lo N1 w1 X) (H : RelT P w1 N1 nt gS sq st a w) : RelXT lo P w0 N nt gS sq st X a w := by
  obtain ⟨hM, hrw, hFq, hBq, g, HI, hF, hle, hbs⟩ := H
  exact ⟨hM, hrw, hFq, hBq, g, HI.self, hB.trans (.of HI.fr lo), hF, hle, hbs, hX.step HI⟩
theorem cut_keep {i k : Nat} (hrw : gS.rw = []) (hle : gS.le g) (hbs : Bs gS g) (hn : gS.bx.length ≤ i) : gS.le (g.cut i k) ∧ Bs gS (g.cut i k) := by
  have get : ∀ {j : Nat} {x y : Bx}, gS.bx[j]? = some x → g.bx[j]? = some y → (g.cut i k).bx[j]? = some y := fun {j x y} h1 h2 => by
    show (g.bx.take i)[j]? = _
    rw [List.getElem?_take, if_pos (Nat.lt_of_lt_of_le (List.getElem?_eq_some_iff.1 h1).1 hn)]; exact h2
  refine ⟨⟨hle.ro, fun j x hx => ?_, fun j r hr => by rw [hrw] at hr; simp at hr⟩, fun j x hx => ?_⟩
  · obtain ⟨y, h1, h2⟩ := hle.bx j x hx
    exact ⟨y, get hx h1, h2⟩
  · obtain ⟨y, h1, h2⟩ := hbs j x hx
    exact ⟨y, get hx h1, h2⟩
/-- Slots, boxes and rows are forgotten. -/
theorem RelX.to (H : RelX w0.heap.size P w0 N nt st X a w) (nb nr : Nat) (hM : N.bx.length ≤ nb ∧ N.rw.length ≤ nr) {t2 : List (Nat × Gd × AV)} {bx2 : List (Ty × AV)} {rw2 : List (TypeId × Nat)} {fz2 : List Nat} (hs : SubT t2 st.t) (hb : st.bx.take nb = bx2) (hr : st.rw.take nr = rw2) (hf : st.fz = fz2) (h1 : t2.all (fun p => low nb nr 4 p.2.2) = true) (h2 : bx2.all (fun x => low nb nr 4 x.2) = true) :
    RelX w0.heap.size P w0 N nt ⟨t2, bx2, fz2, rw2⟩ X a w := by
  subst hb hr hf
  obtain ⟨g, HI, hB, hF, hX⟩ := H
  have HI0 : Inv P w0 N g st.bx st.fz st.rw w := ⟨HI.mem, hB.fr (Nat.le_refl _), HI.br, HI.fz, HI.wr, HI.wz⟩
  have I1 := HI0.cut hM.1 hM.2 h2
  refine ⟨g.cut nb nr, I1.self, .of I1.fr _, ⟨hF.sz, hF.df, fun p hp hg => (hF.t p (hs.mem hp) hg).low_ (d := 3) (List.all_eq_true.1 h1 p hp), fun p hp hg => hF.u p (hs.mem hp) hg⟩, ⟨fun x hx => ?_, hX.un⟩⟩
  have h := hX.ok x hx
  refine ⟨h.le, h.nil, fun b hb => ⟨fun hh => (h.own b hb).1 ?_, (h.own b hb).2⟩⟩
  rcases hh with ⟨y, hy, h⟩ | ⟨s, hs, h⟩
  · exact .inl ⟨y, List.mem_of_mem_take hy, h⟩
  · exact .inr ⟨s, List.mem_of_mem_take hs, h⟩
end
end Go.Proofs.Ytigmpdhnhkdeiaa
/- Slices on their own that may be written: lent to a frame as a box that grows, and given back. -/
namespace Go.Proofs.Ytigmpdhnhkdeiaa
open Go Go.RowKit
/-- As Fr, but for blocks of which L holds. -/
structure FrZ (L : Nat → Prop) (w0 : World) (N g : Gh) (w : World) : Prop where
  os : w.os = w0.os
  tape : w.tape = w0.tape
  output : w.output = w0.output
  size : w0.heap.size ≤ w.heap.size
  block : ∀ k, k < w0.heap.size → ¬ L k → ¬ N.has k → w.heap[k]? = w0.heap[k]?
  bx : ∀ (i : Nat) (x : Bx), g.bx[i]? = some x → x.off = false → w0.heap.size ≤ x.blk ∨ ∃ y, N.bx[i]? = some y ∧ y.off = false ∧ y.blk = x.blk
  rw : ∀ (i : Nat) (r : Rw) (k : Nat), g.rw[i]? = some r → r.v.ownBlock = some k → w0.heap.size ≤ k ∨ ∃ s, N.rw[i]? = some s ∧ s.v.ownBlock = some k
  ro : ∀ b, b < w0.heap.size → ¬ L b → ¬ N.has b → ∀ o, g.ro b o = N.ro b o
  le : N.le g
theorem FrZ.of {w0 w : World} {N g : Gh} (h : Fr w0 N g w) (L : Nat → Prop) : FrZ L w0 N g w := ⟨h.kept.os, h.kept.tape, h.kept.output, h.kept.size, fun k hk _ hn => h.kept.block k hk hn, h.bx, h.rw, fun b hb _ hn => h.ro b hb hn, h.le⟩
theorem FrZ.fr {w0 w : World} {N g : Gh} {L : Nat → Prop} (h : FrZ L w0 N g w) (hL : ∀ b, L b → w0.heap.size ≤ b) : Fr w0 N g w := ⟨⟨h.os, h.tape, h.output, h.size, fun k hk hn => h.block k hk (fun e => by have := hL k e; omega) hn⟩, h.bx, h.rw, fun b hb hn => h.ro b hb (fun e => by have := hL b e; omega) hn, h.le⟩
theorem FrZ.back {w0 w : World} {N g : Gh} {L : Nat → Prop} (h : FrZ L w0 N g w) {b : Nat} (hb : b < w0.heap.size) (hh : g.has b) : N.has b := by
  rcases hh with ⟨y, hy, hyo, he⟩ | ⟨s, hr, he⟩
  · obtain ⟨i, hi⟩ := List.getElem?_of_mem hy
    rcases h.bx i y hi hyo with h3 | ⟨z, h3, h4, h5⟩
    · omega
    · exact .inl ⟨z, List.mem_of_getElem? h3, h4, h5.trans he⟩
  · obtain ⟨i, hi⟩ := List.getElem?_of_mem hr
    rcases h.rw i s b hi he with h3 | ⟨z, h3, h4⟩
    · omega
    · exact .inr ⟨z, List.mem_of_getElem? h3, h4⟩
theorem FrZ.trans {w0 w1 w : World} {N N1 g : Gh} {L : Nat → Prop} (h : FrZ L w0 N N1 w1) (k : FrZ L w1 N1 g w) : FrZ L w0 N g w := by
  have hs := h.size
  refine ⟨k.os.trans h.os, k.tape.trans h.tape, k.output.trans h.output, Nat.le_trans h.size k.size, fun b hb hl hn => (k.block b (by omega) hl (fun hh => hn (h.back hb hh))).trans (h.block b hb hl hn), fun i x hx hxo => ?_, fun i r b hr hrb => ?_, fun b hb hl hn o => (k.ro b (by omega) hl (fun hh => hn (h.back hb hh)) o).trans (h.ro b hb hl hn o), h.le.trans k.le⟩
  · rcases k.bx i x hx hxo with h1 | ⟨y, h1, h2, h3⟩
    · exact .inl (by omega)
    · rw [← h3]; exact h.bx i y h1 h2
  · rcases k.rw i r b hr hrb with h1 | ⟨s, h1, h2⟩
    · exact .inl (by omega)
    · exact h.rw i s b h1 h2
/-- A slice on its own of which nothing is read-only. -/
structure XOkF (L : Nat → Prop) (g : Gh) (w : World) (x : XR) : Prop where
  le : x.n ≤ x.c ∧ x.c ≤ maxLen
  nil : x.A = none → x.c = 0
  own : ∀ b, x.A = some b → ¬ g.has b ∧ L b ∧ Blk w b x.tid x.cells.toArray ∧ ∀ o, g.ro b o = none
structure XsF (L : Nat → Prop) (g : Gh) (w : World) (X : List XR) : Prop where
  ok : ∀ x ∈ X, XOkF L g w x
  un : XApart X
/-- A slice on its own holds elements. -/
structure XH (x : XR) (e : TypeId) (T : Ty) (es : List AV) : Prop where
  n : x.n = es.length
  tid : x.tid = e
  k : x.k = 0
  pos : 0 < T.size
  cells : ∃ F sp, x.cells = (List.range es.length).flatMap F ++ sp ∧ x.cells.length = x.c * T.size ∧ (∀ u ∈ sp, u.oneCell' = true) ∧ ∀ (g : Gh) k (h : k < es.length), RC g T es[k] (F k)
section
variable {P : Program} {τ : Tab} {w0 w w1 w2 : World} {N N1 N2 : Gh} {g g1 gS : Gh} {st st' sq sq' : St} {nt : Nat} {a : Act} {L : Nat → Prop} {X Y X1 X2 : List XR}
theorem XOkF.step {x : XR} (h : XOkF L N1 w1 x) {bx : List (Ty × AV)} {fz : List Nat} {rw : List (TypeId × Nat)} (HI : Inv P w1 N1 g bx fz rw w) : XOkF L g w x := by
  have hB := FrZ.of HI.fr L
  refine ⟨h.le, h.nil, fun b hb => ?_⟩
  obtain ⟨h1, h2, h3, h4⟩ := h.own b hb
  exact ⟨fun hh => h1 (hB.back h3.lt hh), h2, h3.kept HI.fr.kept h1, fun o => by rw [HI.fr.ro b h3.lt h1 o]; exact h4 o⟩
theorem XsF.step (h : XsF L N1 w1 X) {bx : List (Ty × AV)} {fz : List Nat} {rw : List (TypeId × Nat)} (HI : Inv P w1 N1 g bx fz rw w) : XsF L g w X := ⟨fun x hx => (h.ok x hx).step HI, h.un⟩
/-- A frame, and slices on their own that may be written. -/
def RelY (L : Nat → Prop) (P : Program) (w0 : World) (N : Gh) (nt : Nat) (st : St) (X : List XR) (a : Act) (w : World) : Prop :=
  ∃ g, Inv P w g g st.bx st.fz st.rw w ∧ FrZ L w0 N g w ∧ FR g nt st a ∧ XsF L g w X
theorem RelY.open_ (H : RelY L P w0 N nt st X a w) : ∃ N1, FrZ L w0 N N1 w ∧ XsF L N1 w X ∧ Rel P w N1 nt st a w ∧ N1.bx.length = st.bx.length ∧ N1.rw.length = st.rw.length := by
  obtain ⟨g, HI, hB, hF, hX⟩ := H
  exact ⟨g, hB, hX, ⟨g, HI, hF⟩, HI.br.len, by rw [← HI.wr, List.length_map]⟩
theorem RelY.close (hB : FrZ L w0 N N1 w1) (hX : XsF L N1 w1 X) (H : Rel P w1 N1 nt st a w) : RelY L P w0 N nt st X a w := by
  obtain ⟨g, HI, hF⟩ := H
  exact ⟨g, HI.self, hB.trans (.of HI.fr L), hF, hX.step HI⟩
def RelYT (L : Nat → Prop) (P : Program) (w0 : World) (N : Gh) (nt : Nat) (gS : Gh) (sq st : St) (X : List XR) (a : Act) (w : World) : Prop :=
  Mem gS w ∧ gS.rw = [] ∧ FR gS nt sq a ∧ BR gS sq.bx ∧ ∃ g, Inv P w g g st.bx st.fz st.rw w ∧ FrZ L w0 N g w ∧ FR g nt st a ∧ gS.le g ∧ Bs gS g ∧ XsF L g w X
theorem RelYT.open_ (H : RelYT L P w0 N nt gS sq st X a w) : ∃ N1, FrZ L w0 N N1 w ∧ XsF L N1 w X ∧ RelT P w N1 nt gS sq st a w ∧ N1.bx.length = st.bx.length ∧ N1.rw.length = st.rw.length := by
  obtain ⟨hM, hrw, hFq, hBq, g, HI, hB, hF, hle, hbs, hX⟩ := H
  exact ⟨g, hB, hX, ⟨hM, hrw, hFq, hBq, g, HI, hF, hle, hbs⟩, HI.br.len, by rw [← HI.wr, List.length_map]⟩
theorem RelYT.close (hB : FrZ L w0 N N1 w1) (hX : XsF L N1 w1 X) (H : RelT P w1 N1 nt gS sq st a w) : RelYT L P w0 N nt gS sq st X a w := by
  obtain ⟨hM, hrw, hFq, hBq, g, HI, hF, hle, hbs⟩ := H
  exact ⟨hM, hrw, hFq, hBq, g, HI.self, hB.trans (.of HI.fr L), hF, hle, hbs, hX.step HI⟩
theorem nfY {s2 : St} (H : RelY L P w0 N nt st X a w) (h : st = s2 := by exact nfs) : RelY L P w0 N nt s2 X a w := h ▸ H
/-- The box that a slice on its own is. -/
def XR.box (x : XR) (e : TypeId) (T : Ty) : Bx := ⟨x.A.getD 0, e, .vc e T, x.cells, false, 0, x.c, x.A.isNone, none⟩
/-- One slice is lent: what is known while it is. -/
structure Lent1 (L : Nat → Prop) (w0 : World) (N g1 : Gh) (w1 : World) (X1 X2 : List XR) (y : Bx) : Prop where
  fr : FrZ L w0 N g1 w1
  xs : XsF L g1 w1 (X1 ++ X2)
  own : y.off = false → L y.blk ∧ ¬ g1.has y.blk ∧ (∀ x ∈ X1 ++ X2, x.A ≠ some y.blk) ∧ y.blk < w1.heap.size
def Gh.push (g : Gh) (y : Bx) : Gh := ⟨g.ro, g.bx ++ [y], g.rw⟩
theorem Gh.le_push (g : Gh) (y : Bx) : g.le (g.push y) := ⟨fun _ _ _ h => h, fun i z hz => ⟨z, by show (g.bx ++ [y])[i]? = some z; rw [List.getElem?_append_left (List.getElem?_eq_some_iff.1 hz).1]; exact hz, z.same⟩, fun _ r h => ⟨r, h, rfl, rfl, rfl, Nat.le_refl _, fun _ => rfl⟩⟩
theorem Gh.bs_push (g : Gh) (y : Bx) : Bs g (g.push y) := fun i z hz => ⟨z, by show (g.bx ++ [y])[i]? = some z; rw [List.getElem?_append_left (List.getElem?_eq_some_iff.1 hz).1]; exact hz, rfl, rfl, rfl, rfl, rfl⟩
theorem push_has {g : Gh} {y : Bx} {b : Nat} (h : (g.push y).has b) : g.has b ∨ (y.off = false ∧ y.blk = b) := by
  rcases h with ⟨z, hz, h1, h2⟩ | ⟨s, hs, h⟩
  · rcases List.mem_append.1 hz with hz | hz
    · exact .inl (.inl ⟨z, hz, h1, h2⟩)
    · obtain rfl := List.mem_singleton.1 hz; exact .inr ⟨h1, h2⟩
  · exact .inl (.inr ⟨s, hs, h⟩)
theorem lend_inv {x : XR} {e : TypeId} {T : Ty} {es : List AV} (HI : Inv P w g g st.bx st.fz st.rw w) (hB : FrZ L w0 N g w) (hX : XsF L g w (X1 ++ x :: X2)) (hx : XH x e T es) :
    Lent1 L w0 N g w X1 X2 (x.box e T) ∧ Inv P w (g.push (x.box e T)) (g.push (x.box e T)) (st.bx ++ [(.vc e T, .vc 0 es)]) st.fz st.rw w ∧ RV (g.push (x.box e T)) (.vw st.bx.length 0 es.length) x.v := by
  obtain ⟨F, sp, c1, c2, c3, c4⟩ := hx.cells
  have hxm : x ∈ X1 ++ x :: X2 := List.mem_append_right _ List.mem_cons_self
  have hok := hX.ok x hxm
  have hnil : x.A = none → x.cells = [] := fun h => by
    have := hok.nil h
    apply List.length_eq_zero_iff.1
    rw [c2, this, Nat.zero_mul]
  have hsub : ∀ z ∈ X1 ++ X2, z ∈ X1 ++ x :: X2 := fun z hz => by
    rcases List.mem_append.1 hz with h | h
    · exact List.mem_append_left _ h
    · exact List.mem_append_right _ (List.mem_cons_of_mem _ h)
  have hun := hX.un
  unfold XApart at hun
  rw [List.pairwise_append] at hun
  obtain ⟨u1, u2, u3⟩ := hun
  rw [List.pairwise_cons] at u2
  have hap : ∀ z ∈ X1 ++ X2, x.A = none ∨ z.A ≠ x.A := fun z hz => by
    rcases List.mem_append.1 hz with h | h
    · rcases u3 z h x List.mem_cons_self with h1 | h1
      · cases hA : x.A with
        | none => exact .inl rfl
        | some b => exact .inr (by rw [h1]; rintro ⟨⟩)
      · exact .inr h1
    · rcases u2.1 z h with h1 | h1
      · exact .inl h1
      · exact .inr fun e2 => h1 e2.symm
  have hown : (x.box e T).off = false → ∃ b, x.A = some b ∧ (x.box e T).blk = b := fun h => by
    have h' : x.A.isNone = false := h
    cases hA : x.A with
    | none => rw [hA] at h'; cases h'
    | some b => exact ⟨b, rfl, by show x.A.getD 0 = b; rw [hA]; rfl⟩
  have hfree : (x.box e T).off = false → ¬ g.has (x.box e T).blk := fun h => by
    obtain ⟨b, h1, h2⟩ := hown h
    rw [h2]; exact (hok.own b h1).1
  have hL : Lent1 L w0 N g w X1 X2 (x.box e T) := by
    refine ⟨hB, ⟨fun z hz => hX.ok z (hsub z hz), ?_⟩, fun h => ?_⟩
    · unfold XApart
      rw [List.pairwise_append]
      exact ⟨u1, u2.2, fun z hz y hy => u3 z hz y (List.mem_cons_of_mem _ hy)⟩
    · obtain ⟨b, h1, h2⟩ := hown h
      rw [h2]
      obtain ⟨o1, o2, o3, _⟩ := hok.own b h1
      refine ⟨o2, o1, fun z hz => ?_, o3.lt⟩
      rcases hap z hz with h3 | h3
      · rw [h1] at h3; cases h3
      · rw [← h1]; exact h3
  have hnew : (g.push (x.box e T)).bx[st.bx.length]? = some (x.box e T) := by
    show (g.bx ++ [x.box e T])[st.bx.length]? = _
    rw [← HI.br.len]; simp
  have old : ∀ i y, (g.push (x.box e T)).bx[i]? = some y → g.bx[i]? = some y ∨ (i = g.bx.length ∧ y = x.box e T) := fun i y hy => getElem?_snoc hy
  have hle := g.le_push (x.box e T)
  have hty : (x.box e T).ty = .vc e T := rfl
  refine ⟨hL, ⟨⟨HI.mem.ro, fun i y hy hyo => ?_, fun i y hy hyo => ?_, fun i y hy hyo => ?_, HI.mem.rw, fun i y hy hf => ?_, fun i y hy hyo hf => ?_, fun i j y z hy hz hyo hzo he => ?_, HI.mem.rro, HI.mem.rwo, fun i j y r hy hr hyo => ?_, HI.mem.rr⟩,
    ⟨Kept.refl _ _, fun i y hy hyo => .inr ⟨y, hy, hyo, rfl⟩, fun i r k hr hrk => .inr ⟨r, hr, hrk⟩, fun _ _ _ _ => rfl, Gh.le.refl _⟩, ⟨?_, fun i T' a' hi => ?_⟩, fun i y hy hf => ?_, HI.wr, HI.wz⟩, ?_⟩
  · rcases old i y hy with h1 | ⟨_, rfl⟩
    · exact HI.mem.bx i y h1 hyo
    · obtain ⟨b, h1, h2⟩ := hown hyo
      obtain ⟨_, _, o3, _⟩ := hok.own b h1
      refine .of rfl ?_
      rw [h2, ← hx.tid]; exact o3
  · rcases old i y hy with h1 | ⟨_, rfl⟩
    · exact HI.mem.offc i y h1 hyo
    · refine hnil ?_
      have : x.A.isNone = true := hyo
      cases hA : x.A with
      | none => rfl
      | some b => rw [hA] at this; cases this
  · rcases old i y hy with h1 | ⟨_, rfl⟩
    · exact HI.mem.mpc i y h1 hyo
    · cases hyo
  · rcases old i y hy with h1 | ⟨_, rfl⟩
    · exact HI.mem.fro i y h1 hf
    · cases hf
  · rcases old i y hy with h1 | ⟨_, rfl⟩
    · exact HI.mem.bro i y h1 hyo hf
    · obtain ⟨b, h1, h2⟩ := hown hyo
      rw [h2]; exact (hok.own b h1).2.2.2
  · rcases old i y hy with h1 | ⟨e1, rfl⟩
    · rcases old j z hz with h2 | ⟨e2, rfl⟩
      · exact HI.mem.bb i j y z h1 h2 hyo hzo he
      · exact absurd (.inl ⟨y, List.mem_of_getElem? h1, hyo, he⟩) (hfree hzo)
    · rcases old j z hz with h2 | ⟨e2, rfl⟩
      · exact absurd (.inl ⟨z, List.mem_of_getElem? h2, hzo, he.symm⟩) (hfree hyo)
      · rw [e1, e2]
  · rcases old i y hy with h1 | ⟨_, rfl⟩
    · exact HI.mem.rb i j y r h1 hr hyo
    · intro h; exact hfree hyo (.inr ⟨r, List.mem_of_getElem? hr, h⟩)
  · show (g.bx ++ [_]).length = _; rw [List.length_append, List.length_append, HI.br.len]; rfl
  · rcases getElem?_snoc hi with h1 | ⟨e1, h1⟩
    · obtain ⟨y, q1, q2, q3⟩ := HI.br.at_ i T' a' h1
      exact ⟨y, by show (g.bx ++ [_])[i]? = _; rw [List.getElem?_append_left (List.getElem?_eq_some_iff.1 q1).1]; exact q1, q2, q3.mono hle⟩
    · injection h1 with h1 h2
      subst h1 h2 e1
      refine ⟨_, hnew, rfl, .inr (.inl ⟨T, 0, es, F, sp, ⟨e, rfl, rfl⟩, rfl, rfl, rfl, hx.pos, ⟨hok.le.2, fun h => ?_⟩, c1, c2, c3, fun k hk => c4 _ k hk⟩)⟩
      have : x.A.isNone = true := h
      refine hok.nil ?_
      cases hA : x.A with
      | none => rfl
      | some b => rw [hA] at this; cases this
  · rcases old i y hy with h1 | ⟨_, rfl⟩
    · exact HI.fz i y h1 hf
    · cases hf
  · have hvw := RC.vw (g := g.push (x.box e T)) (i := st.bx.length) (γ := 0) (n := es.length) (c := x.c) (e := e) (x := x.box e T) (T := T) (A := x.A.map fun b => ⟨b, 0, none⟩) hnew rfl (Nat.le_refl _) (by rw [← hx.n]; exact hok.le.1) hok.le.2 fun _ => ⟨rfl, by
      cases hA : x.A with
      | none => exact .inl ⟨by show x.A.isNone = true; rw [hA]; rfl, rfl⟩
      | some b => exact .inr ⟨by show x.A.isNone = false; rw [hA]; rfl, by show some (⟨b, 0, none⟩ : Addr) = some ⟨x.A.getD 0, 0, none⟩; rw [hA]; rfl⟩⟩
    have := hvw.rv1
    rw [← hx.n] at this ⊢
    exact this.rv
theorem v_lend {x : XR} {e : TypeId} {T : Ty} {es : List AV} (H : RelY L P w0 N nt st (X1 ++ x :: X2) a w) (hx : XH x e T es) (d : Nat) (hd : find d st.t = some (none, .v x.v)) :
    ∃ g1, Lent1 L w0 N g1 w X1 X2 (x.box e T) ∧ g1.bx.length = st.bx.length ∧ g1.rw.length = st.rw.length ∧ Rel P w (g1.push (x.box e T)) nt ⟨nilT d (.vw st.bx.length 0 es.length) st.t, st.bx ++ [(.vc e T, .vc 0 es)], st.fz, st.rw⟩ a w := by
  obtain ⟨g, HI, hB, hF, hX⟩ := H
  obtain ⟨h1, h2, h3⟩ := lend_inv HI hB hX hx
  have h9 := hF.mono (g.le_push (x.box e T))
  refine ⟨g, h1, HI.br.len, by rw [← HI.wr, List.length_map], _, h2, h9.sz, h9.df, fun p hp hg => ?_, fun p hp hg => by rcases nilT_mem hp with h | h; (subst h; exact absurd trivial hg); exact h9.u p h hg⟩
  rcases nilT_mem hp with h | h
  · subst h
    have := hF.t _ (find_mem hd) trivial
    have e1 : a.tmps.getD d undef = x.v := this.v_inv
    show RV _ _ (a.tmps.getD d undef)
    rw [e1]; exact h3
  · exact h9.t p h hg
theorem v_lendT {x : XR} {e : TypeId} {T : Ty} {es : List AV} (H : RelYT L P w0 N nt gS sq st (X1 ++ x :: X2) a w) (hx : XH x e T es) (d : Nat) (hd : find d st.t = some (none, .v x.v)) :
    ∃ g1, Lent1 L w0 N g1 w X1 X2 (x.box e T) ∧ g1.bx.length = st.bx.length ∧ g1.rw.length = st.rw.length ∧ RelT P w (g1.push (x.box e T)) nt gS sq ⟨nilT d (.vw st.bx.length 0 es.length) st.t, st.bx ++ [(.vc e T, .vc 0 es)], st.fz, st.rw⟩ a w := by
  obtain ⟨hM, hrw, hFq, hBq, g, HI, hB, hF, hle, hbs, hX⟩ := H
  obtain ⟨h1, h2, h3⟩ := lend_inv HI hB hX hx
  have h9 := hF.mono (g.le_push (x.box e T))
  refine ⟨g, h1, HI.br.len, by rw [← HI.wr, List.length_map], hM, hrw, hFq, hBq, _, h2, ⟨h9.sz, h9.df, fun p hp hg => ?_, fun p hp hg => by rcases nilT_mem hp with h | h; (subst h; exact absurd trivial hg); exact h9.u p h hg⟩, hle.trans (g.le_push _), hbs.trans (g.bs_push _)⟩
  rcases nilT_mem hp with h | h
  · subst h
    have := hF.t _ (find_mem hd) trivial
    have e1 : a.tmps.getD d undef = x.v := this.v_inv
    show RV _ _ (a.tmps.getD d undef)
    rw [e1]; exact h3
  · exact h9.t p h hg
theorem give_inv {y : Bx} {e : TypeId} {T : Ty} {es : List AV} {γ : Nat} {bx : List (Ty × AV)} {fz : List Nat} {rw_ : List (TypeId × Nat)} (hlo : ∀ b, w0.heap.size ≤ b → L b) (hL : Lent1 L w0 N g1 w1 X1 X2 y) (hk : g1.bx.length = bx.length)
    (HI : Inv P w1 (g1.push y) g (bx ++ [(.vc e T, .vc γ es)]) fz rw_ w) (hnf : bx.length ∉ fz) (hfl : es.all (flat 3) = true) (hlow : bx.all (fun x => low bx.length rw_.length 4 x.2) = true) :
    ∃ x : XR, XH x e T es ∧ Inv P w (g.cut bx.length rw_.length) (g.cut bx.length rw_.length) bx fz rw_ w ∧ FrZ L w0 N (g.cut bx.length rw_.length) w ∧ XsF L (g.cut bx.length rw_.length) w (X1 ++ x :: X2) ∧ ∀ n u, n = es.length → RV g (.vw bx.length γ n) u → u = x.v := by
  have hgl : g.bx.length = bx.length + 1 := by rw [HI.br.len, List.length_append]; rfl
  have hrl : g.rw.length = rw_.length := by rw [← HI.wr, List.length_map]
  obtain ⟨y', hy', hyT, hbc⟩ := HI.br.at_ bx.length _ _ (by rw [List.getElem?_append_right (Nat.le_refl _), Nat.sub_self]; rfl)
  obtain ⟨T2, F, sp, ⟨e2, he2, htid⟩, hmp, hgen, h0, hcm, hcs, hcl, hsp, hFk⟩ := hbc.vc_inv
  injection he2 with he20 he2; subst he20 he2
  have hfz : y'.fz = false := by
    cases h : y'.fz with
    | false => rfl
    | true => exact absurd (HI.fz _ _ hy' h) hnf
  have hs1 : w0.heap.size ≤ w1.heap.size := hL.fr.size
  have hs2 : w1.heap.size ≤ w.heap.size := HI.fr.kept.size
  have hBX := FrZ.of HI.fr L
  -- what was not lent stays
  have hout : ∀ b, b < w1.heap.size → ¬ g1.has b → (y.off = false → y.blk ≠ b) → ¬ (g1.push y).has b := fun b hb h1 h2 hh => by
    rcases push_has hh with h | ⟨h3, h4⟩
    · exact h1 h
    · exact h2 h3 h4
  have hpk : (g1.push y).bx[bx.length]? = some y := by show (g1.bx ++ [y])[bx.length]? = _; rw [← hk]; simp
  have hyb : y'.off = false → w1.heap.size ≤ y'.blk ∨ (y.off = false ∧ y.blk = y'.blk) := fun h => by
    rcases HI.fr.bx _ _ hy' h with h1 | ⟨z, h1, h2, h3⟩
    · exact .inl h1
    · rw [hpk] at h1; injection h1 with h1; subst h1; exact .inr ⟨h2, h3⟩
  have hylo : y'.off = false → L y'.blk := fun h => by
    rcases hyb h with h1 | ⟨h1, h2⟩
    · exact hlo _ (by omega)
    · rw [← h2]; exact (hL.own h1).1
  have hcbx : ∀ {i : Nat} {x : Bx}, (g.cut bx.length rw_.length).bx[i]? = some x → i < bx.length ∧ g.bx[i]? = some x := fun {i x} hx => by
    have : (g.bx.take bx.length)[i]? = some x := hx
    rw [List.getElem?_take] at this; split at this; exact ⟨by assumption, this⟩; cases this
  have hcrw : ∀ {i : Nat} {x : Rw}, (g.cut bx.length rw_.length).rw[i]? = some x → g.rw[i]? = some x := fun {i x} hx => by
    have : (g.rw.take rw_.length)[i]? = some x := hx
    rw [List.getElem?_take] at this; split at this; exact this; cases this
  have hchas : ∀ b, (g.cut bx.length rw_.length).has b → g.has b := fun b hh => by
    rcases hh with ⟨z, hz, h⟩ | ⟨s, hs, h⟩
    · exact .inl ⟨z, List.mem_of_mem_take hz, h⟩
    · exact .inr ⟨s, List.mem_of_mem_take hs, h⟩
  have hcut := (HI.loose.cut (st := ⟨[], bx ++ [(.vc e T, .vc γ es)], fz, rw_⟩) (nb := bx.length) (nr := rw_.length) (Nat.zero_le _) (Nat.zero_le _) (by rw [List.take_left']; exact hlow; rfl)).self
  have e1 : (bx ++ [((Ty.vc e T, AV.vc γ es) : Ty × AV)]).take bx.length = bx := List.take_left' rfl
  have e2 : rw_.take rw_.length = rw_ := List.take_length
  simp only [e1, e2] at hcut
  have hFl : ∀ k (h : k < es.length), (F k).length = T.size := fun k h => (hFk k h).size
  have hfm : ((List.range es.length).flatMap F).length = es.length * T.size := by
    rw [List.length_flatMap]
    have : (List.range es.length).map (fun k => (F k).length) = (List.range es.length).map (fun _ => T.size) := List.map_congr_left fun k hk => hFl k (List.mem_range.1 hk)
    rw [this, List.map_const', List.length_range, List.sum_replicate_nat]
  have hcap : es.length ≤ y'.cap := by
    have h1 := congrArg List.length hcs
    rw [List.length_append, hfm, hcl] at h1
    exact Nat.le_of_mul_le_mul_right (by omega) h0
  let A : Option Nat := if y'.off then none else some y'.blk
  have hA : ∀ b, A = some b → y'.off = false ∧ y'.blk = b := fun b hb => by
    cases ho : y'.off with
    | true => simp [A, ho] at hb
    | false => simp [A, ho] at hb; exact ⟨rfl, hb⟩
  have hAn : A = none → y'.off = true := fun h => by
    cases ho : y'.off with
    | true => rfl
    | false => simp [A, ho] at h
  have hoth : ∀ z ∈ X1 ++ X2, XOkF L (g.cut bx.length rw_.length) w z ∧ (z.A = none ∨ z.A ≠ A) := fun z hz => by
    have hok := hL.xs.ok z hz
    have key : ∀ b, z.A = some b → b < w1.heap.size ∧ ¬ (g1.push y).has b := fun b hb => by
      obtain ⟨o1, o2, o3, _⟩ := hok.own b hb
      refine ⟨o3.lt, hout b o3.lt o1 fun h1 h2 => ?_⟩
      exact (hL.own h1).2.2.1 z hz (by rw [h2]; exact hb)
    refine ⟨⟨hok.le, hok.nil, fun b hb => ?_⟩, ?_⟩
    · obtain ⟨k1, k2⟩ := key b hb
      obtain ⟨o1, o2, o3, o4⟩ := hok.own b hb
      refine ⟨fun hh => k2 (hBX.back k1 (hchas b hh)), o2, o3.kept HI.fr.kept k2, fun o => ?_⟩
      show g.ro b o = none
      rw [HI.fr.ro b k1 k2 o]; exact o4 o
    · cases hzA : z.A with
      | none => exact .inl rfl
      | some b =>
        refine .inr fun e3 => ?_
        obtain ⟨k1, k2⟩ := key b hzA
        obtain ⟨q1, q2⟩ := hA b e3.symm
        rcases hyb q1 with h | ⟨h, h'⟩
        · omega
        · exact (hL.own h).2.2.1 z hz (by rw [h', q2]; exact hzA)
  have hnew : XOkF L (g.cut bx.length rw_.length) w ⟨A, es.length, y'.cap, e, y'.cells, 0⟩ := by
    refine ⟨⟨hcap, hcm.1⟩, fun h => hcm.2 (hAn h), fun b hb => ?_⟩
    obtain ⟨q1, q2⟩ := hA b hb
    refine ⟨fun hh => ?_, by rw [← q2]; exact hylo q1, ?_, fun o => ?_⟩
    · rcases hh with ⟨z, hz, hzo, he⟩ | ⟨s, hs, he⟩
      · obtain ⟨i, hi⟩ := List.getElem?_of_mem hz
        obtain ⟨i1, i2⟩ := hcbx hi
        have := HI.mem.bb i bx.length z y' i2 hy' hzo q1 (by rw [he, q2])
        omega
      · obtain ⟨i, hi⟩ := List.getElem?_of_mem hs
        exact HI.mem.rb bx.length i y' s hy' (hcrw hi) q1 (by rw [q2]; exact he)
    · have := (HI.mem.bx _ _ hy' q1).c hmp
      rw [← q2, ← htid]; exact this
    · show g.ro b o = none
      rw [← q2]; exact HI.mem.bro _ _ hy' q1 hfz o
  refine ⟨⟨A, es.length, y'.cap, e, y'.cells, 0⟩, ⟨rfl, rfl, rfl, h0, F, sp, hcs, hcl, hsp, fun g k h => ?_⟩, hcut, ⟨?_, ?_, ?_, by omega, fun k hk0 hkl hkn => ?_, fun i x hx hxo => ?_, fun i r k hr hrk => ?_, fun b hb hbl hbn o => ?_, ?_⟩, ⟨fun z hz => ?_, ?_⟩, fun n u hn hu => ?_⟩
  · refine (hFk k h).flat_ (d := 3) ?_
    rw [List.all_eq_true] at hfl
    exact hfl _ (List.getElem_mem h)
  · exact HI.fr.kept.os.trans hL.fr.os
  · exact HI.fr.kept.tape.trans hL.fr.tape
  · exact HI.fr.kept.output.trans hL.fr.output
  · have h1 : ¬ (g1.push y).has k := hout k (by omega) (fun hh => hkn (hL.fr.back hk0 hh)) fun q1 q2 => hkl (by rw [← q2]; exact (hL.own q1).1)
    exact (HI.fr.kept.block k (by omega) h1).trans (hL.fr.block k hk0 hkl hkn)
  · obtain ⟨i1, i2⟩ := hcbx hx
    rcases HI.fr.bx i x i2 hxo with h1 | ⟨z, h1, h2, h3⟩
    · exact .inl (by omega)
    · have h4 : g1.bx[i]? = some z := by
        have : (g1.bx ++ [y])[i]? = some z := h1
        rwa [List.getElem?_append_left (by omega)] at this
      rw [← h3]; exact hL.fr.bx i z h4 h2
  · rcases HI.fr.rw i r k (hcrw hr) hrk with h1 | ⟨s, h1, h2⟩
    · exact .inl (by omega)
    · exact hL.fr.rw i s k h1 h2
  · have h1 : ¬ (g1.push y).has b := hout b (by omega) (fun hh => hbn (hL.fr.back hb hh)) fun q1 q2 => hbl (by rw [← q2]; exact (hL.own q1).1)
    exact (HI.fr.ro b (by omega) h1 o).trans (hL.fr.ro b hb hbl hbn o)
  · have hle := hL.fr.le.trans ((g1.le_push y).trans HI.fr.le)
    refine ⟨hle.ro, fun i x hx => ?_, fun i r hr => ?_⟩
    · obtain ⟨x', q1, q2⟩ := hle.bx i x hx
      obtain ⟨x2, p1, _⟩ := hL.fr.le.bx i x hx
      refine ⟨x', ?_, q2⟩
      show (g.bx.take bx.length)[i]? = _
      rw [List.getElem?_take, if_pos (by rw [← hk]; exact (List.getElem?_eq_some_iff.1 p1).1)]; exact q1
    · obtain ⟨x', q1, q2⟩ := hle.rw i r hr
      refine ⟨x', ?_, q2⟩
      show (g.rw.take rw_.length)[i]? = _
      rw [List.getElem?_take, if_pos (by rw [← hrl]; exact (List.getElem?_eq_some_iff.1 q1).1)]; exact q1
  · rcases List.mem_append.1 hz with hz | hz
    · exact (hoth z (List.mem_append_left _ hz)).1
    · rcases List.mem_cons.1 hz with rfl | hz
      · exact hnew
      · exact (hoth z (List.mem_append_right _ hz)).1
  · have hu := hL.xs.un
    unfold XApart at hu ⊢
    rw [List.pairwise_append] at hu ⊢
    obtain ⟨u1, u2, u3⟩ := hu
    refine ⟨u1, List.pairwise_cons.2 ⟨fun z hz => ?_, u2⟩, fun z hz q hq => ?_⟩
    · have := (hoth z (List.mem_append_right _ hz)).2
      show A = none ∨ A ≠ z.A
      rcases this with h | h
      · cases hA2 : A with
        | none => exact .inl rfl
        | some b => exact .inr (by rw [h]; rintro ⟨⟩)
      · exact .inr fun e3 => h e3.symm
    · rcases List.mem_cons.1 hq with rfl | hq
      · exact (hoth z (List.mem_append_left _ hz)).2
      · exact u3 z hz q hq
  · subst hn
    obtain ⟨_, y2, e3, T3, A2, c, hval, hy2, hty2, hle2, hnc, hm2, hxx⟩ := hu.vw_inv.vw_inv
    rw [hy'] at hy2; injection hy2 with hy2; subst hy2
    injection hval with hval
    obtain ⟨hcc, hAA⟩ := hxx hgen
    rw [hval, hcc]
    show _ = Value.slice (A.map fun b => ⟨b, 0, none⟩) es.length y'.cap
    rcases hAA with ⟨h1, h2⟩ | ⟨h1, h2⟩
    · rw [h2]; simp [A, h1]
    · rw [h2]; simp [A, h1]
theorem v_giveT {y : Bx} {e : TypeId} {T : Ty} {es : List AV} {γ : Nat} {bx : List (Ty × AV)} {fz : List Nat} {rw_ : List (TypeId × Nat)} {t : List (Nat × Gd × AV)} (hlo : ∀ b, w0.heap.size ≤ b → L b) (hL : Lent1 L w0 N g1 w1 X1 X2 y) (hk : g1.bx.length = bx.length)
    (H : RelT P w1 (g1.push y) nt gS sq ⟨t, bx ++ [(.vc e T, .vc γ es)], fz, rw_⟩ a w) (ks : List Nat) (d n : Nat) (hn : n = es.length) (hd : find d t = some (none, .vw bx.length γ n)) (hnf : fz.contains bx.length = false) (hfl : es.all (flat 3) = true) (hlow : bx.all (fun x => low bx.length rw_.length 4 x.2) = true) (h1 : keepT ks bx.length rw_.length t = true) (hq : sq.bx.length ≤ bx.length) :
    ∃ x : XR, XH x e T es ∧ RelYT L P w0 N nt gS sq ⟨(d, none, .v x.v) :: t.filter (fun p => ks.contains p.1), bx, fz, rw_⟩ (X1 ++ x :: X2) a w := by
  obtain ⟨hM, hrw, hFq, hBq, g, HI, hF, hle, hbs⟩ := H
  obtain ⟨x, q1, q2, q3, q4, q5⟩ := give_inv hlo hL hk HI (by intro h; rw [List.contains_iff_mem.2 h] at hnf; cases hnf) hfl hlow
  obtain ⟨c1, c2⟩ := cut_keep (i := bx.length) (k := rw_.length) hrw hle hbs (by rw [hBq.len]; exact hq)
  refine ⟨x, q1, hM, hrw, hFq, hBq, _, q2, q3, ⟨hF.sz, hF.df, fun p hp hg => ?_, fun p hp hg => ?_⟩, c1, c2, q4⟩
  · rcases List.mem_cons.1 hp with rfl | hp
    · have := q5 n _ hn (hF.t _ (find_mem hd) trivial)
      show RV _ (.v x.v) (a.tmps.getD d undef)
      rw [this]; exact RV.v_of (by unfold XR.v; rfl)
    · simp only [List.mem_filter] at hp
      simp only [keepT, List.all_eq_true, Bool.or_eq_true, Bool.not_eq_true'] at h1
      have hl : low bx.length rw_.length 4 p.2.2 = true := by
        rcases h1 p hp.1 with h | h
        · rw [h] at hp; cases hp.2
        · exact h
      exact (hF.t p hp.1 hg).low_ (d := 3) hl
  · rcases List.mem_cons.1 hp with rfl | hp
    · exact absurd trivial hg
    · simp only [List.mem_filter] at hp; exact hF.u p hp.1 hg
end
end Go.Proofs.Ytigmpdhnhkdeiaa
/- Contracts that are handed slices on their own, which may be written. -/
namespace Go.Proofs.Ytigmpdhnhkdeiaa
open Go Go.RowKit
section
variable {P : Program} {τ : Tab} {w0 w w' w1 w2 : World} {N N1 N2 : Gh} {g g1 gS : Gh} {st st' sq sq' : St} {nt : Nat} {a : Act} {L : Nat → Prop} {X Y X1 X2 : List XR}
def PostY (P : Program) (L : Nat → Prop) (w0 : World) (N : Gh) (R : List XR → List (Ty × AV) → AV → Prop) (e : Ending) (w' : World) : Prop :=
  ∃ X bx' g v res, R X bx' res ∧ e = .returned v ∧ Inv P w' g g bx' [] [] w' ∧ FrZ L w0 N g w' ∧ RV g res v ∧ XsF L g w' X
/-- A contract: boxes, arguments, slices on their own that are handed over; what comes back. -/
def VY (P : Program) (f : FuncId) (bx : List (Ty × AV)) (args : List AV) (X : List XR) (R : List XR → List (Ty × AV) → AV → Prop) : Prop :=
  Fok P f ∧ ∀ (L : Nat → Prop) (w : World) (N : Gh) (vs : List Value), (∀ b, w.heap.size ≤ b → L b) → Inv P w N N bx [] [] w → XsF L N w X → vs.length = args.length → (∀ (i : Nat) x v, args[i]? = some x → vs[i]? = some v → RV N x v) → Calls P f vs.toArray w (PostY P L w N R)
theorem FrZ.refl (L : Nat → Prop) (w : World) (N : Gh) : FrZ L w N N w := .of ⟨Kept.refl _ _, fun i x hx hxo => .inr ⟨x, hx, hxo, rfl⟩, fun i r k hr hrk => .inr ⟨r, hr, hrk⟩, fun _ _ _ _ => rfl, Gh.le.refl _⟩ L
theorem v_enterY {f : FuncId} {fn : Func} {c : Code} {bx : List (Ty × AV)} {args : List AV} {R : List XR → List (Ty × AV) → AV → Prop} (hf : P.funcs[f]? = some fn) (hb : fn.body = some c) (hnm : (fn.name == "runtime.NumGoroutine") = false) (hn : args.length ≤ fn.ntmps)
    (h : ∀ (L : Nat → Prop) (N : Gh) (w0 : World) (a : Act) (w : World), (∀ b, w0.heap.size ≤ b → L b) → N.bx.length ≤ bx.length → N.rw.length ≤ 0 → RelY L P w0 N fn.ntmps ⟨slots 0 args, bx, [], []⟩ X a w → c.wp P (bodyPost P fn (PostY P L w0 N R)) a w) : VY P f bx args X R := by
  refine ⟨⟨fn, hf, hnm, by rw [hb]; rfl⟩, ?_⟩
  intro L w N vs hL hI hX hl hv
  refine calls_of_wp hf hb (h L N w _ w hL (by rw [hI.br.len]; exact Nat.le_refl _) (by have := hI.wr; rw [List.map_eq_nil_iff] at this; rw [this]; exact Nat.le_refl _) ⟨N, hI, .refl _ _ _, ⟨?_, rfl, fun p hp _ => ?_, fun p hp hg => absurd (by obtain ⟨_, _, h2, _⟩ := slots_mem hp; rw [h2]; trivial) hg⟩, hX⟩)
  · simp only [Array.size_append, List.size_toArray, Array.size_replicate, hl]; omega
  · obtain ⟨i, h1, h2, h3⟩ := slots_mem hp
    have hi : i < vs.length := by rw [hl]; exact (List.getElem?_eq_some_iff.1 h3).1
    have := hv i p.2.2 vs[i] h3 (List.getElem?_eq_getElem hi)
    rw [h1, Nat.zero_add]
    have e : (vs.toArray ++ Array.replicate (fn.ntmps - vs.toArray.size) undef).getD i undef = vs[i] := by
      rw [Array.getD_eq_getD_getElem?, Array.getElem?_append_left (by simpa using hi)]; simp [hi]
    exact e ▸ this
theorem v_endY {fn : Func} {rs : List ResultVar} {nb nr : Nat} {R : List XR → List (Ty × AV) → AV → Prop} (js : List Nat) (hτ : τ.ok P) (hM : N.bx.length ≤ nb ∧ N.rw.length ≤ nr) (hr : fn.results = rs.toArray) (H : RelY L P w0 N nt st X a w)
    (hchk : (okSel js st.bx.length && okSel [] st.rw.length && usesB js st.bx && preOk js nb && preOk [] nr && rs.all (fun x => argOk js (resv τ st x))) = true)
    {bx' : List (Ty × AV)} {ress : List AV} {res : AV} (hf : fzOk js st.fz [] 0 = true) (hb : bxs (pickB js [] st.bx) bx')
    (he : allP (sub 4) (rs.map fun x => ren (idx? js) (idx? []) 4 (resv τ st x)) ress) (ht : tupOf ress = res) (hR : R X bx' res) :
    a.defers = [] ∧ ∃ v, (results fn a.tmps).run P w = .ok v w ∧ PostY P L w0 N R (.returned v) w := by
  obtain ⟨g, HI, hB, hF, hX⟩ := H
  have hc := hchk
  obtain ⟨h1, v, h2, h3, h4⟩ := v_endG (w0 := { w with heap := #[] }) (N := ⟨fun _ _ => none, [], []⟩) js [] hτ ⟨Nat.zero_le _, Nat.zero_le _⟩ hr HI.loose hF hchk hf hb (rw' := []) rfl he ht
  simp only [Bool.and_eq_true] at hc
  obtain ⟨⟨⟨⟨⟨c1, c2⟩, c3⟩, c4⟩, c5⟩, c6⟩ := hc
  obtain ⟨hj, nj⟩ := okSel_ok c1
  have hj' : ∀ j ∈ js, j < g.bx.length := fun j hm => by rw [HI.br.len]; exact hj j hm
  have p1 := fun j hj => preOk_ok c4 j (Nat.lt_of_lt_of_le hj hM.1)
  have p2 := fun j hj => preOk_ok c5 j (Nat.lt_of_lt_of_le hj hM.2)
  refine ⟨h1, v, h2, X, bx', _, v, res, hR, rfl, h3.self, ⟨hB.os, hB.tape, hB.output, hB.size, hB.block, fun i x hx hxo => ?_, fun i r k hr hrk => ?_, hB.ro, hB.le.ro, fun i x hx => ?_, fun i r hr => ?_⟩, h4, ⟨fun x hx => ?_, hX.un⟩⟩
  · have hx' : (js.filterMap (g.bx[·]?))[i]? = some x := hx
    rw [pick_get hj'] at hx'
    obtain ⟨j, q1, q2⟩ := Option.bind_eq_some_iff.1 hx'
    rcases hB.bx j x q2 hxo with h | ⟨y, h, h'⟩
    · exact .inl h
    · have := nodup_get nj q1 (p1 j (List.getElem?_eq_some_iff.1 h).1); subst this
      exact .inr ⟨y, h, h'⟩
  · have hx' : (([] : List Nat).filterMap (g.rw[·]?))[i]? = some r := hr
    simp at hx'
  · obtain ⟨x', q1, q2⟩ := hB.le.bx i x hx
    refine ⟨x', ?_, q2⟩
    show (js.filterMap (g.bx[·]?))[i]? = _
    rw [pick_get hj', p1 i (List.getElem?_eq_some_iff.1 hx).1]; exact q1
  · have := p2 i (List.getElem?_eq_some_iff.1 hr).1
    simp at this
  · have h := hX.ok x hx
    exact ⟨h.le, h.nil, fun b hb => ⟨fun hh => (h.own b hb).1 (pick_has hh), (h.own b hb).2⟩⟩
/-- Memory in which some blocks stand as in another one. -/
theorem star_world (w w' : World) (S : Nat → Prop) (hs : w.heap.size ≤ w'.heap.size) : ∃ ws : World, ws.heap.size = w.heap.size ∧ ws.os = w.os ∧ ws.tape = w.tape ∧ ws.output = w.output ∧ (∀ k, S k → k < w.heap.size → ws.heap[k]? = w'.heap[k]?) ∧ ∀ k, ¬ S k → ws.heap[k]? = w.heap[k]? := by
  classical
  refine ⟨{ w with heap := ((List.range w.heap.size).map fun k => if S k then w'.heap[k]?.getD default else w.heap[k]?.getD default).toArray }, by simp, rfl, rfl, rfl, fun k hk hl => ?_, fun k hk => ?_⟩
  · simp only [List.getElem?_toArray, List.getElem?_map]
    rw [List.getElem?_range hl]
    simp only [Option.map_some, if_pos hk]
    rw [Array.getElem?_eq_getElem (show k < w'.heap.size by omega)]; rfl
  · simp only [List.getElem?_toArray, List.getElem?_map]
    by_cases hl : k < w.heap.size
    · rw [List.getElem?_range hl]
      simp only [Option.map_some, if_neg hk]
      rw [Array.getElem?_eq_getElem hl]; rfl
    · rw [List.getElem?_eq_none (by simp; omega), Array.getElem?_eq_none (by omega)]; rfl
theorem setAll_mem {α : Type} : ∀ {js : List Nat} {l l' : List α} {z : α}, z ∈ setAll l js l' → z ∈ l ∨ z ∈ l'
  | [], l, l', z, h => .inl (by cases l' <;> exact h)
  | j :: js, l, [], z, h => .inl h
  | j :: js, l, x :: xs, z, h => by
    rw [setAll] at h
    rcases setAll_mem h with h | h
    · rcases List.mem_or_eq_of_mem_set h with h | h
      · exact .inl h
      · exact .inr (by rw [h]; exact List.mem_cons_self)
    · exact .inr (List.mem_cons_of_mem _ h)
theorem mergeL_mem {α : Type} {js : List Nat} {l l' : List α} {z : α} (h : z ∈ mergeL l js l') : z ∈ l ∨ z ∈ l' := by
  unfold mergeL at h
  rcases List.mem_append.1 h with h | h
  · exact setAll_mem h
  · exact .inr (List.mem_of_mem_drop h)
/-- A frame behind such a call. -/
theorem call_Y {bx bx' : List (Ty × AV)} {fz : List Nat} {rw_ : List (TypeId × Nat)} {js : List Nat} (hL : ∀ b, w0.heap.size ≤ b → L b) (HI : Inv P w g g bx fz rw_ w) (hB : FrZ L w0 N g w) (hX : XsF L g w X)
    (h' : Inv P w' g1 g1 bx' [] [] w') (hF : FrZ (fun b => w.heap.size ≤ b ∨ ∃ x ∈ X, x.A = some b) w (g.pick js []) g1 w') (hY : XsF (fun b => w.heap.size ≤ b ∨ ∃ x ∈ X, x.A = some b) g1 w' Y)
    (hj : ∀ j ∈ js, j < bx.length) (nj : js.Nodup) (hu : ∀ x ∈ bx', uses some 4 x.2 = true) :
    let gm : Gh := ⟨g1.ro, mergeL g.bx js g1.bx, mergeL g.rw [] g1.rw⟩
    g.le gm ∧ Inv P w' gm gm (mergeL bx js (renB js [] bx.length rw_.length bx')) (fz ++ ([] : List Nat).map (nth js bx.length)) (mergeL rw_ [] []) w' ∧ FrZ L w0 N gm w' ∧ XsF L gm w' Y ∧
      (∀ i x, g1.bx[i]? = some x → gm.bx[nth js bx.length i]? = some x) ∧ (∀ i x, g1.rw[i]? = some x → gm.rw[nth [] rw_.length i]? = some x) := by
  intro gm
  let S : Nat → Prop := fun b => ∃ x ∈ X, x.A = some b
  have hSg : ∀ b, S b → ¬ g.has b ∧ L b ∧ b < w.heap.size ∧ ∀ o, g.ro b o = none := fun b ⟨x, hx, hb⟩ => by
    obtain ⟨o1, o2, o3, o4⟩ := (hX.ok x hx).own b hb
    exact ⟨o1, o2, o3.lt, o4⟩
  obtain ⟨ws, s1, s2, s3, s4, s5, s6⟩ := star_world w w' S hF.size
  classical
  let gt : Gh := ⟨fun b o => if S b then g1.ro b o else g.ro b o, g.bx, g.rw⟩
  have hro : ∀ b, ¬ S b → ∀ o, gt.ro b o = g.ro b o := fun b hb o => if_neg hb
  have hroS : ∀ b, S b → ∀ o, gt.ro b o = g1.ro b o := fun b hb o => if_pos hb
  have hle : g.le gt := ⟨fun b o u hu => by
    by_cases hb : S b
    · rw [(hSg b hb).2.2.2 o] at hu; cases hu
    · rw [hro b hb o]; exact hu, fun i x hx => ⟨x, hx, x.same⟩, fun i r hr => ⟨r, hr, rfl, rfl, rfl, Nat.le_refl _, fun _ => rfl⟩⟩
  have hbxS : ∀ {i : Nat} {x : Bx}, g.bx[i]? = some x → x.off = false → ¬ S x.blk := fun {i x} hx hxo hS => (hSg _ hS).1 (.inl ⟨x, List.mem_of_getElem? hx, hxo, rfl⟩)
  have hrwS : ∀ {i : Nat} {r : Rw} {k : Nat}, g.rw[i]? = some r → r.v.ownBlock = some k → ¬ S k := fun {i r k} hr hk hS => (hSg _ hS).1 (.inr ⟨r, List.mem_of_getElem? hr, hk⟩)
  have HT : Inv P ws gt gt bx fz rw_ ws := by
    refine ⟨⟨fun b o u hu => ?_, fun i x hx ho => (HI.mem.bx i x hx ho).keep (s6 _ (hbxS hx ho)), HI.mem.offc, HI.mem.mpc, fun i r hr => (HI.mem.rw i r hr).keep fun k hk => s6 _ (hrwS hr hk), fun i x hx hf o u hu => ?_, fun i x hx ho hf o => ?_, HI.mem.bb, fun i r k hr hk o ho => ?_, fun i r k hr hk o u hu => ?_, HI.mem.rb, HI.mem.rr⟩,
      ⟨Kept.refl _ _, fun i x hx hxo => .inr ⟨x, hx, hxo, rfl⟩, fun i r k hr hrk => .inr ⟨r, hr, hrk⟩, fun _ _ _ _ => rfl, Gh.le.refl _⟩, ⟨HI.br.len, fun i T' a' hi => ?_⟩, HI.fz, HI.wr, HI.wz⟩
    · by_cases hb : S b
      · rw [hroS b hb o] at hu
        exact (World.cell?_of_block (a := ⟨b, o, none⟩) (s5 b hb (hSg b hb).2.2.1)).trans (h'.mem.ro b o u hu)
      · rw [hro b hb o] at hu
        exact (World.cell?_of_block (a := ⟨b, o, none⟩) (s6 b hb)).trans (HI.mem.ro b o u hu)
    · have h0 := HI.mem.fro i x hx hf o u hu
      exact hle.ro _ _ _ h0
    · rw [hro _ (hbxS hx ho) o]; exact HI.mem.bro i x hx ho hf o
    · rw [hro _ (hrwS hr hk) o]; exact HI.mem.rro i r k hr hk o ho
    · exact hle.ro _ _ _ (HI.mem.rwo i r k hr hk o u hu)
    · obtain ⟨x, q1, q2, q3⟩ := HI.br.at_ i T' a' hi
      exact ⟨x, q1, q2, q3.mono hle⟩
  have hpick : ∀ b, (gt.pick js []).has b → g.has b := fun b hh => by
    have : (g.pick js []).has b := hh
    exact pick_has this
  have H1 : Inv P ws (gt.pick js []) g1 bx' [] [] w' := by
    refine ⟨h'.mem, ⟨⟨?_, ?_, ?_, by rw [s1]; exact hF.size, fun k hk hn => ?_⟩, fun i x hx hxo => ?_, fun i r k hr hrk => ?_, fun b hb hn o => ?_, ⟨fun b o u hu => ?_, hF.le.bx, hF.le.rw⟩⟩, h'.br, h'.fz, h'.wr, h'.wz⟩
    · exact hF.os.trans s2.symm
    · exact hF.tape.trans s3.symm
    · exact hF.output.trans s4.symm
    · rw [s1] at hk
      by_cases hS : S k
      · exact (s5 k hS hk).symm
      · rw [s6 k hS]
        exact hF.block k hk (fun e => by rcases e with e | e; omega; exact hS e) hn
    · rw [s1]; exact hF.bx i x hx hxo
    · rw [s1]; exact hF.rw i r k hr hrk
    · rw [s1] at hb
      show g1.ro b o = gt.ro b o
      by_cases hS : S b
      · rw [hroS b hS o]
      · rw [hro b hS o]
        exact hF.ro b hb (fun e => by rcases e with e | e; omega; exact hS e) hn o
    · have hu' : gt.ro b o = some u := hu
      by_cases hS : S b
      · rw [hroS b hS o] at hu'; exact hu'
      · rw [hro b hS o] at hu'; exact hF.le.ro b o u hu'
  obtain ⟨k1, k2, k3, k4⟩ := HT.call H1 hj (fun k hk => by cases hk) nj List.nodup_nil hu
  have hrwl : g1.rw = [] := by have := h'.wr; rwa [List.map_eq_nil_iff] at this
  have hblk : ∀ b, b < w.heap.size → ¬ S b → ¬ g.has b → w'.heap[b]? = w.heap[b]? := fun b hb h1 h2 => hF.block b hb (fun e => by rcases e with e | e; omega; exact h1 e) fun hh => h2 (pick_has hh)
  have hs0 := hB.size
  refine ⟨hle.trans k1, k2.self, ⟨hF.os.trans hB.os, hF.tape.trans hB.tape, hF.output.trans hB.output, Nat.le_trans hB.size hF.size, fun k hk hl hn => ?_, fun i x hx hxo => ?_, fun i r k hr hrk => ?_, fun b hb hl hn o => ?_, hB.le.trans (hle.trans k1)⟩, ⟨fun y hy => ?_, hY.un⟩, k3, k4⟩
  · exact (hblk k (by omega) (fun hS => hl (hSg k hS).2.1) (fun hh => hn (hB.back hk hh))).trans (hB.block k hk hl hn)
  · rcases k2.fr.bx i x hx hxo with h1 | ⟨y, h1, h2, h3⟩
    · exact .inl (by rw [s1] at h1; omega)
    · rw [← h3]; exact hB.bx i y h1 h2
  · rcases k2.fr.rw i r k hr hrk with h1 | ⟨y, h1, h2⟩
    · exact .inl (by rw [s1] at h1; omega)
    · exact hB.rw i y k h1 h2
  · have hS : ¬ S b := fun hS => hl (hSg b hS).2.1
    have h1 : g1.ro b o = g.ro b o := hF.ro b (by omega) (fun e => by rcases e with e | e; omega; exact hS e) (fun hh => hn (hB.back hb (pick_has hh))) o
    exact h1.trans (hB.ro b hb hl hn o)
  · have h := hY.ok y hy
    refine ⟨h.le, h.nil, fun b hb => ?_⟩
    obtain ⟨o1, o2, o3, o4⟩ := h.own b hb
    refine ⟨fun hh => ?_, ?_, o3, o4⟩
    · have hng : ¬ g.has b := fun hh => by
        rcases o2 with o2 | o2
        · have : b < w.heap.size := by
            rcases hh with ⟨z, hz, hzo, he⟩ | ⟨s, hs, he⟩
            · obtain ⟨i, hi⟩ := List.getElem?_of_mem hz
              rw [← he]; exact (HI.mem.bx i z hi hzo).lt
            · obtain ⟨i, hi⟩ := List.getElem?_of_mem hs
              exact (HI.mem.rw i s hi).lt he
          omega
        · exact (hSg b o2).1 hh
      rcases hh with ⟨z, hz, hzo, he⟩ | ⟨s, hs, he⟩
      · obtain ⟨i, hi⟩ := List.getElem?_of_mem hz
        rcases k2.fr.bx i z hi hzo with h1 | ⟨z', h1, h2, h3⟩
        · -- a new one: one of those that came back
          by_cases hz1 : z ∈ g1.bx
          · exact o1 (.inl ⟨z, hz1, hzo, he⟩)
          · have hzg : z ∈ g.bx := (mergeL_mem hz).resolve_right hz1
            exact hng (.inl ⟨z, hzg, hzo, he⟩)
        · exact hng (.inl ⟨z', List.mem_of_getElem? h1, h2, h3.trans he⟩)
      · obtain ⟨i, hi⟩ := List.getElem?_of_mem hs
        have hsg : s ∈ g.rw := by
          rcases mergeL_mem hs with h1 | h1
          · exact h1
          · rw [hrwl] at h1; cases h1
        exact hng (.inr ⟨s, hsg, he⟩)
    · rcases o2 with o2 | o2
      · exact hL b (by omega)
      · exact (hSg b o2).2.1
/-- A call of such a contract. -/
theorem v_callY {ops : Array Oper} {Q : Exit → Act → World → Prop} {rest : List Oper} {o : Oper} {f : FuncId} {xs : List Operand} {ats : Array TypeId} {bxc : List (Ty × AV)} {args : List AV} {R : List XR → List (Ty × AV) → AV → Prop} (js : List Nat)
    (hc : VY P f bxc args X R) (hL : ∀ b, w0.heap.size ≤ b → L b) (hB : FrZ L w0 N N1 w1) (hX : XsF L N1 w1 X) (H : Rel P w1 N1 nt st a w)
    (hRu : ∀ Y bx' res, R Y bx' res → uses some 4 res = true ∧ bx'.all (fun x => uses some 4 x.2) = true)
    (k : ∀ Y bx' res a w, R Y bx' res → RelY L P w0 N nt ((⟨st.t, mergeL st.bx js (renB js [] st.bx.length st.rw.length bx'), st.fz, st.rw⟩ : St).put o.dst none (ren (fun k => some (nth js st.bx.length k)) (fun k => some (nth [] st.rw.length k)) 4 res)) Y a w → wpList P ops Q rest a w)
    (hgd : o.guard = none := by rfl) (ho : o.op = .call ⟨.value (.func f), xs.toArray, ats⟩ := by rfl) (hchk : (okSel js st.bx.length && usesB js st.bx && fzOk js st.fz [] 0 && xs.all (fun x => argOk js (st.ev none x)) && okDst nt none o.dst) = true := by rfl) (hb : bxs (pickB js [] st.bx) bxc := by exact cbX) (ha : allP (sub 4) (cargs st js [] xs) args := by exact caX) : wpList P ops Q (o :: rest) a w := by
  obtain ⟨hfok, hcall⟩ := hc
  obtain ⟨g, HI0, hF⟩ := H
  have HI := HI0.self
  have hB2 := hB.trans (FrZ.of HI0.fr L)
  have hX2 := hX.step HI0
  simp only [Bool.and_eq_true] at hchk
  obtain ⟨⟨⟨⟨c1, c3⟩, c4⟩, c5⟩, c8⟩ := hchk
  obtain ⟨hj, nj⟩ := okSel_ok c1
  have hj' : ∀ j ∈ js, j < g.bx.length := fun j hm => by rw [HI.br.len]; exact hj j hm
  obtain ⟨h1, h2⟩ := cargs_ok HI hF (js := js) (ks := []) hj (fun j hj => by cases hj) c5 ha
  refine wpList_plain hgd fun K hK => ?_
  unfold Oper.wp
  rw [run_callF hfok xs ats ho w, Oper.upon_enter]
  have HP : Inv P w (g.pick js []) (g.pick js []) bxc [] [] w := HI.pick (fz2 := []) (rw2 := []) js [] hj (fun j hj => by cases hj) nj List.nodup_nil (usesB_ok c3) hb (fun i j hi hm => by simpa using fzOk_ok c4 i j hi hm) rfl
    ⟨Kept.refl _ _, fun i x hx hxo => .inr ⟨x, hx, hxo, rfl⟩, fun i r k hr hrk => .inr ⟨r, hr, hrk⟩, fun _ _ _ _ => rfl, Gh.le.refl _⟩
  have hXc : XsF (fun b => w.heap.size ≤ b ∨ ∃ x ∈ X, x.A = some b) (g.pick js []) w X := ⟨fun x hx => by
    have h := hX2.ok x hx
    exact ⟨h.le, h.nil, fun b hb => by
      obtain ⟨o1, o2, o3, o4⟩ := h.own b hb
      exact ⟨fun hh => o1 (pick_has hh), .inr ⟨x, hx, hb⟩, o3, o4⟩⟩, hX2.un⟩
  refine (hcall _ w (g.pick js []) (xs.map a.eval) (fun b hb => .inl hb) HP hXc (by simp [h1]) h2).mono fun e w' hp => ?_
  obtain ⟨Y, bx', g1, v, res, hRR, rfl, HI1, hF1, hv, hY⟩ := hp
  obtain ⟨c6, c7⟩ := hRu _ _ _ hRR
  obtain ⟨k1, k2, k3, k4, k5, k6⟩ := call_Y hL HI hB2 hX2 HI1 hF1 hY hj nj (fun x hx => List.all_eq_true.1 c7 x hx)
  have hv' := hv.ren_ (g1 := g1) (g2 := ⟨g1.ro, mergeL g.bx js g1.bx, mergeL g.rw [] g1.rw⟩) (fb := fun k => some (nth js st.bx.length k)) (fr := fun k => some (nth [] st.rw.length k)) (d := 3) rfl (fun i j x hij hx => by injection hij with hij; subst hij; exact k5 i x hx) (fun i j x hij hx => by injection hij with hij; subst hij; exact k6 i x hx) (uses_some c6)
  refine hK _ _ (k Y bx' res _ _ hRR ⟨_, ?_, k3, (hF.mono k1).put c8 (fun _ => hv') rfl (fun h => absurd trivial h), k4⟩)
  have e : mergeL st.rw [] ([] : List (TypeId × Nat)) = st.rw := by
    unfold mergeL
    rw [show setAll st.rw [] ([] : List (TypeId × Nat)) = st.rw from rfl]; exact List.append_nil _
  rw [e] at k2
  cases o.dst <;> simpa [St.put] using k2
end
end Go.Proofs.Ytigmpdhnhkdeiaa
/- Slices on their own that were written: given back as they were handed; published in a box that grows. -/
namespace Go.Proofs.Ytigmpdhnhkdeiaa
open Go Go.RowKit
/-- The view of slices that are published. -/
inductive SeeH (X : List XR) : AV → AV → Prop
  | refl (x : AV) : SeeH X x x
  | own (x : XR) (e : TypeId) (T : Ty) (es : List AV) (h : x ∈ X) (hx : XH x e T es) : SeeH X (.v x.v) (.sl T es none)
  | st {fs fs' : List AV} (hl : fs.length = fs'.length) (h : ∀ i (h1 : i < fs.length) (h2 : i < fs'.length), SeeH X fs[i] fs'[i]) : SeeH X (.st fs) (.st fs')
section
variable {P : Program} {τ : Tab} {w0 w w' w1 w2 : World} {N N1 N2 : Gh} {g g1 gS : Gh} {st st' sq sq' : St} {nt : Nat} {a : Act} {L : Nat → Prop} {X Y X1 X2 : List XR}
structure XRo (g : Gh) (x : XR) : Prop where
  le : x.n ≤ x.c ∧ x.c ≤ maxLen
  nil : x.A = none → x.c = 0
  ro : ∀ b, x.A = some b → ∀ o u, x.cells[o]? = some u → g.ro b o = some u
theorem RC.seeH {x y : AV} (hs : SeeH X x y) : ∀ {g : Gh} {T : Ty} {cs : List Value}, (∀ x ∈ X, XRo g x) → RC g T x cs → RC g T y cs := by
  induction hs with
  | refl x => intro g T cs _ h; exact h
  | own x e T es hm hx =>
    intro g T2 cs hro h
    obtain ⟨rfl, rfl⟩ := h.v_inv
    obtain ⟨F, sp, c1, c2, c3, c4⟩ := hx.cells
    have ho := hro x hm
    have hle := ho.le
    unfold XR.v
    rw [hx.n] at hle ⊢
    refine .sl hle.1 hle.2 F ?_ (fun k hk => c4 _ k hk) fun i hi => by cases hi
    cases hA : x.A with
    | none => left; have := ho.nil hA; exact List.length_eq_zero_iff.1 (by omega)
    | some b =>
      right
      refine ⟨b, 0, rfl, fun k hk j u hu => ?_⟩
      rw [Nat.zero_add]
      refine ho.ro b hA _ _ ?_
      rw [c1]
      exact flat_at (g := g) (fun k h => c4 _ k h) hk hu
  | @st fs fs' hl hsub ih =>
    intro g T cs hro h
    induction T generalizing cs fs fs' with
    | cn T Ts _ ihs =>
      cases h with
      | cn h hs =>
        cases fs' with
        | nil => cases hl
        | cons b m =>
          refine .cn (ih 0 (by simp) (by simp) hro h) (ihs (by simpa using hl) (fun i h1 h2 => hsub (i + 1) (by simpa using h1) (by simpa using h2)) (fun i h1 h2 => ?_) hs)
          intro g T cs hro h
          exact ih (i + 1) (by simpa using h1) (by simpa using h2) hro (by simpa using h)
    | nl => cases h; cases fs' with | nil => exact .nl | cons _ _ => cases hl
    | _ => cases h
/-- All slices on their own stay as they are from here on. -/
theorem pubY_inv {bx : List (Ty × AV)} {fz : List Nat} {rw_ : List (TypeId × Nat)} (HI : Inv P w g g bx fz rw_ w) (hB : FrZ L w0 N g w) (hX : XsF L g w X) (hL : ∀ b, L b → w0.heap.size ≤ b) :
    ∃ g', g.le g' ∧ Inv P w0 N g' bx fz rw_ w ∧ ∀ x ∈ X, XRo g' x := by
  classical
  let S : Nat → Prop := fun b => ∃ x ∈ X, x.A = some b
  have hS : ∀ b, S b → ¬ g.has b ∧ L b ∧ ∀ o, g.ro b o = none := fun b ⟨x, hx, hb⟩ => by
    obtain ⟨o1, o2, o3, o4⟩ := (hX.ok x hx).own b hb
    exact ⟨o1, o2, o4⟩
  let g' : Gh := ⟨fun b o => if S b then w.cell? ⟨b, o, none⟩ else g.ro b o, g.bx, g.rw⟩
  have hro : ∀ b, ¬ S b → ∀ o, g'.ro b o = g.ro b o := fun b hb o => if_neg hb
  have hroS : ∀ b, S b → ∀ o, g'.ro b o = w.cell? ⟨b, o, none⟩ := fun b hb o => if_pos hb
  have hle : g.le g' := ⟨fun b o u hu => by
    by_cases hb : S b
    · rw [(hS b hb).2.2 o] at hu; cases hu
    · rw [hro b hb o]; exact hu, fun i x hx => ⟨x, hx, x.same⟩, fun i r hr => ⟨r, hr, rfl, rfl, rfl, Nat.le_refl _, fun _ => rfl⟩⟩
  have hbxS : ∀ {i : Nat} {x : Bx}, g.bx[i]? = some x → x.off = false → ¬ S x.blk := fun {i x} hx hxo h => (hS _ h).1 (.inl ⟨x, List.mem_of_getElem? hx, hxo, rfl⟩)
  have hrwS : ∀ {i : Nat} {r : Rw} {k : Nat}, g.rw[i]? = some r → r.v.ownBlock = some k → ¬ S k := fun {i r k} hr hk h => (hS _ h).1 (.inr ⟨r, List.mem_of_getElem? hr, hk⟩)
  have hF := hB.fr hL
  refine ⟨g', hle, ⟨⟨fun b o u hu => ?_, HI.mem.bx, HI.mem.offc, HI.mem.mpc, HI.mem.rw, fun i x hx hf o u hu => hle.ro _ _ _ (HI.mem.fro i x hx hf o u hu), fun i x hx ho hf o => ?_, HI.mem.bb, fun i r k hr hk o ho => ?_, fun i r k hr hk o u hu => hle.ro _ _ _ (HI.mem.rwo i r k hr hk o u hu), HI.mem.rb, HI.mem.rr⟩,
    ⟨hF.kept, hF.bx, hF.rw, fun b hb hn o => ?_, hF.le.trans hle⟩, ⟨HI.br.len, fun i T' a' hi => ?_⟩, HI.fz, HI.wr, HI.wz⟩, fun x hx => ⟨(hX.ok x hx).le, (hX.ok x hx).nil, fun b hb o u hu => ?_⟩⟩
  · by_cases hb : S b
    · rw [hroS b hb o] at hu; exact hu
    · rw [hro b hb o] at hu; exact HI.mem.ro b o u hu
  · rw [hro _ (hbxS hx ho) o]; exact HI.mem.bro i x hx ho hf o
  · rw [hro _ (hrwS hr hk) o]; exact HI.mem.rro i r k hr hk o ho
  · have : ¬ S b := fun h => by have := hL b (hS b h).2.1; omega
    rw [hro b this o]; exact hF.ro b hb hn o
  · obtain ⟨x, q1, q2, q3⟩ := HI.br.at_ i T' a' hi
    exact ⟨x, q1, q2, q3.mono hle⟩
  · obtain ⟨o1, o2, o3, o4⟩ := (hX.ok x hx).own b hb
    rw [hroS b ⟨x, hx, hb⟩ o]
    rw [o3.cell, List.getElem?_toArray]; exact hu
theorem v_pubY (H : RelY L P w0 N nt st X a w) (hL : ∀ b, L b → w0.heap.size ≤ b) (i : Nat) {e γ : Nat} {T : Ty} {es es' : List AV} (hb : st.bx[i]? = some (.vc e T, .vc γ es)) (hl : es.length = es'.length) (hs : ∀ k (h1 : k < es.length) (h2 : k < es'.length), SeeH X es[k] es'[k]) :
    Rel P w0 N nt ⟨st.t, st.bx.set i (.vc e T, .vc γ es'), st.fz, st.rw⟩ a w := by
  obtain ⟨g, HI, hB, hF, hX⟩ := H
  obtain ⟨g', hle, I1, hro⟩ := pubY_inv HI hB hX hL
  have F1 := hF.mono hle
  obtain ⟨y, hy, hyT, hbc⟩ := I1.br.at_ i _ _ hb
  obtain ⟨T2, F, sp, ⟨e2, he2, htid⟩, hmp, hgen, h0, hcm, hcs, hcl, hsp, hFk⟩ := hbc.vc_inv
  injection he2 with he20 he2; subst he20 he2
  have h2 : BC g' y.ty (.vc γ es') y := by
    rw [hyT]
    refine .inr (.inl ⟨T, γ, es', F, sp, ⟨e, rfl, htid⟩, rfl, hmp, hgen, h0, hcm, ?_, hcl, hsp, fun k hk => ?_⟩)
    · rw [← hl]; exact hcs
    · exact (hFk k (by omega)).seeH (hs k (by omega) hk) fun x hx => ⟨(hro x hx).le, (hro x hx).nil, (hro x hx).ro⟩
  have I2 := I1.re hy h2
  rw [hyT] at I2
  exact ⟨g', I2, F1.sz, F1.df, fun p hp hg => F1.t p hp hg, fun p hp hg => F1.u p hp hg⟩
/-- A slice that was lent and not grown is the same slice. -/
theorem give_same {x0 : XR} {e : TypeId} {T : Ty} {es : List AV} {bx : List (Ty × AV)} {fz : List Nat} {rw_ : List (TypeId × Nat)} (hk : g1.bx.length = bx.length)
    (HI : Inv P w1 (g1.push (x0.box e T)) g (bx ++ [(.vc e T, .vc 0 es)]) fz rw_ w) (hn : x0.n = es.length) (hle : x0.n ≤ x0.c ∧ x0.c ≤ maxLen) : RV g (.vw bx.length 0 es.length) x0.v := by
  obtain ⟨y', hy', hyT, hbc⟩ := HI.br.at_ bx.length _ _ (by rw [List.getElem?_append_right (Nat.le_refl _), Nat.sub_self]; rfl)
  obtain ⟨T2, F, sp, ⟨e2, he2, htid⟩, hmp, hgen, h0, hcm, hcs, hcl, hsp, hFk⟩ := hbc.vc_inv
  injection he2 with he20 he2; subst he20 he2
  have hpk : (g1.push (x0.box e T)).bx[bx.length]? = some (x0.box e T) := by show (g1.bx ++ [_])[bx.length]? = _; rw [← hk]; simp
  obtain ⟨y2, q1, q2, q3, q4⟩ := HI.fr.le.bx bx.length _ hpk
  rw [hy'] at q1; injection q1 with q1; subst q1
  obtain ⟨r1, r2, r3⟩ := q4 (.inl hgen)
  have hoff : y'.off = x0.A.isNone := by first | exact r2 | exact r2.symm
  have hblk : y'.blk = x0.A.getD 0 := by first | exact r1 | exact r1.symm
  have hcap : y'.cap = x0.c := by first | exact r3 | exact r3.symm
  have := RC.vw (g := g) (i := bx.length) (γ := 0) (n := es.length) (c := x0.c) (e := e) (x := y') (T := T) (A := x0.A.map fun b => ⟨b, 0, none⟩) hy' hyT (Nat.zero_le _) (by rw [← hn]; exact hle.1) hle.2 fun _ => ⟨hcap.symm, by
    rw [hoff, hblk]
    cases hA : x0.A with
    | none => exact .inl ⟨rfl, rfl⟩
    | some b => exact .inr ⟨rfl, rfl⟩⟩
  have := this.rv1
  rw [← hn] at this ⊢
  exact this.rv
theorem v_giveS {x0 : XR} {e : TypeId} {T : Ty} {es : List AV} {bx : List (Ty × AV)} {fz : List Nat} {rw_ : List (TypeId × Nat)} {t : List (Nat × Gd × AV)} (hlo : ∀ b, w0.heap.size ≤ b → L b) (hL : Lent1 L w0 N g1 w1 X1 X2 (x0.box e T)) (hk : g1.bx.length = bx.length)
    (H : Rel P w1 (g1.push (x0.box e T)) nt ⟨t, bx ++ [(.vc e T, .vc 0 es)], fz, rw_⟩ a w) (hx0 : x0.n = es.length) (hle : x0.n ≤ x0.c ∧ x0.c ≤ maxLen) (ks : List Nat) (hnf : fz.contains bx.length = false) (hfl : es.all (flat 3) = true) (hlow : bx.all (fun x => low bx.length rw_.length 4 x.2) = true) (h1 : keepT ks bx.length rw_.length t = true) :
    ∃ x : XR, XH x e T es ∧ x.v = x0.v ∧ RelY L P w0 N nt ⟨t.filter (fun p => ks.contains p.1), bx, fz, rw_⟩ (X1 ++ x :: X2) a w := by
  obtain ⟨g, HI, hF⟩ := H
  obtain ⟨x, q1, q2, q3, q4, q5⟩ := give_inv hlo hL hk HI (by intro h; rw [List.contains_iff_mem.2 h] at hnf; cases hnf) hfl hlow
  refine ⟨x, q1, (q5 _ _ rfl (give_same hk HI hx0 hle)).symm, _, q2, q3, ⟨hF.sz, hF.df, fun p hp hg => ?_, fun p hp hg => ?_⟩, q4⟩
  · simp only [List.mem_filter] at hp
    simp only [keepT, List.all_eq_true, Bool.or_eq_true, Bool.not_eq_true'] at h1
    have hl : low bx.length rw_.length 4 p.2.2 = true := by
      rcases h1 p hp.1 with h | h
      · rw [h] at hp; cases hp.2
      · exact h
    exact (hF.t p hp.1 hg).low_ (d := 3) hl
  · simp only [List.mem_filter] at hp; exact hF.u p hp.1 hg
/-- What is lent has its room. -/
theorem RelY.le {x : XR} (H : RelY L P w0 N nt st (X1 ++ x :: X2) a w) : x.n ≤ x.c ∧ x.c ≤ maxLen := by
  obtain ⟨g, HI, hB, hF, hX⟩ := H
  exact (hX.ok x (List.mem_append_right _ List.mem_cons_self)).le
/-- Slots, boxes and rows are forgotten. -/
theorem RelY.to (H : RelY L P w0 N nt st X a w) (nb nr : Nat) (hM : N.bx.length ≤ nb ∧ N.rw.length ≤ nr) {t2 : List (Nat × Gd × AV)} {bx2 : List (Ty × AV)} {rw2 : List (TypeId × Nat)} {fz2 : List Nat} (hs : SubT t2 st.t) (hb : st.bx.take nb = bx2) (hr : st.rw.take nr = rw2) (hf : st.fz = fz2) (h1 : t2.all (fun p => low nb nr 4 p.2.2) = true) (h2 : bx2.all (fun x => low nb nr 4 x.2) = true) :
    RelY L P w0 N nt ⟨t2, bx2, fz2, rw2⟩ X a w := by
  subst hb hr hf
  obtain ⟨g, HI, hB, hF, hX⟩ := H
  have I1 := (HI.loose.cut (st := st) (nb := nb) (nr := nr) (Nat.zero_le _) (Nat.zero_le _) h2).self
  have hcbx : ∀ {i : Nat} {x : Bx}, (g.cut nb nr).bx[i]? = some x → g.bx[i]? = some x := fun {i x} hx => by
    have : (g.bx.take nb)[i]? = some x := hx
    rw [List.getElem?_take] at this; split at this; exact this; cases this
  have hcrw : ∀ {i : Nat} {x : Rw}, (g.cut nb nr).rw[i]? = some x → g.rw[i]? = some x := fun {i x} hx => by
    have : (g.rw.take nr)[i]? = some x := hx
    rw [List.getElem?_take] at this; split at this; exact this; cases this
  have hchas : ∀ b, (g.cut nb nr).has b → g.has b := fun b hh => by
    rcases hh with ⟨z, hz, h⟩ | ⟨s, hs, h⟩
    · exact .inl ⟨z, List.mem_of_mem_take hz, h⟩
    · exact .inr ⟨s, List.mem_of_mem_take hs, h⟩
  refine ⟨g.cut nb nr, I1, ⟨hB.os, hB.tape, hB.output, hB.size, hB.block, fun i x hx hxo => hB.bx i x (hcbx hx) hxo, fun i r k hr hrk => hB.rw i r k (hcrw hr) hrk, hB.ro, ⟨hB.le.ro, fun i x hx => ?_, fun i r hr => ?_⟩⟩,
    ⟨hF.sz, hF.df, fun p hp hg => (hF.t p (hs.mem hp) hg).low_ (d := 3) (List.all_eq_true.1 h1 p hp), fun p hp hg => hF.u p (hs.mem hp) hg⟩, ⟨fun x hx => ?_, hX.un⟩⟩
  · obtain ⟨y, h3, h4⟩ := hB.le.bx i x hx
    have := (List.getElem?_eq_some_iff.1 hx).1
    exact ⟨y, by show (g.bx.take nb)[i]? = _; rw [List.getElem?_take, if_pos (by omega)]; exact h3, h4⟩
  · obtain ⟨y, h3, h4⟩ := hB.le.rw i r hr
    have := (List.getElem?_eq_some_iff.1 hr).1
    exact ⟨y, by show (g.rw.take nr)[i]? = _; rw [List.getElem?_take, if_pos (by omega)]; exact h3, h4⟩
  · have h := hX.ok x hx
    exact ⟨h.le, h.nil, fun b hb => ⟨fun hh => (h.own b hb).1 (hchas b hh), (h.own b hb).2⟩⟩
end
end Go.Proofs.Ytigmpdhnhkdeiaa
/- Ways with slices on their own (plain): their box, digests aside, ends. -/
namespace Go.Proofs.Ytigmpdhnhkdeiaa
open Go Go.RowKit
def wyE (ws : List MW) (X : List XR) : List AV := List.zipWith (fun w x => .st [.v x.v, w.en.av]) ws X
structure WyX (ws : List MW) (X : List XR) : Prop where
  len : X.length = ws.length
  at_ : ∀ k (h1 : k < ws.length) (h2 : k < X.length), XH X[k] 50 (.ba 32) (bas ws[k].sd)
theorem wyE_len {ws : List MW} {X : List XR} (h : X.length = ws.length) : (wyE ws X).length = ws.length := by
  unfold wyE; rw [List.length_zipWith, h, Nat.min_self]
theorem wyE_elem {ws : List MW} {X : List XR} (i : Nat) (h : i < (wyE ws X).length) (h1 : i < ws.length) (h2 : i < X.length) : (wyE ws X)[i] = .st [.v X[i].v, ws[i].en.av] := List.getElem_zipWith
theorem wyF_elem (n lo k : Nat) (c : Bool) (m : Nd) (vs : Nat → Value) (ns : Nat → Nd) (i : Nat) (h : i < (wyF n lo k c m vs ns).length) : (wyF n lo k c m vs ns)[i] = .st [.v (vs i), (if c = true ∧ lo ≤ i ∧ i < k then m else ns i).av] := by
  simp only [wyF, List.getElem_map, List.getElem_range]
theorem wyE_get {ws : List MW} {X : List XR} (k : Nat) (h1 : k < ws.length) (h2 : k < X.length) : (wyE ws X).getD k .any = .st [.v X[k].v, ws[k].en.av] := by
  have h : k < (List.zipWith (fun (w : MW) (x : XR) => AV.st [.v x.v, w.en.av]) ws X).length := by rw [List.length_zipWith]; omega
  unfold wyE
  rw [List.getD_eq_getElem?_getD, List.getElem?_eq_getElem h, Option.getD_some, List.getElem_zipWith]
theorem wyE_set {ws : List MW} {X : List XR} (k : Nat) (w : MW) (x : XR) : (wyE ws X).set k (.st [.v x.v, w.en.av]) = wyE (ws.set k w) (X.set k x) := by
  unfold wyE
  apply List.ext_getElem (by simp)
  intro i h1 h2
  rw [List.getElem_set, List.getElem_zipWith, List.getElem_zipWith, List.getElem_set, List.getElem_set]
  by_cases e : k = i
  · rw [if_pos e, if_pos e, if_pos e]
  · rw [if_neg e, if_neg e, if_neg e]
theorem WyX.set {ws : List MW} {X : List XR} (h : WyX ws X) (k : Nat) {w : MW} {x : XR} (hx : XH x 50 (.ba 32) (bas w.sd)) : WyX (ws.set k w) (X.set k x) := by
  refine ⟨by rw [List.length_set, List.length_set]; exact h.len, fun i h1 h2 => ?_⟩
  rw [List.length_set] at h1 h2
  rw [List.getElem_set, List.getElem_set]
  by_cases e : k = i
  · rw [if_pos e, if_pos e]; exact hx
  · rw [if_neg e, if_neg e]; exact h.at_ i h1 h2
theorem split_at {α : Type} (X : List α) (k : Nat) (h : k < X.length) : X = X.take k ++ X[k] :: X.drop (k + 1) := by
  rw [List.getElem_cons_drop h, List.take_append_drop]
theorem split_ex {α : Type} (X : List α) (k : Nat) (h : k < X.length) : ∃ X1 x X2, X = X1 ++ x :: X2 ∧ X1.length = k := ⟨X.take k, X[k], X.drop (k + 1), split_at X k h, List.length_take_of_le (by omega)⟩
theorem wyE_getS {ws : List MW} {X1 X2 : List XR} {x : XR} (h : X1.length < ws.length) : (wyE ws (X1 ++ x :: X2)).getD X1.length .any = .st [.v x.v, ws[X1.length].en.av] := by
  rw [wyE_get X1.length h (by simp)]
  simp
theorem set_mid {α : Type} (X1 X2 : List α) (x x' : α) : (X1 ++ x :: X2).set X1.length x' = X1 ++ x' :: X2 := by simp
theorem wyE_setS {ws : List MW} {X1 X2 : List XR} {x : XR} (w' : MW) (x' : XR) : (wyE ws (X1 ++ x :: X2)).set X1.length (.st [.v x'.v, w'.en.av]) = wyE (ws.set X1.length w') (X1 ++ x' :: X2) := by
  rw [wyE_set, set_mid]
theorem WyX.atS {ws : List MW} {X1 X2 : List XR} {x : XR} (h : WyX ws (X1 ++ x :: X2)) (hk : X1.length < ws.length) : XH x 50 (.ba 32) (bas ws[X1.length].sd) := by
  have := h.at_ X1.length hk (by simp)
  simpa using this
theorem WyX.setS {ws : List MW} {X1 X2 : List XR} {x x' : XR} {w' : MW} (h : WyX ws (X1 ++ x :: X2)) (hx : XH x' 50 (.ba 32) (bas w'.sd)) : WyX (ws.set X1.length w') (X1 ++ x' :: X2) := by
  have := h.set X1.length (w := w') hx
  rwa [set_mid] at this
def asd (h : List UInt8) (lo k : Nat) (ws : List MW) : List MW := ws.mapIdx fun i w => if lo ≤ i ∧ i < k then w.aside h else w
theorem asd_len (h : List UInt8) (lo k : Nat) (ws : List MW) : (asd h lo k ws).length = ws.length := by simp [asd]
theorem asd_get (h : List UInt8) (lo k : Nat) (ws : List MW) (i : Nat) (h1 : i < (asd h lo k ws).length) (h2 : i < ws.length) : (asd h lo k ws)[i] = if lo ≤ i ∧ i < k then ws[i].aside h else ws[i] := List.getElem_mapIdx
theorem asd_zero (h : List UInt8) (lo : Nat) (ws : List MW) : asd h lo lo ws = ws := by
  apply List.ext_getElem (asd_len _ _ _ _)
  intro i h1 h2
  rw [asd_get _ _ _ _ _ _ h2, if_neg (by omega)]
theorem asd_at (h : List UInt8) (lo k : Nat) (ws : List MW) (hk : k < ws.length) (hk2 : k < (asd h lo k ws).length) : (asd h lo k ws)[k] = ws[k] := by
  rw [asd_get _ _ _ _ _ _ hk, if_neg (by omega)]
theorem asd_step (h : List UInt8) (lo k : Nat) (ws : List MW) (hk : k < ws.length) (hl : lo ≤ k) : (asd h lo k ws).set k (ws[k].aside h) = asd h lo (k + 1) ws := by
  apply List.ext_getElem (by rw [List.length_set, asd_len, asd_len])
  intro i h1 h2
  have hi : i < ws.length := by rw [asd_len] at h2; exact h2
  rw [List.getElem_set, asd_get _ _ _ _ _ _ hi, asd_get _ _ _ _ _ _ hi]
  by_cases e : k = i
  · subst e; rw [if_pos rfl, if_pos ⟨hl, by omega⟩]
  · rw [if_neg e]
    by_cases hh : lo ≤ i ∧ i < k
    · rw [if_pos hh, if_pos ⟨hh.1, by omega⟩]
    · rw [if_neg hh, if_neg (fun q => hh ⟨q.1, by omega⟩)]
theorem mapIdx_mid {α : Type} (f : α → α) (A W B : List α) : (A ++ W ++ B).mapIdx (fun i w => if A.length ≤ i ∧ i < A.length + W.length then f w else w) = A ++ W.map f ++ B := by
  apply List.ext_getElem (by simp)
  intro i h1 h2
  rw [List.getElem_mapIdx]
  by_cases ha : i < A.length
  · rw [if_neg (by omega), List.getElem_append_left (by rw [List.length_append]; omega), List.getElem_append_left ha, List.getElem_append_left (by rw [List.length_append]; omega), List.getElem_append_left ha]
  by_cases hb : i < A.length + W.length
  · rw [if_pos ⟨by omega, hb⟩, List.getElem_append_left (by rw [List.length_append]; omega), List.getElem_append_right (by omega), List.getElem_append_left (by rw [List.length_append, List.length_map]; omega), List.getElem_append_right (by omega), List.getElem_map]
  · rw [if_neg (by omega), List.getElem_append_right (by rw [List.length_append]; omega), List.getElem_append_right (by rw [List.length_append, List.length_map]; omega)]
    simp only [List.length_append, List.length_map]
theorem asd_mid (h : List UInt8) (A W B : List MW) : asd h A.length (A.length + W.length) (A ++ W ++ B) = A ++ W.map (MW.aside h) ++ B := mapIdx_mid _ _ _ _
/-- The ways' box as a box of ends. -/
theorem wyE_end {A W B : List MW} {X : List XR} (b : Br) (hX : X.length = (A ++ W ++ B).length) :
    wyF (A ++ W ++ B).length A.length A.length true (Nd.one b.key b.v) (fun t => ((A ++ W ++ B).zip X).map (·.2.v) |>.getD t undef) (fun t => ((A ++ W ++ B).map (·.en)).getD t Nd.zero) = wyE (A ++ W ++ B) X ∧
    wyF (A ++ W ++ B).length A.length (A.length + W.length) true (Nd.one b.key b.v) (fun t => ((A ++ W ++ B).zip X).map (·.2.v) |>.getD t undef) (fun t => ((A ++ W ++ B).map (·.en)).getD t Nd.zero) = wyE (A ++ W.map (MW.lf b) ++ B) X := by
  have hv : ∀ i (h : i < (A ++ W ++ B).length) (h2 : i < X.length), (((A ++ W ++ B).zip X).map (·.2.v)).getD i undef = X[i].v := fun i h h2 => by
    rw [List.getD_eq_getElem?_getD, List.getElem?_map, List.getElem?_eq_getElem (by rw [List.length_zip]; omega), Option.map_some, Option.getD_some, List.getElem_zip]
  have hn : ∀ i (h : i < (A ++ W ++ B).length), ((A ++ W ++ B).map (·.en)).getD i Nd.zero = (A ++ W ++ B)[i].en := fun i h => by
    rw [List.getD_eq_getElem?_getD, List.getElem?_map, List.getElem?_eq_getElem h, Option.map_some, Option.getD_some]
  have key : ∀ i (h : i < (A ++ W ++ B).length) (h3 : i < (A ++ W.map (MW.lf b) ++ B).length), (A ++ W.map (MW.lf b) ++ B)[i] = if A.length ≤ i ∧ i < A.length + W.length then MW.lf b (A ++ W ++ B)[i] else (A ++ W ++ B)[i] := fun i h h3 => by
    have := List.getElem_of_eq (mapIdx_mid (MW.lf b) A W B).symm h3
    rw [this, List.getElem_mapIdx]
  refine ⟨List.ext_getElem (by rw [wyF_len, wyE_len hX]) fun i h1 h2 => ?_, List.ext_getElem (by rw [wyF_len, wyE_len (by simpa using hX)]; simp) fun i h1 h2 => ?_⟩
  · have h3 := h1
    rw [wyF_len] at h3
    rw [wyF_elem, wyE_elem i h2 h3 (by omega), if_neg (by omega)]
    rw [hv i h3 (by omega), hn i h3]
  · have h3 := h1
    rw [wyF_len] at h3
    have h4 : i < (A ++ W.map (MW.lf b) ++ B).length := by simpa using h3
    rw [wyF_elem, wyE_elem i h2 h4 (by omega), key i h3 h4]
    rw [hv i h3 (by omega)]
    by_cases hh : A.length ≤ i ∧ i < A.length + W.length
    · rw [if_pos ⟨rfl, hh⟩, if_pos hh]; rfl
    · rw [if_neg (fun q => hh q.2), if_neg hh, hn i h3]
theorem WyX.end_ {A W B : List MW} {X : List XR} (b : Br) (h : WyX (A ++ W ++ B) X) : WyX (A ++ W.map (MW.lf b) ++ B) X := by
  refine ⟨by have := h.len; simpa using this, fun i h1 h2 => ?_⟩
  have hl := h.len
  have q := h.at_ i (by omega) h2
  have : ((A ++ W.map (MW.lf b) ++ B)[i]).sd = ((A ++ W ++ B)[i]'(by omega)).sd := by
    have := List.getElem_of_eq (mapIdx_mid (MW.lf b) A W B).symm h1
    rw [this, List.getElem_mapIdx]
    split <;> rfl
  rw [this]; exact q
end Go.Proofs.Ytigmpdhnhkdeiaa
/- Digests put aside of ways, in a reader of a sketch for keys: multi.aside. -/
namespace Go.Proofs.Ytigmpdhnhkdeiaa
open Go Go.RowKit
abbrev mrdB (rest : List Br) (e : List UInt8) (n : Nat) (ws : List MW) (X : List XR) : List (Ty × AV) := [(mrdT, .st [.sl brT (brs rest) none, .ba e, .vw 1 0 n]), (.vc 68 pfT0, .vc 0 (wyE ws X))]
attribute [local irreducible] wpT
set_option maxRecDepth 20000 in
set_option maxHeartbeats 16000000 in
theorem maside_v (rest : List Br) (e : List UInt8) (he : e.length = 32) (h : List UInt8) (hh : h.length = 32) (ws : List MW) (hw : ∀ w ∈ ws, w.sd.length ≤ 1000) (n : Nat) (hnw : ws.length = n) (hn : n ≤ 64) (lo hi : Nat) (hlo : lo ≤ hi) (hhi : hi ≤ n) (X : List XR) (hW : WyX ws X) :
    VY Try.prog 230 (mrdB rest e n ws X) [.ptr 0 [], .ba h, .v (.int .i64 (lo : Int)), .v (.int .i64 (hi : Int))] X
      (fun X' bx' res => WyX (asd h lo hi ws) X' ∧ bx' = mrdB rest e n (asd h lo hi ws) X' ∧ res = .tup []) := by
  have hl0 : (wyE ws X).length = n := by rw [wyE_len hW.len]; exact hnw
  refine v_enterY Try.func230 rfl (by kernel_rfl) (by show 4 ≤ 33; decide) ?_
  intro L N w0 a w hL hN0 hR0 H
  have hM : N.bx.length ≤ 2 ∧ N.rw.length ≤ 0 := ⟨hN0, hR0⟩
  clear hN0 hR0
  obtain ⟨N1, hB, hZ, H, hN1, hR1⟩ := H.open_
  have hN : N1.bx.length ≤ 2 := Nat.le_of_eq hN1
  have hR : N1.rw.length ≤ 0 := Nat.le_of_eq hR1
  clear hN1 hR1
  have hX := And.intro @he (And.intro @hh (@hl0))
  refine mW ?_; clear H; intro a w H
  replace H := v_ref H 5 2 (Nat.le_trans hN (Nat.le_of_ble_eq_true rfl)) rfl rfl rfl
  simp only [nilT, strip, List.map_cons, List.map_nil, reduceIte, Nat.reduceEqDiff] at H
  refine v_loopI (fun k a w => ∃ X : List XR, WyX (asd h lo k ws) X ∧ RelY L Try.prog w0 N Try.f230.ntmps ⟨[(8, none, .v (.int .i64 ((k : Nat) : Int))), (5, none, .ref (.ba 32) (.ba h)), (3, none, .v (.int .i64 (hi : Int))), (0, none, .ptr 0 [])],
    [(mrdT, .st [.sl brT (brs rest) none, .ba e, .vw 1 0 n]), (.vc 68 pfT0, .vc 0 (wyE (asd h lo k ws) X)), (.ba 32, .ba h)], [2], []⟩ X a w) (fun k => lo ≤ k ∧ k ≤ hi) (fun k => hi - k) lo ⟨Nat.le_refl _, hlo⟩
    ⟨X, by rw [asd_zero]; exact hW, by rw [asd_zero]; exact RelY.close hB hZ (H.to 3 0 ⟨Nat.le_trans hN (Nat.le_of_ble_eq_true rfl), hR⟩ ⟨rfl, rfl, rfl, rfl, trivial⟩ rfl rfl rfl rfl rfl)⟩ ?_
  clear H hB hZ hN hR hW hl0
  rintro k a w1 hk ⟨X, hW, H⟩
  obtain ⟨hk1, hk2⟩ := hk
  obtain ⟨N1, hB, hZ, H, hN1, hR1⟩ := H.open_
  have hN : N1.bx.length ≤ 3 := Nat.le_of_eq hN1
  have hR : N1.rw.length ≤ 0 := Nat.le_of_eq hR1
  clear hN1 hR1
  have hlk : (wyE (asd h lo k ws) X).length = n := by rw [wyE_len hW.len, asd_len]; exact hnw
  clear hX; have hX := And.intro @he (And.intro @hh (@hlk))
  refine mW ?_; clear H; intro a w H
  refine mC H (fun hb => ?_) (fun hb => ?_)
  · have hlt : k < hi := by rw [decide_eq_true_eq] at hb; omega
    clear hb
    have hkw : k < ws.length := by omega
    have hXl := hW.len
    rw [asd_len] at hXl
    obtain ⟨X1, x, X2, rfl, rfl⟩ := split_ex X k (by omega)
    have hka : X1.length < (asd h lo X1.length ws).length := by rw [asd_len]; exact hkw
    have hg := wyE_getS (x := x) (X2 := X2) hka
    have hx0 := hW.atS hka
    rw [asd_at h lo X1.length ws hkw] at hg hx0
    have hst := asd_step h lo X1.length ws hkw hk1
    have hwl := hw _ (List.getElem_mem hkw)
    have hsl := bas_len ws[X1.length].sd
    generalize ws[X1.length] = v at *
    have hbe : (bas v.sd).take v.sd.length ++ [AV.ba h] = bas (v.aside h).sd := by
      rw [List.take_of_length_le (by omega)]; simp [bas, MW.aside]
    refine mS ?_
    clear hX; have hX := And.intro @he (And.intro @hh (And.intro @hlk (And.intro @hg (@hsl))))
    repeat (first | refine wp_seq ?_ | refine wp_block ?_)
    refine v_drawZ 0 [0, 1, 2, 4, 5, 6, 7, 9, 13, 8, 10, 11, 12, 3, 14, 15, 16, 17, 18] [3, 8, 12, 14, 15, 18] [0, 1, 2, 4, 5, 6, 7, 9, 10, 11, 13] [(8, 3), (12, 3), (3, 14), (3, 15), (8, 14), (12, 14), (1015, 14)] (by kernel_rfl) (by kernel_rfl) (by kernel_rfl) (by kernel_rfl) (by kernel_rfl) H (by rfl) ?_; clear H; intro gS H; try replace H := ntf H
    repeat' ((first | refine wpZ_q1 rfl rfl ?_ | refine wpZ_l1 rfl rfl rfl ?_ | refine wpZ_l2 rfl rfl rfl rfl rfl ?_ ?_ | refine wpZ_l3 rfl rfl rfl rfl rfl rfl rfl ?_ ?_ ?_ | refine wpZ_l4 rfl rfl rfl rfl rfl rfl rfl rfl rfl ?_ ?_ ?_ ?_) <;> ((first | (refine wpT_at 15 ?_; obtain ⟨g9, hL9, hb9, hr9, H⟩ := v_lendT (RelYT.close hB hZ H) hx0 27 rfl; simp only [nilT, reduceIte, Nat.reduceEqDiff] at H; replace H := ntf H; have hN9 : (g9.push (x.box 50 (.ba 32))).bx.length ≤ 4 := (by simp [Gh.push, hb9]); refine v_someT 1 tab_ok hN9 H rfl ctX ?_; clear H; intro a w H; replace H := ntf H; simp only [hbe] at H; obtain ⟨x', hx', H⟩ := v_giveT (bx := [(mrdT, _), (.vc 68 pfT0, _), (.ba 32, _)]) (e := 50) (T := .ba 32) (γ := 1) hL hL9 hb9 H [0, 3, 5, 8, 10, 11, 12, 15, 16, 17, 18, 19, 20, 21, 22, 23, 24, 25, 26, 28, 31, 32] 30 (v.sd.length + 1) (by simp [MW.aside, bas]) rfl rfl (by simp [bas, flat]) rfl rfl (Nat.zero_le _); obtain ⟨N2, hB2, hZ2, H, hN3, hR3⟩ := H.open_; replace H := ntf H; clear hN hB hZ; have hN : N2.bx.length ≤ 3 := Nat.le_of_eq hN3) | (refine v_someT 1 tab_ok hN H rfl ctX ?_; clear H; intro a w H; replace H := ntf H; simp only [List.drop_succ_cons, List.drop_zero, List.drop_nil])); refine wpT_nil ?_; try dsimp only))
    all_goals (refine wpZ_nil ?_; replace H := RelT.toRel H)
    all_goals
      have e9 : (wyE (asd h lo X1.length ws) (X1 ++ x :: X2)).set X1.length (.st [.v x'.v, v.en.av]) = wyE (asd h lo (X1.length + 1) ws) (X1 ++ x' :: X2) := (wyE_setS (v.aside h) x').trans (by rw [hst])
      have hW2 : WyX (asd h lo (X1.length + 1) ws) (X1 ++ x' :: X2) := by rw [← hst]; exact hW.setS hx'
      have hR : N2.rw.length ≤ 1 := Nat.le_of_eq hR3
      rw [e9] at H
      refine mS ?_
      clear hX; have hX := @hh
      refine mW ?_; clear H; intro a w H
      rw [show (X1.length : Int) + 1 = ((X1.length + 1 : Nat) : Int) by omega] at H
      exact ⟨X1.length + 1, ⟨by omega, hlt⟩, by omega, X1 ++ x' :: X2, hW2, (RelY.close hB2 hZ2 H).to 3 0 ⟨Nat.le_trans hM.1 (Nat.le_of_ble_eq_true rfl), hM.2⟩ ⟨rfl, rfl, rfl, rfl, trivial⟩ rfl rfl rfl rfl rfl⟩
  · have hge : k = hi := by rw [decide_eq_false_iff_not] at hb; omega
    clear hb
    subst hge
    refine mW ?_; clear H; intro a w H
    exact v_endY (rs := []) (ress := []) (nb := 2) (nr := 0) [0, 1] tab_ok hM rfl (RelY.close hB hZ H) (by rfl) rfl cbX trivial rfl ⟨hW, rfl, rfl⟩
end Go.Proofs.Ytigmpdhnhkdeiaa
/- Parts of a sketch that are clean: ref20.clean. -/
namespace Go.Proofs.Ytigmpdhnhkdeiaa
open Go Go.RowKit
end Go.Proofs.Ytigmpdhnhkdeiaa
/- Parts that are clean: mpack.clean, multi.clean, ref21.clean. -/
namespace Go.Proofs.Ytigmpdhnhkdeiaa
open Go Go.RowKit
set_option maxRecDepth 20000 in
theorem uclean_v (b : Br) (hw : b.wf) : VC Try.prog 226 [b.av] [] (.v (.bool b.clean)) := by
  obtain ⟨h1, h2, h3⟩ := id hw
  obtain ⟨k, key, v, g⟩ := b
  dsimp only at h1 h2 h3
  have hz2 := z32_len
  have hzl : (List.replicate 32 (0 : UInt8)).length = 32 := List.length_replicate
  have k0 : decide ((k.toNat : Int) = 0) = decide (k = 0) := kz k 0 (by decide)
  have k1 : decide ((k.toNat : Int) = 1) = decide (k = 1) := kz k 1 (by decide)
  have k2 : decide ((k.toNat : Int) = 2) = decide (k = 2) := kz k 2 (by decide)
  have k3 : decide ((k.toNat : Int) = 3) = decide (k = 3) := kz k 3 (by decide)
  refine mE Try.func226 ?_; intro N w0 a w hN hR H
  simp only [Br.av] at H
  have hX := @hzl
  have hY := And.intro @h1 (And.intro @h2 (@h3))
  refine mW ?_; clear H; intro a w H
  refine mC H (fun hb => ?_) (fun hb => ?_)
  · rw [k0, decide_eq_true_eq] at hb
    subst hb
    refine mW ?_; clear H; intro a w H
    refine mC H (fun hb => ?_) (fun hb => ?_)
    · refine mW ?_; clear H; intro a w H
      rw [clean0]
      refine wp_ret ?_; exact mEnd [] [] [.tmp 2] [_] hN hR H
    · exact absurd hb (by decide)
  · rw [k0, decide_eq_false_iff_not] at hb
    have hk0 := hb
    clear hb
    refine mW ?_; clear H; intro a w H
    refine mC H (fun hb => ?_) (fun hb => ?_)
    · rw [k2, decide_eq_true_eq] at hb
      subst hb
      refine mW ?_; clear H; intro a w H
      rw [clean2]
      refine wp_ret ?_; exact mEnd [] [] [.tmp 2] [_] hN hR H
    · rw [k2, decide_eq_false_iff_not] at hb
      have hk2 := hb
      clear hb
      refine mW ?_; clear H; intro a w H
      refine mC H (fun hb => ?_) (fun hb => ?_)
      · rw [k1, decide_eq_true_eq] at hb
        subst hb
        refine mW ?_; clear H; intro a w H
        rw [clean1]
        refine wp_ret ?_; exact mEnd [] [] [.tmp 2] [_] hN hR H
      · rw [k1, decide_eq_false_iff_not] at hb
        have hk1 := hb
        clear hb
        refine mW ?_; clear H; intro a w H
        refine mC H (fun hb => ?_) (fun hb => ?_)
        · rw [k3, decide_eq_true_eq] at hb
          subst hb
          refine mW ?_; clear H; intro a w H
          rw [clean3]
          refine wp_ret ?_; exact mEnd [] [] [.tmp 2] [_] hN hR H
        · rw [k3, decide_eq_false_iff_not] at hb
          refine mW ?_; clear H; intro a w H
          have e : Br.clean ⟨k, key, v, g⟩ = false := by
            unfold Br.clean
            rw [if_neg (by simp [hk0, hk2]), if_neg hk1, if_neg hb]
          rw [e]
          refine wp_ret ?_; exact mEnd [] [] [.tmp 2] [_] hN hR H
end Go.Proofs.Ytigmpdhnhkdeiaa
