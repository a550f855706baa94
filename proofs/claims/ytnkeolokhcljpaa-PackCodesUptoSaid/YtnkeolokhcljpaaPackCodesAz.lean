/- The arguments of a statement, as values; what a statement's form asks for, out of a contract in values. -/
import Derived.Test.YtnkeolokhcljpaaRows
import Derived.Test.YtnkeolokhcljpaaWayP
import Derived.OpenShut
import Derived.Carry
import Derived.WalkKit
import Derived.ProofKit
import Derived.JoinedCond
import Derived.Test.YtnkeolokhcljpaaThaw
import Derived.Lib.SliceRun
import Derived.Test.YtnkeolokhcljpaaPackP
set_option linter.unusedSimpArgs false
set_option linter.unusedVariables false
namespace Go.Proofs.Ytnkeolokhcljpaa
open Go Go.RowKit
theorem bulk_part {H : Type} {d : DataW H} : ∀ {l : List (DataW H)}, d ∈ l → Rows.uptoBulk d ≤ Rows.uptoBulkAll l
  | x :: l, h => by
    rcases List.mem_cons.1 h with e | e
    · subst e; simp only [Rows.uptoBulkAll]; omega
    · have := bulk_part e; simp only [Rows.uptoBulkAll]; omega
theorem bulk_one {H : Type} (d : DataW H) : 1 ≤ Rows.uptoBulk d := by
  cases d with
  | lit l => cases l <;> simp [Rows.uptoBulk]
  | _ => simp [Rows.uptoBulk]
theorem bulk_len {H : Type} : ∀ l : List (DataW H), l.length ≤ Rows.uptoBulkAll l
  | [] => by simp
  | x :: l => by have := bulk_one x; have := bulk_len l; simp only [Rows.uptoBulkAll, List.length_cons]; omega
def isU8 (τ : Tab) (e : Nat) : Bool := match Tab.get e τ with
  | some j => (match j.d with | .int .u8 => true | _ => false)
  | none => false
def tyOf (τ : Tab) (e : Nat) : Ty := match Tab.get e τ with
  | some j => j.ty
  | none => .sc
def ShL (f : Nat → AV → Prop) : List Nat → List AV → Prop
  | [], [] => True
  | t :: ts, a :: az => f t a ∧ ShL f ts az
  | _, _ => False
/-- The values that a type may have: each stretch no longer than M. -/
def Sh (τ : Tab) (M : Nat) : Nat → Nat → AV → Prop
  | 0, _, _ => False
  | d + 1, t, a => match (Tab.get t τ).map TI.d with
    | some (.int k) => ∃ n, a = .v (.int k n) ∧ ilo k ≤ n ∧ n ≤ ihi k
    | some .bool => ∃ b, a = .v (.bool b)
    | some .str => ∃ s : ByteArray, a = .v (.string s) ∧ s.size ≤ M
    | some (.slc e) => if isU8 τ e then ∃ l, a = .bs l none ∧ l.length ≤ M else ∃ es, a = .sl (tyOf τ e) es none ∧ es.length ≤ M ∧ ∀ x ∈ es, Sh τ M d e x
    | some (.arr n _) => ∃ l, a = .ba l ∧ l.length = n
    | some (.rcd fs) => ∃ az, a = .st az ∧ ShL (Sh τ M d) (fs.map (·.2)) az
    | _ => False
def lay (τ : Tab) : List (Nat × Nat) → Nat → Ty → Bool
  | [], _, .nl => true
  | (o, t) :: fs, off, .cn T Ts => o == off && (Tab.get t τ).isSome && tyOf τ t == T && lay τ fs (off + T.size) Ts
  | _, _, _ => false
def okT (τ : Tab) : Nat → Nat → Bool
  | 0, _ => false
  | d + 1, t => match Tab.get t τ with
    | some i => (match i.d with
      | .int _ => i.ty == .sc
      | .bool => i.ty == .sc
      | .str => i.ty == .sc
      | .slc e => i.ty == .sc && (Tab.get e τ).isSome && decide (0 < (tyOf τ e).size) && (isU8 τ e && tyOf τ e == .sc || !isU8 τ e && okT τ d e)
      | .arr n e => isU8 τ e && i.ty == .ba n && tyOf τ e == .sc
      | .rcd fs => lay τ fs 0 i.ty && i.ty.agg && fs.all fun f => okT τ d f.2
      | _ => false)
    | none => false
section
variable {τ : Tab} {M d t : Nat} {a : AV} {i : TI}
theorem Sh.int {k : IntKind} (ht : Tab.get t τ = some i) (hd : i.d = .int k) (h : Sh τ M (d + 1) t a) : ∃ n, a = .v (.int k n) ∧ ilo k ≤ n ∧ n ≤ ihi k := by
  unfold Sh at h; simp only [ht, Option.map_some, hd] at h; exact h
theorem Sh.bool (ht : Tab.get t τ = some i) (hd : i.d = .bool) (h : Sh τ M (d + 1) t a) : ∃ b, a = .v (.bool b) := by
  unfold Sh at h; simp only [ht, Option.map_some, hd] at h; exact h
theorem Sh.str (ht : Tab.get t τ = some i) (hd : i.d = .str) (h : Sh τ M (d + 1) t a) : ∃ s : ByteArray, a = .v (.string s) ∧ s.size ≤ M := by
  unfold Sh at h; simp only [ht, Option.map_some, hd] at h; exact h
theorem Sh.bytes {e : Nat} (ht : Tab.get t τ = some i) (hd : i.d = .slc e) (hu : isU8 τ e = true) (h : Sh τ M (d + 1) t a) : ∃ l, a = .bs l none ∧ l.length ≤ M := by
  unfold Sh at h; simp only [ht, Option.map_some, hd, hu, if_true] at h; exact h
theorem Sh.slc {e : Nat} (ht : Tab.get t τ = some i) (hd : i.d = .slc e) (hu : isU8 τ e = false) (h : Sh τ M (d + 1) t a) : ∃ es, a = .sl (tyOf τ e) es none ∧ es.length ≤ M ∧ ∀ x ∈ es, Sh τ M d e x := by
  unfold Sh at h; simp only [ht, Option.map_some, hd, hu, Bool.false_eq_true, if_false] at h; exact h
theorem Sh.arr {n e : Nat} (ht : Tab.get t τ = some i) (hd : i.d = .arr n e) (h : Sh τ M (d + 1) t a) : ∃ l, a = .ba l ∧ l.length = n := by
  unfold Sh at h; simp only [ht, Option.map_some, hd] at h; exact h
theorem Sh.rcd {fs : List (Nat × Nat)} (ht : Tab.get t τ = some i) (hd : i.d = .rcd fs) (h : Sh τ M (d + 1) t a) : ∃ az, a = .st az ∧ ShL (Sh τ M d) (fs.map (·.2)) az := by
  unfold Sh at h; simp only [ht, Option.map_some, hd] at h; exact h
theorem shl_nil {f : Nat → AV → Prop} {az : List AV} (h : ShL f [] az) : az = [] := by
  cases az with
  | nil => rfl
  | cons _ _ => exact h.elim
theorem shl_cons {f : Nat → AV → Prop} {t : Nat} {ts : List Nat} {az : List AV} (h : ShL f (t :: ts) az) : ∃ a r, az = a :: r ∧ f t a ∧ ShL f ts r := by
  cases az with
  | nil => exact h.elim
  | cons a r => exact ⟨a, r, rfl, h.1, h.2⟩
/-- Elements, each of a form. -/
theorem sh_list {α : Type} {p : AV → Prop} {q : α → Prop} {f : α → AV} (hp : ∀ x, p x → ∃ y, x = f y ∧ q y) : ∀ {es : List AV}, (∀ x ∈ es, p x) → ∃ ys : List α, es = ys.map f ∧ ∀ y ∈ ys, q y
  | [], _ => ⟨[], rfl, fun y h => by cases h⟩
  | x :: es, h => by
    obtain ⟨y, rfl, hy⟩ := hp x (h x List.mem_cons_self)
    obtain ⟨ys, rfl, hys⟩ := sh_list hp (es := es) fun x hx => h x (List.mem_cons_of_mem _ hx)
    exact ⟨y :: ys, rfl, fun z hz => by rcases List.mem_cons.1 hz with e | e; (subst e; exact hy); exact hys z e⟩
theorem u8_of {n : Int} (h : ilo .u8 ≤ n ∧ n ≤ ihi .u8) : ∃ k : UInt8, Value.int .u8 n = B8 k := ⟨UInt8.ofNat n.toNat, by
  simp only [ilo, ihi] at h
  simp only [B8, UInt8.toNat_ofNat']
  congr 1; omega⟩
end
/-- All cells of a memory. -/
def allOf (w : World) : Gh := ⟨fun b o => w.cell? ⟨b, o, none⟩, [], []⟩
section
variable {H : Type} {enc : TypeId × Value → H} {P : Program} {τ : Tab} {w : World} {sp : Nat → Bool} {held : Bool} {M : Nat}
theorem wf_lohi {k : IntKind} {n : Int} (h : (Lit.int k n).wf = true) : ilo k ≤ n ∧ n ≤ ihi k := by
  cases k <;> simp [Lit.wf, IntKind.min, IntKind.max, IntKind.signed, IntKind.bits] at h <;> simp only [ilo, ihi] <;> omega
theorem isU8_ok (hτ : τ.ok P) {e : Nat} (h : isU8 τ e = true) : P.underlying e = some (.int .u8) := by
  unfold isU8 at h
  split at h
  · rename_i j hj
    have hok := (Tab.get_ok hτ hj).d
    split at h
    · rename_i hd; rw [hd] at hok; exact hok
    · cases h
  · cases h
theorem cells_ty (hτ : τ.ok P) {e : Nat} (h : (Tab.get e τ).isSome = true) : P.cellsOf e = (tyOf τ e).size := by
  unfold tyOf
  cases hj : Tab.get e τ with
  | none => rw [hj] at h; cases h
  | some j =>
    obtain ⟨inf, z, h1, h2, _⟩ := (Tab.get_ok hτ hj).info
    simp [Program.cellsOf, h1, h2]
theorem isU8_some {e : Nat} (h : isU8 τ e = true) : (Tab.get e τ).isSome = true := by
  unfold isU8 at h
  split at h
  · rename_i j hj; rw [hj]; rfl
  · cases h
theorem B8_of {n : Int} (h : 0 ≤ n ∧ n ≤ 255) : B8 (UInt8.ofNat n.toNat) = .int .u8 n := by
  simp only [B8, UInt8.toNat_ofNat']
  congr 1; omega
theorem trod_rc (hτ : τ.ok P) : ∀ (d : Nat) {t fuel : Nat} {cs : List Value} {x : DataW H × List MemPlace}, okT τ d t = true → DataW.trod enc P w 0 sp held fuel t cs = some x → Rows.uptoBulk x.1 ≤ M →
    ∃ a, Sh τ M d t a ∧ RC (allOf w) (tyOf τ t) a cs := by
  intro d
  induction d with
  | zero => intro t fuel cs x h; cases h
  | succ d ih =>
    intro t fuel cs x hok hx hM
    unfold okT at hok
    cases hg : Tab.get t τ with
    | none => rw [hg] at hok; cases hok
    | some i =>
    rw [hg] at hok
    have hi := Tab.get_ok hτ hg
    have hty : tyOf τ t = i.ty := by unfold tyOf; rw [hg]
    have hdd := hi.d
    have hsz : P.cellsOf t = i.ty.size := by rw [← hty]; exact cells_ty hτ (by rw [hg]; rfl)
    rw [hty]
    dsimp only at hok
    have sh : ∀ a, (match some i.d with
      | some (.int k) => ∃ n, a = AV.v (.int k n) ∧ ilo k ≤ n ∧ n ≤ ihi k
      | some .bool => ∃ b, a = .v (.bool b)
      | some .str => ∃ s : ByteArray, a = .v (.string s) ∧ s.size ≤ M
      | some (.slc e) => if isU8 τ e then ∃ l, a = .bs l none ∧ l.length ≤ M else ∃ es, a = .sl (tyOf τ e) es none ∧ es.length ≤ M ∧ ∀ x ∈ es, Sh τ M d e x
      | some (.arr n _) => ∃ l, a = .ba l ∧ l.length = n
      | some (.rcd fs) => ∃ az, a = .st az ∧ ShL (Sh τ M d) (fs.map (·.2)) az
      | _ => False) → Sh τ M (d + 1) t a := fun a h => by unfold Sh; rw [hg]; exact h
    generalize hdi : i.d = D' at hok hdd sh
    cases D' with
    | int k =>
      obtain ⟨n, rfl, rfl, hw⟩ := DataW.trod_int hdd hx
      rw [eq_of_beq hok]
      exact ⟨.v (.int k n), sh _ ⟨n, rfl, wf_lohi hw⟩, .v rfl⟩
    | bool =>
      obtain ⟨b, rfl, rfl⟩ := DataW.trod_bool hdd hx
      rw [eq_of_beq hok]
      exact ⟨.v (.bool b), sh _ ⟨b, rfl⟩, .v rfl⟩
    | str =>
      obtain ⟨s, rfl, rfl, hs⟩ := DataW.trod_string hdd hx
      rw [eq_of_beq hok]
      refine ⟨.v (.string s), sh _ ⟨s, rfl, ?_⟩, .v rfl⟩
      simp only [Rows.uptoBulk] at hM
      have : s.data.toList.length = s.size := by rw [Array.length_toList]; rfl
      omega
    | slc e =>
      simp only [Bool.and_eq_true, Bool.or_eq_true, Bool.not_eq_true', decide_eq_true_eq] at hok
      obtain ⟨⟨⟨h1, h2⟩, h3⟩, h4⟩ := hok
      have hce := cells_ty hτ h2
      rw [eq_of_beq h1]
      by_cases hu : isU8 τ e = true
      · have hu1 : tyOf τ e = .sc := by rcases h4 with h4 | h4; exact eq_of_beq h4.2; rw [h4.1] at hu; cases hu
        have hs0 : P.cellsOf e = 1 := by rw [hce, hu1]; rfl
        rcases ChangeShapes.open_ints hdd (isU8_ok hτ hu) hs0 hx with ⟨rfl, rfl⟩ | ⟨A, len, cap, zs, rfl, _, hl, hm, hz, rfl, hc, hw⟩
        · refine ⟨.bs [] none, sh _ ?_, RC.nil1 rfl⟩
          show ite _ _ _
          rw [if_pos hu]; exact ⟨[], rfl, Nat.zero_le _⟩
        · have hlz : len ≤ zs.length := by rw [hz]; split <;> omega
          have hll : ((zs.take len).map fun n => UInt8.ofNat n.toNat).length = len := by simp [hlz]
          refine ⟨.bs ((zs.take len).map fun n => UInt8.ofNat n.toNat) none, sh _ ?_, ?_⟩
          · show ite _ _ _
            rw [if_pos hu]
            refine ⟨_, rfl, ?_⟩
            rw [hll]
            simp only [Rows.uptoBulk] at hM
            have h5 := bulk_len (ChangeShapes.lits (H := H) .u8 (zs.take len))
            have h6 : (ChangeShapes.lits (H := H) .u8 (zs.take len)).length = len := by simp [ChangeShapes.lits, hlz]
            omega
          · have := RC.bs (g := allOf w) (l := (zs.take len).map fun n => UInt8.ofNat n.toNat) (tok := none) (A := some A) (c := cap) (by rw [hll]; exact hl) hm ?_ (fun i hi => by cases hi)
            · rw [hll] at this; exact this
            · rcases Nat.eq_zero_or_pos len with h0 | h0
              · left; rw [h0]; rfl
              · right
                obtain ⟨b, o, rfl, hcc⟩ := ints_at hc (by omega)
                refine ⟨b, o, rfl, fun j hj => ?_⟩
                rw [hll] at hj
                have h7 := hcc j (by omega)
                show w.cell? _ = _
                rw [h7]
                have h8 : zs.getD j 0 = zs[j]'(by omega) := by simp [List.getD, show j < zs.length by omega]
                have h9 := wf_lohi (hw _ (List.getElem_mem (show j < zs.length by omega)))
                simp only [ilo, ihi] at h9
                rw [h8]
                simp only [List.getElem_map, List.getElem_take]
                rw [B8_of h9]
      · have h4' : okT τ d e = true := by rcases h4 with h4 | h4; exact absurd h4.1 hu; exact h4.2
        rcases DataW.trod_slice hdd hx with ⟨rfl, rfl⟩ | ⟨A, len, cap, elems, rest, n, _, rfl, rfl, _, hl, hm, hlen, hel, _, _⟩
        · refine ⟨.sl (tyOf τ e) [] none, sh _ ?_, RC.nil2 rfl⟩
          show ite _ _ _
          rw [if_neg hu]; exact ⟨[], rfl, Nat.zero_le _, fun x hx => by cases hx⟩
        · simp only [Rows.uptoBulk] at hM
          have hb1 := bulk_len (elems.map (·.1))
          rw [List.length_map, hlen] at hb1
          have each : ∀ k, ∃ p : List Value × AV, k < len → w.cells? 0 (A.add (k * P.cellsOf e)) (P.cellsOf e) = some p.1 ∧ Sh τ M d e p.2 ∧ RC (allOf w) (tyOf τ e) p.2 p.1 := fun k => by
            by_cases hk : k < len
            · have h5 := hel k hk
              rw [List.getElem?_eq_getElem (by omega)] at h5
              obtain ⟨cs', h6, h7⟩ := Option.bind_eq_some_iff.1 h5
              have h8 : Rows.uptoBulk (elems[k]'(by omega)).1 ≤ M := by
                have := bulk_part (List.mem_map_of_mem (f := (·.1)) (List.getElem_mem (show k < elems.length by omega)))
                omega
              obtain ⟨a, ha1, ha2⟩ := ih h4' h7 h8
              exact ⟨(cs', a), fun _ => ⟨h6, ha1, ha2⟩⟩
            · exact ⟨([], .any), fun h => absurd h hk⟩
          obtain ⟨f, hf⟩ := Classical.axiomOfChoice each
          have hll : ((List.range len).map fun k => (f k).2).length = len := by simp
          refine ⟨.sl (tyOf τ e) ((List.range len).map fun k => (f k).2) none, sh _ ?_, ?_⟩
          · show ite _ _ _
            rw [if_neg hu]
            refine ⟨_, rfl, by rw [hll]; omega, fun x hx => ?_⟩
            obtain ⟨k, hk, rfl⟩ := List.mem_map.1 hx
            exact (hf k (List.mem_range.1 hk)).2.1
          · have := RC.sl (g := allOf w) (T := tyOf τ e) (es := (List.range len).map fun k => (f k).2) (tok := none) (A := some A) (c := cap) (by rw [hll]; exact hl) hm (fun k => (f k).1) ?_ (fun k hk => ?_) (fun i hi => by cases hi)
            · rw [hll] at this; exact this
            · rcases Nat.eq_zero_or_pos len with h0 | h0
              · left; rw [h0]; rfl
              · right
                obtain ⟨b, o, spot⟩ := A
                have hs0 : spot = none := by
                  obtain ⟨_, h6, h7⟩ := World.cells?_some (hf 0 h0).1
                  have h8 := h7 0 (by omega)
                  have : 0 < (f 0).1.length := by omega
                  rw [List.getElem?_eq_getElem this] at h8
                  have := World.cell?_spot h8
                  simpa [Addr.add] using this
                subst hs0
                refine ⟨b, o, rfl, fun k hk j u hu => ?_⟩
                rw [hll] at hk
                obtain ⟨_, h6, h7⟩ := World.cells?_some (hf k hk).1
                have hj := (List.getElem?_eq_some_iff.1 hu).1
                have h8 := h7 j (by omega)
                rw [hu, addr_add, addr_add, hce] at h8
                exact h8
            · have hk' : k < len := by rw [hll] at hk; exact hk
              simp only [List.getElem_map, List.getElem_range]
              exact (hf k hk').2.2
    | arr n e =>
      simp only [Bool.and_eq_true] at hok
      obtain ⟨⟨h1, h2⟩, h3⟩ := hok
      have hce : P.cellsOf e = 1 := by rw [cells_ty hτ (isU8_some h1), eq_of_beq h3]; rfl
      obtain ⟨xs, m, _, rfl, hcl, hxl, hx1⟩ := DataW.trod_array hdd.1 hx
      rw [eq_of_beq h2]
      have hn : cs.length = n := by rw [hcl, hsz, eq_of_beq h2]; rfl
      have key : ∀ k (hk : k < cs.length), ∃ q : Int, cs[k] = .int .u8 q ∧ 0 ≤ q ∧ q ≤ 255 := fun k hk => by
        have h5 := hx1 k (by omega)
        rw [List.getElem?_eq_getElem (by omega)] at h5
        obtain ⟨q, h6, _, h7⟩ := DataW.trod_int (isU8_ok hτ h1) h5
        rw [hce, Nat.mul_one] at h6
        have h8 : ((cs.drop k).take 1)[0]? = some (.int .u8 q) := by rw [h6]; rfl
        rw [List.getElem?_take, if_pos (by decide), List.getElem?_drop, Nat.add_zero, List.getElem?_eq_getElem hk] at h8
        injection h8 with h8
        have := wf_lohi h7
        exact ⟨q, h8, this⟩
      have hcs : cs = (cs.map fun v => match v with | .int _ q => UInt8.ofNat q.toNat | _ => 0).map B8 := by
        apply List.ext_getElem
        · simp
        · intro k hk _
          obtain ⟨q, h5, h6⟩ := key k hk
          simp only [List.getElem_map, h5]
          exact (B8_of h6).symm
      obtain ⟨l, hl⟩ : ∃ l : List UInt8, cs = l.map B8 := ⟨_, hcs⟩
      subst hl
      exact ⟨.ba l, sh _ ⟨l, rfl, by simpa using hn⟩, .ba (by simpa using hn)⟩
    | rcd fs =>
      simp only [Bool.and_eq_true, List.all_eq_true] at hok
      obtain ⟨⟨h1, h2⟩, h3⟩ := hok
      obtain ⟨F, hu, hF, _⟩ := hdd
      obtain ⟨xs, m, _, rfl, hcl, hxl, hx1⟩ := DataW.trod_struct hu hx
      simp only [Rows.uptoBulk] at hM
      rw [hsz] at hcl
      have key : ∀ (L : List (Nat × Nat)) (off : Nat) (T : Ty) (k : Nat), fs.drop k = L → lay τ L off T = true → cs.length = off + T.size → ∃ az, ShL (Sh τ M d) (L.map (·.2)) az ∧ RC (allOf w) T (.st az) (cs.drop off) := by
        intro L
        induction L with
        | nil =>
          intro off T k _ hlay hc
          cases T with
          | nl => rw [show cs.drop off = [] from List.drop_eq_nil_of_le (by rw [hc]; exact Nat.le_refl _)]; exact ⟨[], trivial, .nl⟩
          | _ => cases hlay
        | cons p L ihL =>
          intro off T k hk hlay hc
          cases T with
          | cn T Ts =>
            obtain ⟨o, ft⟩ := p
            simp only [lay, Bool.and_eq_true] at hlay
            obtain ⟨⟨⟨h4, h5⟩, h6⟩, h7⟩ := hlay
            obtain rfl := eq_of_beq h4
            obtain rfl := eq_of_beq h6
            have hfk : fs[k]? = some (o, ft) := by
              have : (fs.drop k)[0]? = some (o, ft) := by rw [hk]; rfl
              rw [List.getElem?_drop, Nat.add_zero] at this; exact this
            have hFk : ∃ fl, F[k]? = some fl ∧ fl.offset = o ∧ fl.type = ft := by
              rw [← hF, List.getElem?_map] at hfk
              obtain ⟨fl, h8, h9⟩ := Option.map_eq_some_iff.1 hfk
              simp only [Prod.mk.injEq] at h9
              exact ⟨fl, by simpa using h8, h9.1, h9.2⟩
            obtain ⟨fl, hfl, rfl, rfl⟩ := hFk
            have h8 := hx1 k fl hfl
            have hkx : k < xs.length := by rw [hxl]; have := (Array.getElem?_eq_some_iff.1 hfl).1; exact this
            rw [List.getElem?_eq_getElem hkx] at h8
            have h9 : Rows.uptoBulk xs[k].1 ≤ M := by
              have := bulk_part (List.mem_map_of_mem (f := (·.1)) (List.getElem_mem hkx))
              omega
            obtain ⟨a, ha1, ha2⟩ := ih (h3 _ (List.mem_of_getElem? hfk)) h8 h9
            obtain ⟨az, hz1, hz2⟩ := ihL (fl.offset + (tyOf τ fl.type).size) Ts (k + 1) (by rw [← List.drop_drop, hk]; rfl) h7 (by rw [hc]; simp only [Ty.size]; omega)
            refine ⟨a :: az, ⟨ha1, hz1⟩, ?_⟩
            have := RC.cn ha2 hz2
            rw [cells_ty hτ h5, ← List.drop_drop, List.take_append_drop] at this
            exact this
          | _ => cases hlay
      obtain ⟨az, hz1, hz2⟩ := key fs 0 i.ty 0 rfl h1 (by rw [hcl]; omega)
      exact ⟨.st az, sh _ ⟨az, rfl, hz1⟩, hz2⟩
    | _ => cases hok
theorem arg_rv (hτ : τ.ok P) {d t b0 : Nat} {r : Reach} {v : Value} {x : DataW H} {ps : List MemPlace} (hok : okT τ d t = true) (hval : Value.okWide P w r b0 t v) (hx : DataW.Trod enc P w 0 sp held t v x ps) (hM : Rows.uptoBulk x ≤ M) :
    ∃ a, Sh τ M d t a ∧ RV (allOf w) a v := by
  obtain ⟨fuel, hf⟩ := hx
  obtain ⟨a, h1, h2⟩ := trod_rc hτ d hok hf hM
  refine ⟨a, h1, ?_⟩
  cases d with
  | zero => cases hok
  | succ d =>
  unfold okT at hok
  cases hg : Tab.get t τ with
  | none => rw [hg] at hok; cases hok
  | some i =>
  rw [hg] at hok
  have hdd := (Tab.get_ok hτ hg).d
  have hty : tyOf τ t = i.ty := by unfold tyOf; rw [hg]
  rw [hty] at h2
  dsimp only at hok
  have hag : i.ty.agg = true → (∃ cs, v = .agg cs) → RV (allOf w) a v := fun h3 ⟨cs, hv⟩ => by
    subst hv
    refine (show RV1 (allOf w) a (.agg cs) from .inl ⟨i.ty, cs.toList, h3, h2, rfl⟩).rv
  have hsc : i.ty = .sc → v.cells.toList = [v] → RV (allOf w) a v := fun h3 hv => by
    rw [h3, hv] at h2; exact h2.rvp
  generalize i.d = D' at hok hdd
  cases D' with
  | int k => obtain ⟨n, rfl⟩ := WideShapes.okWide_int hdd hval; exact hsc (eq_of_beq hok) rfl
  | bool => obtain ⟨n, rfl⟩ := WideShapes.okWide_bool hdd hval; exact hsc (eq_of_beq hok) rfl
  | str => obtain ⟨n, rfl⟩ := WideShapes.okWide_string hdd hval; exact hsc (eq_of_beq hok) rfl
  | slc e =>
    obtain ⟨A, len, cap, rfl⟩ := WideShapes.okWide_slice hdd hval
    simp only [Bool.and_eq_true] at hok
    exact hsc (eq_of_beq hok.1.1.1) rfl
  | arr n e =>
    simp only [Bool.and_eq_true] at hok
    have hu := hdd.1
    simp only [Value.okWide, hu] at hval
    obtain ⟨cs, rfl, _⟩ := hval
    exact hag (by rw [eq_of_beq hok.1.2]; rfl) ⟨cs, rfl⟩
  | rcd fs =>
    simp only [Bool.and_eq_true] at hok
    obtain ⟨F, hu, _⟩ := hdd
    obtain ⟨cs, rfl, _⟩ := WideShapes.okWide_struct hu hval
    exact hag hok.1.2 ⟨cs, rfl⟩
  | _ => cases hok
/-- All arguments. -/
theorem args_rv (hτ : τ.ok P) {d b0 : Nat} {r : Reach} : ∀ {ts : List TypeId} {vs : List Value} {ds : List (DataW H)} {ps : List MemPlace}, (ts.all fun t => okT τ d t) = true → DataW.TrodAll enc P w 0 sp held ts vs ds ps →
    (∀ (j : Nat) t v, ts[j]? = some t → vs[j]? = some v → Value.okWide P w r b0 t v) → Rows.uptoBulkAll ds ≤ M →
    ∃ az, ShL (Sh τ M d) ts az ∧ vs.length = az.length ∧ ∀ (i : Nat) x v, az[i]? = some x → vs[i]? = some v → RV (allOf w) x v
  | [], [], [], _, _, _, _, _ => ⟨[], trivial, rfl, fun i x v h => by simp at h⟩
  | t :: ts, v :: vs, x :: ds, _, hok, h, hval, hM => by
    obtain ⟨p, q, h1, h2, _⟩ := h
    simp only [List.all_cons, Bool.and_eq_true] at hok
    simp only [Rows.uptoBulkAll] at hM
    obtain ⟨a, ha1, ha2⟩ := arg_rv (M := M) hτ hok.1 (hval 0 t v rfl rfl) h1 (by omega)
    obtain ⟨az, hz1, hz2, hz3⟩ := args_rv hτ hok.2 h2 (fun j t v hj hv => hval (j + 1) t v hj hv) (by omega)
    refine ⟨a :: az, ⟨ha1, hz1⟩, by simp [hz2], fun i y u hy hu => ?_⟩
    cases i with
    | zero =>
      simp only [List.getElem?_cons_zero, Option.some.injEq] at hy hu
      subst hy hu; exact ha2
    | succ i => exact hz3 i y u (by simpa using hy) (by simpa using hu)
  | [], _ :: _, _, _, _, h, _, _ => by cases h
  | [], [], _ :: _, _, _, h, _, _ => by cases h
  | _ :: _, [], _, _, _, h, _, _ => by cases h
  | _ :: _, _ :: _, [], _, _, h, _, _ => by cases h
theorem allOf_inv (P : Program) (w : World) : Inv P w (allOf w) (allOf w) [] [] [] w := by
  have nb : ∀ (i : Nat) (x : Bx), (allOf w).bx[i]? = some x → False := fun i x h => by simp [allOf] at h
  have nr : ∀ (i : Nat) (x : Rw), (allOf w).rw[i]? = some x → False := fun i x h => by simp [allOf] at h
  refine ⟨⟨fun b o u h => h, fun i x hx => (nb i x hx).elim, fun i x hx => (nb i x hx).elim, fun i x hx => (nb i x hx).elim, fun i r hr => (nr i r hr).elim, fun i x hx => (nb i x hx).elim, fun i x hx => (nb i x hx).elim, fun i j x y hx => (nb i x hx).elim, fun i r k hr => (nr i r hr).elim, fun i r k hr => (nr i r hr).elim, fun i j x r hx => (nb i x hx).elim, fun i j r s k hr => (nr i r hr).elim⟩,
    ⟨Kept.refl _ _, fun i x hx => (nb i x hx).elim, fun i r k hr => (nr i r hr).elim, fun b _ _ o => rfl, Gh.le.refl _⟩, ⟨rfl, fun i T a h => by simp at h⟩, fun i x hx => (nb i x hx).elim, rfl, fun r hr => by simp [allOf] at hr⟩
/-- A law's function, called: true, and nothing old has turned. -/
theorem law_calls (hτ : τ.ok P) {f : FuncId} {fn : Func} {d b0 : Nat} {r : Reach} {args : Array Value} {ds : List (DataW H)} {ps : List MemPlace} (hok : (fn.params.toList.all fun t => okT τ d t) = true)
    (hT : DataW.TrodAll enc P w 0 sp held fn.params.toList args.toList ds ps) (hval : ∀ (j : Nat) t v, fn.params[j]? = some t → args[j]? = some v → Value.okWide P w r b0 t v) (hM : Rows.uptoBulkAll ds ≤ M)
    (h : ∀ az, ShL (Sh τ M d) fn.params.toList az → VC P f az [] (.v (.bool true))) : Calls P f args w fun e w' => e = .returned (.bool true) ∧ Below w.heap.size w w' := by
  obtain ⟨az, h1, h2, h3⟩ := args_rv (M := M) hτ hok hT (fun j t v hj hv => hval j t v (by simpa using hj) (by simpa using hv)) hM
  have := (h az h1).2 w (allOf w) args.toList (allOf_inv P w) h2 h3
  refine this.mono fun e w' hp => ?_
  obtain ⟨g, v, rfl, hi, hv⟩ := hp
  refine ⟨by rw [hv.v_inv], hi.fr.kept.below (Nat.le_refl _) fun k _ hk => ?_⟩
  rcases hk with ⟨x, hx, _⟩ | ⟨x, hx, _⟩ <;> simp [allOf] at hx
theorem trodAll_below (hl : laidOutB P = true) {W W' : World} (hb : Below W.heap.size W W') : ∀ {ts : List TypeId} {vs : List Value} {ds : List (DataW H)} {ps : List MemPlace}, (ts.all fun t => P.readableRec t && decide (t < P.types.size)) = true →
    DataW.TrodAll enc P W 0 (fun _ => true) true ts vs ds ps → (∀ x ∈ ps, x.block < W.heap.size) → DataW.TrodAll enc P W' 0 (fun b => decide (b < W.heap.size)) true ts vs ds ps
  | [], [], [], _, _, h, _ => h
  | t :: ts, v :: vs, x :: ds, _, hr, h, hlt => by
    obtain ⟨p, q, h1, h2, rfl⟩ := h
    simp only [List.all_cons, Bool.and_eq_true, decide_eq_true_eq] at hr
    exact ⟨p, q, Below.trod hl hr.1.1 hr.1.2 h1 hb (fun x hx => hlt x (List.mem_append_left _ hx)), trodAll_below hl hb hr.2 h2 (fun x hx => hlt x (List.mem_append_right _ hx)), rfl⟩
  | [], _ :: _, _, _, _, h, _ => by cases h
  | [], [], _ :: _, _, _, h, _ => by cases h
  | _ :: _, [], _, _, _, h, _ => by cases h
  | _ :: _, _ :: _, [], _, _, h, _ => by cases h
/-- What a statement's form asks for: true is handed back, the arguments are as they were. -/
theorem post_true (hl : laidOutB P = true) {fn : Func} {s : ChangeSpec} {W W' : World} {args : Array Value} {ds gs : List (DataW H)} {before : List MemPlace} {bt : TypeId}
    (hW : DataW.Whole enc P fn.params.toList s.vars false W args.toList ds gs before) (hb : Below W.heap.size W W') (hr : (fn.params.toList.all fun t => P.readableRec t && decide (t < P.types.size)) = true) (hv : s.vars = []) (hrt : fn.resultTypes = #[bt]) (hbt : P.underlying bt = some .bool)
    (hs : s.fn H (ds ++ gs) = ⟨[.lit (.bool true)], ds, []⟩) : s.post enc P fn false true false false W args (.bool true) W' := by
  have hlt := fun x hx => hW.lt x hx
  obtain ⟨p, q, hA, hV, rfl, hfz, hnd⟩ := id hW
  refine ⟨ds, gs, p ++ q, [], p, [], hW, ?_, ?_, ?_, hb.frame _, fun h => by cases h⟩
  · rw [hrt, hs]
    exact ⟨[], [], ⟨1, by simp [DataW.trod, hbt, Value.cells]⟩, rfl, rfl⟩
  · rw [hs]
    exact trodAll_below hl hb hr hA fun x hx => by simpa using hlt x (List.mem_append_left _ hx)
  · rw [hs, hv]; rfl
end
end Go.Proofs.Ytnkeolokhcljpaa
/- What grows, lent to a call that only reads it. -/
namespace Go.Proofs.Ytnkeolokhcljpaa
open Go Go.RowKit
/-- A value seen by whoever only reads. -/
def lend (bx : List (Ty × AV)) : Nat → AV → AV → Prop
  | _, .vw i γ n, .bs l none => ∃ e l0, bx[i]? = some (.vc e .sc, .vb γ l0) ∧ n ≤ l0.length ∧ l = l0.take n
  | _, .vw i γ n, .sl T es none => ∃ e es0, bx[i]? = some (.vc e T, .vc γ es0) ∧ n ≤ es0.length ∧ es = es0.take n
  | d + 1, .st fs, .st fs' => allP (lend bx d) fs fs'
  | _, a, b => sub 4 a b ∧ pure_ 4 b = true ∧ strip 4 b = b
def flat : Nat → AV → Bool
  | _, .v _ => true
  | _, .ba _ => true
  | d + 1, .st fs => fs.all (flat d)
  | d + 1, .tup fs => fs.all (flat d)
  | _, _ => false
section
variable {P : Program} {τ : Tab} {w0 w : World} {N : Gh} {g gS : Gh} {st st' sq sq' : St} {nt : Nat} {a : Act}
theorem base_allOf (h : Mem g w) : g.base.le (allOf w) := ⟨fun b o u hu => h.ro b o u hu, fun i x hx => by simp [Gh.base] at hx, fun i r hr => by simp [Gh.base] at hr⟩
theorem lend_rc (HI : Inv P w0 N g st.bx st.fz st.rw w) : ∀ {d : Nat} {T : Ty} {x y : AV} {cs : List Value}, RC g T x cs → lend st.bx d x y → RC (allOf w) T y cs := by
  have hbase := base_allOf HI.mem
  have leaf : ∀ {T : Ty} {x y : AV} {cs : List Value}, RC g T x cs → (sub 4 x y ∧ pure_ 4 y = true ∧ strip 4 y = y) → RC (allOf w) T y cs := fun h hl => by
    have := ((h.sub_ hl.1).strip_ hl.2.1).mono hbase
    rw [hl.2.2] at this
    exact this
  have vb : ∀ {T : Ty} {i γ n : Nat} {l : List UInt8} {cs : List Value}, RC g T (.vw i γ n) cs → (∃ e l0, st.bx[i]? = some (.vc e .sc, .vb γ l0) ∧ n ≤ l0.length ∧ l = l0.take n) → RC (allOf w) T (.bs l none) cs := by
    rintro T i γ n l cs h ⟨e, l0, hb, hn, rfl⟩
    obtain ⟨rfl, y, e3, T3, A, c, rfl, hy, hty, hle, hnc, hm, hxx⟩ := h.vw_inv
    obtain ⟨y', hy', hyT, hbc⟩ := HI.br.at_ i _ _ hb
    rw [hy] at hy'; injection hy' with hy'; subst hy'
    obtain ⟨l2, ⟨e4, he4, htid⟩, hmp, hgen, hcm, hcs, hcl⟩ := hbc.vb_inv
    obtain ⟨hcc, hA⟩ := hxx hgen
    have htl : (l0.take n).length = n := by rw [List.length_take]; omega
    have := RC.bs (g := allOf w) (l := l0.take n) (tok := none) (A := A) (c := c) (by omega) hm ?_ (fun i hi => by cases hi)
    · rw [htl] at this; exact this
    · rcases hA with ⟨ho, rfl⟩ | ⟨ho, rfl⟩
      · left
        have := hcm.2 ho
        exact List.length_eq_zero_iff.1 (by omega)
      · right
        refine ⟨y.blk, 0, rfl, fun j hj => ?_⟩
        have hblk := (HI.mem.bx i y hy ho).c hmp
        show w.cell? _ = _
        rw [hblk.cell, List.getElem?_toArray, hcs, Nat.zero_add, List.getElem?_map, List.getElem?_append_left (by omega), List.getElem?_eq_getElem (by omega)]
        simp
  have vc : ∀ {T T' : Ty} {i γ n : Nat} {es : List AV} {cs : List Value}, RC g T (.vw i γ n) cs → (∃ e es0, st.bx[i]? = some (.vc e T', .vc γ es0) ∧ n ≤ es0.length ∧ es = es0.take n) → RC (allOf w) T (.sl T' es none) cs := by
    rintro T T' i γ n es cs h ⟨e, es0, hb, hn, rfl⟩
    obtain ⟨rfl, y, e3, T3, A, c, rfl, hy, hty, hle, hnc, hm, hxx⟩ := h.vw_inv
    obtain ⟨y', hy', hyT, hbc⟩ := HI.br.at_ i _ _ hb
    rw [hy] at hy'; injection hy' with hy'; subst hy'
    obtain ⟨T2, F, sp, ⟨e2, he2, htid⟩, hmp, hgen, h0, hcm, hcs, hcl, hsp, hFk⟩ := hbc.vc_inv
    injection he2 with he20 he2; subst he20 he2
    obtain ⟨hcc, hA⟩ := hxx hgen
    have htl : (es0.take n).length = n := by rw [List.length_take]; omega
    have := RC.sl (g := allOf w) (T := T') (es := es0.take n) (tok := none) (A := A) (c := c) (by omega) hm F ?_ (fun k hk => by
      rw [List.getElem_take]
      exact ((hFk k (by omega)).mono hbase).mono ⟨fun _ _ _ h => h, fun i x hx => by simp [allOf] at hx, fun i r hr => by simp [allOf] at hr⟩) (fun i hi => by cases hi)
    · rw [htl] at this; exact this
    · rcases hA with ⟨ho, rfl⟩ | ⟨ho, rfl⟩
      · left
        have := hcm.2 ho
        exact List.length_eq_zero_iff.1 (by omega)
      · right
        refine ⟨y.blk, 0, rfl, fun k hk j u hu => ?_⟩
        have hblk := (HI.mem.bx i y hy ho).c hmp
        show w.cell? _ = _
        rw [hblk.cell, List.getElem?_toArray, hcs, Nat.zero_add]
        exact flat_at hFk (by omega) hu
  intro d
  induction d with
  | zero =>
    intro T x y cs h hl
    unfold lend at hl
    split at hl
    · exact vb h hl
    · exact vc h hl
    · rename_i heq; exact absurd heq (by simp)
    · exact leaf h hl
  | succ d ih =>
    have key : ∀ {T : Ty} {cs : List Value} {fs fs' : List AV}, RC g T (.st fs) cs → allP (lend st.bx d) fs fs' → RC (allOf w) T (.st fs') cs := by
      intro T
      induction T with
      | cn T Ts _ ihs =>
        intro cs fs fs' h hp
        cases h with
        | cn h hs =>
          cases fs' with
          | nil => exact hp.elim
          | cons b m => exact .cn (ih h hp.1) (ihs hs hp.2)
      | nl => intro cs fs fs' h hp; cases h; cases fs' with | nil => exact .nl | cons b m => exact hp.elim
      | _ => intro cs fs fs' h hp; cases h
    intro T x y cs h hl
    unfold lend at hl
    split at hl
    · exact vb h hl
    · exact vc h hl
    · rename_i heq; cases heq; exact key h hl
    · exact leaf h hl
theorem lend_rv (HI : Inv P w0 N g st.bx st.fz st.rw w) {d : Nat} {x y : AV} {v : Value} (h : RV g x v) (hx : isAny x = false) (ht : ∀ az, x ≠ .tup az) (hl : lend st.bx d x y) : RV (allOf w) y v := by
  rcases h.rv1 hx ht with ⟨T, cs, h1, h2, h3⟩ | h
  · exact (show RV1 (allOf w) y v from .inl ⟨T, cs, h1, lend_rc HI h2 hl, h3⟩).rv
  · exact (show RV1 (allOf w) y v from .inr (lend_rc HI h hl)).rv
theorem RC.flat_ {g g' : Gh} : ∀ {d : Nat} {T : Ty} {x : AV} {cs : List Value}, RC g T x cs → flat d x = true → RC g' T x cs := by
  intro d
  induction d with
  | zero => intro T x cs h hp; cases h <;> first | exact .v ‹_› | exact .ba ‹_› | (simp [flat] at hp)
  | succ d ih =>
    have key : ∀ {T : Ty} {cs : List Value} {fs : List AV}, RC g T (.st fs) cs → fs.all (flat d) = true → RC g' T (.st fs) cs := by
      intro T
      induction T with
      | cn T Ts _ ihs =>
        intro cs fs h hp
        cases h with
        | cn h hs =>
          simp only [List.all_cons, Bool.and_eq_true] at hp
          exact .cn (ih h hp.1) (ihs hs hp.2)
      | nl => intro cs fs h hp; cases h; exact .nl
      | _ => intro cs fs h hp; cases h
    intro T x cs h hp
    cases h with
    | v h => exact .v h
    | ba h => exact .ba h
    | nl => exact .nl
    | cn h hs => exact key (.cn h hs) hp
    | _ => simp [flat] at hp
theorem RV1.flat_ {g g' : Gh} {d : Nat} {x : AV} {v : Value} (h : RV1 g x v) (hp : flat d x = true) : RV1 g' x v := by
  rcases h with ⟨T, cs, h1, h2, h3⟩ | h
  · exact .inl ⟨T, cs, h1, h2.flat_ hp, h3⟩
  · exact .inr (h.flat_ hp)
theorem RV.flat_ {g g' : Gh} {d : Nat} {x : AV} {v : Value} (h : RV g x v) (hp : flat (d + 1) x = true) : RV g' x v := by
  cases x with
  | any => trivial
  | tup az =>
    obtain ⟨vs, h1, h2, h3⟩ := h
    simp only [flat, List.all_eq_true] at hp
    exact ⟨vs, h1, h2, fun i a u ha hu => (h3 i a u ha hu).flat_ (hp a (List.mem_of_getElem? ha))⟩
  | _ => exact RV1.flat_ (d := d + 1) h hp
theorem lend_args (HI : Inv P w0 N g st.bx st.fz st.rw w) (hF : FR g nt st a) {c : Gd} (hg : gholds a c) {xs : List Operand} {args : List AV} (hx : xs.all (fun x => !isAny (st.ev c x) && (match st.ev c x with | .tup _ => false | _ => true)) = true) (ha : allP (lend st.bx 3) (xs.map (st.ev c)) args) :
    args.length = xs.length ∧ ∀ (i : Nat) x v, args[i]? = some x → (xs.map a.eval)[i]? = some v → RV (allOf w) x v := by
  obtain ⟨h1, h2⟩ := allP_get ha
  refine ⟨by rw [← h1, List.length_map], fun i x v hi hv => ?_⟩
  obtain ⟨y, hy, hl⟩ := h2 i x hi
  rw [List.getElem?_map] at hy hv
  obtain ⟨o, ho, rfl⟩ := Option.map_eq_some_iff.1 hy
  obtain ⟨o', ho', rfl⟩ := Option.map_eq_some_iff.1 hv
  rw [ho] at ho'; injection ho' with ho'; subst ho'
  have := List.all_eq_true.1 hx o (List.mem_of_getElem? ho)
  simp only [Bool.and_eq_true, Bool.not_eq_true'] at this
  exact lend_rv HI (ev_sound hF hg o) this.1 (fun az e => by have h := this.2; rw [e] at h; cases h) hl
theorem read_call (HI : Inv P w0 N g st.bx st.fz st.rw w) {g1 : Gh} {w' : World} (h : Inv P w (allOf w) g1 [] [] [] w') : Inv P w0 N g st.bx st.fz st.rw w' := by
  have hk := h.fr.kept
  have hno : ∀ k, ¬ (allOf w).has k := fun k hh => by
    rcases hh with ⟨y, hy, _⟩ | ⟨r, hr, _⟩
    · simp [allOf] at hy
    · simp [allOf] at hr
  exact HI.keep (fun k hk' => hk.block k hk' (hno k)) hk.size hk.os hk.tape hk.output
/-- A call that only reads what is lent to it. -/
theorem v_callR {ops : Array Oper} {Q : Exit → Act → World → Prop} {rest : List Oper} {o : Oper} {f : FuncId} {xs : List Operand} {ats : Array TypeId} {args : List AV} {res : AV}
    (hc : VC P f args [] res) (H : Rel P w0 N nt st a w) (hgd : o.guard = none) (ho : o.op = .call ⟨.value (.func f), xs.toArray, ats⟩)
    (hx : (xs.all (fun x => !isAny (st.ev none x) && (match st.ev none x with | .tup _ => false | _ => true)) && okDst nt none o.dst && flat 4 res) = true) (ha : allP (lend st.bx 3) (xs.map (st.ev none)) args)
    (k : ∀ a w, Rel P w0 N nt (st.put o.dst none res) a w → wpList P ops Q rest a w) : wpList P ops Q (o :: rest) a w := by
  obtain ⟨hfok, hcall⟩ := hc
  obtain ⟨g, HI, hF⟩ := H
  simp only [Bool.and_eq_true] at hx
  obtain ⟨⟨x1, x2⟩, x3⟩ := hx
  obtain ⟨h1, h2⟩ := lend_args HI hF (c := none) trivial x1 ha
  refine wpList_plain hgd fun K hK => ?_
  unfold Oper.wp
  rw [run_callF hfok xs ats ho w, Oper.upon_enter]
  refine (hcall w (allOf w) (xs.map a.eval) (allOf_inv P w) (by simp [h1]) h2).mono fun e w' hp => ?_
  obtain ⟨g1, v, rfl, HI1, hv⟩ := hp
  refine hK _ _ (k _ _ ⟨g, ?_, hF.put x2 (fun _ => hv.flat_ (d := 3) x3) rfl (fun h => absurd trivial h)⟩)
  have := read_call HI HI1
  cases o.dst <;> exact this
end
section
variable {P : Program} {τ : Tab} {w0 w : World} {N : Gh} {g gS : Gh} {st st' sq sq' : St} {nt : Nat} {a : Act} {r : AV} {cd : Prop}
end
end Go.Proofs.Ytnkeolokhcljpaa
/- A result's row, fresh and without another owner, as what may be written. -/
namespace Go.Proofs.Ytnkeolokhcljpaa
open Go Go.RowKit
theorem flat_cells {g g' : Gh} {T : Ty} {es : List AV} {F : Nat → List Value} (hv : ∀ k (h : k < es.length), RC g T es[k] (F k)) (hf : es.all (flat 3) = true) : ∀ k (h : k < es.length), RC g' T es[k] (F k) := fun k hk => (hv k hk).flat_ (d := 3) (by rw [List.all_eq_true] at hf; exact hf _ (List.getElem_mem hk))
theorem VC.vecP {P : Program} {τ : Tab} {f : FuncId} {args : List AV} {e : Nat} {j : TI} {es fs rest : List AV} (hτ : τ.ok P) (hj : Tab.get e τ = some j) (hs : 0 < j.ty.size) (hel : es.all (flat 3) = true) (hfs : fs.all (flat 2) = true) (hre : rest.all (flat 3) = true)
    (h : VC P f args [(e, es.length)] (.tup (.st (.sl j.ty es (some 0) :: fs) :: rest))) : VX P f [] [] [] args [(.vc e j.ty, .vc 1 es)] [] [] (.tup (.st (.vw 0 1 es.length :: fs) :: rest)) := by
  refine ⟨h.1, fun w N vs HI h1 h2 => (h.2 w N vs HI h1 h2).mono ?_⟩
  rintro en w' ⟨g, v, he, HI', hv⟩
  have hnb : N.bx = [] := List.length_eq_zero_iff.1 (by rw [HI.br.len]; rfl)
  have hnr : N.rw = [] := List.length_eq_zero_iff.1 (by have := congrArg List.length HI.wr; rw [List.length_map] at this; exact this)
  have hgb : g.bx = [] := List.length_eq_zero_iff.1 (by rw [HI'.br.len]; rfl)
  obtain ⟨r, hr⟩ : ∃ r, g.rw = [r] := by
    have := congrArg List.length HI'.wr
    rw [List.length_map] at this
    exact List.length_eq_one_iff.1 this
  have hwr := HI'.wr
  rw [hr] at hwr
  simp only [List.map_cons, List.map_nil, List.cons.injEq, Prod.mk.injEq, and_true] at hwr
  obtain ⟨ht, hn⟩ := hwr
  have hr0 : g.rw[0]? = some r := by rw [hr]; rfl
  have hR := HI'.mem.rw 0 r hr0
  obtain ⟨us, e1, e2, e3⟩ := hv
  obtain ⟨u0, hu0⟩ : ∃ u0, us[0]? = some u0 := ⟨us[0]'(by rw [e2]; simp), List.getElem?_eq_getElem _⟩
  have q0 := e3 0 _ u0 rfl hu0
  have hshape : ∃ (Ts : Ty) (A : Option Addr) (c : Nat) (ds : List Value) (F : Nat → List Value), u0 = .agg (.slice A es.length c :: ds).toArray ∧ RC g Ts (.st fs) ds ∧ (∀ k (h : k < es.length), RC g.base j.ty es[k] (F k)) ∧ r.v = .slice A es.length c ∧ r.cx = (List.range es.length).flatMap F ∧ c ≤ maxLen := by
    rcases q0 with ⟨T0, cs0, a1, a2, a3⟩ | a2
    · cases a2 with
      | cn b1 b2 =>
        cases b1 with
        | sl hc hm F hr' hv' ht' =>
          obtain ⟨r', k1, k2, k3⟩ := ht' 0 rfl
          rw [hr0] at k1; injection k1 with k1; subst k1
          obtain ⟨k4, k5⟩ := k3 hn
          exact ⟨_, _, _, _, F, by rw [a3]; rfl, b2, hv', k4, k5, hm⟩
    · cases a2
  obtain ⟨Ts, A, c, ds, F, rfl, hds, hF, hrv, hrc, hcm⟩ := hshape
  have hF' : ∀ {g' : Gh} k (h : k < es.length), RC g' j.ty es[k] (F k) := fun {g'} => flat_cells hF hel
  have hne := HI'.mem.ro
  let x : Bx := ⟨(r.v.ownBlock).getD 0, e, .vc e j.ty, r.cx ++ noughts r, false, 1, r.n + r.m, r.v.ownBlock.isNone, none⟩
  let g' : Gh := ⟨fun b o => if r.v.ownBlock = some b then none else g.ro b o, [x], []⟩
  have hx0 : g'.bx[0]? = some x := rfl
  have one : ∀ (i : Nat) (y : Bx), g'.bx[i]? = some y → i = 0 ∧ y = x := fun i y hy => by
    cases i with
    | zero => exact ⟨rfl, by rw [hx0] at hy; injection hy with hy; exact hy.symm⟩
    | succ i => simp [g'] at hy
  have nor : ∀ (i : Nat) (y : Rw), g'.rw[i]? = some y → False := fun i y hy => by simp [g'] at hy
  have hfresh : ∀ k, r.v.ownBlock = some k → w.heap.size ≤ k := fun k hk => by
    rcases HI'.fr.rw 0 r k hr0 hk with h | ⟨s, hs', _⟩
    · exact h
    · rw [hnr] at hs'; simp at hs'
  have hlen := hR.len
  have hes : r.es = j.ty.size := by
    have hz1 := HI'.wz r (by rw [hr]; exact List.mem_cons_self)
    obtain ⟨inf, z, q1, q2, _⟩ := (Tab.get_ok hτ hj).info
    rw [hz1.1, ht]
    simp [Program.cellsOf, q1, q2]
  have hat := hR.at_
  have hnl : (noughts r).length = r.m * r.es := by
    unfold noughts
    rw [List.length_flatten]
    simp [hR.zl]
  have hvw : RC g' .sc (.vw 0 1 es.length) [.slice A es.length c] := by
    refine RC.vw (x := x) (T := j.ty) (e := e) hx0 rfl (Nat.le_refl _) ?_ hcm fun _ => ?_
    · rcases hat with ⟨k1, k2, k3⟩ | ⟨k, k1, k2, k3⟩
      · rw [k1] at hrv; injection hrv with q1 q2 q3; omega
      · rw [k1] at hrv; injection hrv with q1 q2 q3; omega
    · rcases hat with ⟨k1, k2, k3⟩ | ⟨k, k1, k2, k3⟩
      · have hown : r.v.ownBlock = none := by rw [k1]; rfl
        rw [k1] at hrv; injection hrv with q1 q2 q3
        exact ⟨by show c = r.n + r.m; omega, .inl ⟨by show r.v.ownBlock.isNone = true; rw [hown]; rfl, q1.symm⟩⟩
      · have hown : r.v.ownBlock = some k := by rw [k1]; rfl
        rw [k1] at hrv; injection hrv with q1 q2 q3
        exact ⟨by show c = r.n + r.m; omega, .inr ⟨by show r.v.ownBlock.isNone = false; rw [hown]; rfl, by show A = some ⟨(r.v.ownBlock).getD 0, 0, none⟩; rw [hown, ← q1]; rfl⟩⟩
  refine ⟨g', v, he, ⟨⟨fun b o u hu => ?_, fun i y hy ho => ?_, fun i y hy ho => ?_, fun i y hy hm => ?_, fun i s hs' => (nor i s hs').elim, fun i y hy hf => ?_, fun i y hy ho hf o => ?_, fun i k y z hy hz _ _ _ => ?_, fun i s k hs' => (nor i s hs').elim, fun i s k hs' => (nor i s hs').elim, fun i k y s _ hs' => (nor k s hs').elim, fun i k s t b hs' => (nor i s hs').elim⟩,
    ⟨HI'.fr.kept, fun i y hy ho => ?_, fun i s k hs' => (nor i s hs').elim, fun b hb hnh o => ?_, ⟨fun b o u hu => ?_, fun i y hy => by rw [hnb] at hy; simp at hy, fun i y hy => by rw [hnr] at hy; simp at hy⟩⟩,
    ⟨rfl, fun i T' a' hi => ?_⟩, fun i y hy hf => ?_, rfl, fun s hs' => by cases hs'⟩, ⟨us, e1, by simpa using e2, fun i a u ha hu => ?_⟩⟩
  · by_cases ho : r.v.ownBlock = some b
    · have : g'.ro b o = none := if_pos ho
      rw [this] at hu; cases hu
    · have : g'.ro b o = g.ro b o := if_neg ho
      rw [this] at hu; exact HI'.mem.ro b o u hu
  · obtain ⟨_, rfl⟩ := one i y hy
    rcases hat with ⟨k1, k2, k3⟩ | ⟨k, k1, k2, k3⟩
    · have : r.v.ownBlock.isNone = true := by rw [k1]; rfl
      rw [show x.off = r.v.ownBlock.isNone from rfl, this] at ho; cases ho
    · have hown : r.v.ownBlock = some k := by rw [k1]; rfl
      refine .of rfl ?_
      show Blk w' ((r.v.ownBlock).getD 0) e (r.cx ++ noughts r).toArray
      rw [hown, ← ht]; exact k2
  · obtain ⟨_, rfl⟩ := one i y hy
    rcases hat with ⟨k1, k2, k3⟩ | ⟨k, k1, k2, k3⟩
    · show r.cx ++ noughts r = []
      apply List.length_eq_zero_iff.1
      rw [List.length_append, hlen, hnl, k2, k3]; simp
    · have : r.v.ownBlock.isNone = false := by rw [k1]; rfl
      rw [show x.off = r.v.ownBlock.isNone from rfl, this] at ho; cases ho
  · obtain ⟨_, rfl⟩ := one i y hy; cases hm
  · obtain ⟨_, rfl⟩ := one i y hy; cases hf
  · obtain ⟨_, rfl⟩ := one i y hy
    have hsome : r.v.ownBlock = some ((r.v.ownBlock).getD 0) := by
      cases hq : r.v.ownBlock with
      | none => rw [show x.off = r.v.ownBlock.isNone from rfl, hq] at ho; cases ho
      | some k => rfl
    exact if_pos hsome
  · obtain ⟨rfl, _⟩ := one i y hy; obtain ⟨rfl, _⟩ := one k z hz; rfl
  · obtain ⟨_, rfl⟩ := one i y hy
    cases hq : r.v.ownBlock with
    | none => rw [show x.off = r.v.ownBlock.isNone from rfl, hq] at ho; cases ho
    | some k => left; show w.heap.size ≤ (r.v.ownBlock).getD 0; rw [hq]; exact hfresh k hq
  · have hnb' : ¬ r.v.ownBlock = some b := fun hq => by have := hfresh b hq; omega
    have : g'.ro b o = g.ro b o := if_neg hnb'
    rw [this]; exact HI'.fr.ro b hb hnh o
  · have hlt := HI.mem.lt hu
    have hnb' : ¬ r.v.ownBlock = some b := fun hq => by have := hfresh b hq; omega
    have : g'.ro b o = g.ro b o := if_neg hnb'
    rw [this]; exact HI'.fr.le.ro b o u hu
  · cases i with
    | succ i => simp at hi
    | zero =>
      simp only [List.getElem?_cons_zero, Option.some.injEq, Prod.mk.injEq] at hi
      obtain ⟨rfl, rfl⟩ := hi
      refine ⟨x, hx0, rfl, .inr (.inl ⟨j.ty, 1, es, F, noughts r, ⟨e, rfl, rfl⟩, rfl, rfl, rfl, hs, ⟨?_, fun ho => ?_⟩, by show r.cx ++ noughts r = _; rw [hrc], ?_, fun u hu => hR.one u (List.mem_append_right _ (by
        obtain ⟨q, hq, hu⟩ := List.mem_flatten.1 hu
        rw [(List.mem_replicate.1 hq).2] at hu; exact hu)), fun k hk => hF' k hk⟩)⟩
      · show r.n + r.m ≤ maxLen
        rcases hat with ⟨k1, k2, k3⟩ | ⟨k, k1, k2, k3⟩
        · rw [k2, k3]; exact Nat.zero_le _
        · exact k3
      · show r.n + r.m = 0
        rcases hat with ⟨k1, k2, k3⟩ | ⟨k, k1, k2, k3⟩
        · omega
        · have : r.v.ownBlock.isNone = false := by rw [k1]; rfl
          rw [show x.off = r.v.ownBlock.isNone from rfl, this] at ho; cases ho
      · show (r.cx ++ noughts r).length = (r.n + r.m) * j.ty.size
        rw [List.length_append, hlen, hnl, hes, Nat.add_mul]
  · obtain ⟨_, rfl⟩ := one i y hy; cases hf
  · cases i with
    | zero =>
      rw [hu0] at hu; injection hu with hu; subst hu
      simp only [List.getElem?_cons_zero, Option.some.injEq] at ha
      subst ha
      have hds' : RC g' Ts (.st fs) ds := hds.flat_ (d := 3) (by simpa only [flat] using hfs)
      exact .inl ⟨.cn .sc Ts, .slice A es.length c :: ds, rfl, RC.cn hvw hds', rfl⟩
    | succ i =>
      simp only [List.getElem?_cons_succ] at ha
      refine (e3 (i + 1) a u (by simpa using ha) hu).flat_ (d := 3) ?_
      rw [List.all_eq_true] at hre
      exact hre a (List.mem_of_getElem? ha)
end Go.Proofs.Ytnkeolokhcljpaa
/- Slices whose room is known: made, frozen, seen without their room. -/
namespace Go.Proofs.Ytnkeolokhcljpaa
open Go Go.RowKit
section
variable {P : Program} {τ : Tab} {w0 w : World} {N : Gh} {g : Gh} {st : St} {nt : Nat} {a : Act}
end
end Go.Proofs.Ytnkeolokhcljpaa
/- The statement PackCodes, in values. -/
namespace Go.Proofs.Ytnkeolokhcljpaa
open Go Go.RowKit
theorem pDecW (l : List UInt8) : (pDec l).wf := by unfold pDec; split; exact rdQ_wf l; exact pzero_wf
theorem pDecC {l : List UInt8} (h : pOk l) : (pDec l).chk = 0 := by rw [pDec, if_pos h]; exact h.2.1
theorem sizeP_ok (p : Pf) (hw : p.wf) (h : p.chk = 0) : VC Try.prog 10 [p.av] [] (.tup [.v (.int .i64 (p.text.length : Int)), errv 0]) := by
  have h1 := encodeP_ok p hw h
  have hl := (plen p hw h).2
  obtain ⟨f1, f2, f3, f4⟩ := id hw.e
  generalize p.text = tx at *
  obtain ⟨s, n⟩ := p
  dsimp only at f1 f2 f3 f4
  refine mE Try.func10 ?_; intro N w0 a w hN hR H
  simp only [Pf.av, Nd.av] at H h1
  refine mW ?_; clear H; intro a w H
  refine mCall [] [] (h1) H ?_; clear H; intro a w H; try refine wpList_nil ?_
  refine mW ?_; clear H; intro a w H
  refine wp_ret ?_; exact mEnd [] [] [.tmp 2, .tmp 3] [_, _] hN hR H
theorem sizeP_bad (p : Pf) (hw : p.wf) (h : p.chk ≠ 0) : VC Try.prog 10 [p.av] [] (.tup [.v (.int .i64 0), errv p.chk]) := by
  have h1 := encodeP_bad p hw h
  obtain ⟨f1, f2, f3, f4⟩ := id hw.e
  generalize p.chk = ch at *
  obtain ⟨s, n⟩ := p
  dsimp only at f1 f2 f3 f4
  refine mE Try.func10 ?_; intro N w0 a w hN hR H
  simp only [Pf.av, Nd.av] at H h1
  refine mW ?_; clear H; intro a w H
  refine mCall [] [] (h1) H ?_; clear H; intro a w H; try refine wpList_nil ?_
  refine mW ?_; clear H; intro a w H
  refine wp_ret ?_; exact mEnd [] [] [.tmp 2, .tmp 3] [_, _] hN hR H
theorem bas_flat (ls : List (List UInt8)) : (bas ls).all (flat 3) = true := by simp [bas, flat]
theorem decVec (l : List UInt8) (hl : l.length ≤ 34359730000) (h : pOk l) : VX Try.prog 11 [] [] [] [.bs l none] [(.vc 26 (.ba 32), .vc 1 (bas (pDec l).s))] [] [] (.tup [.st [.vw 0 1 (pDec l).s.length, (pDec l).e.av], errv 0]) := by
  have h1 := decodePT_v l hl h
  have hl := bas_len (pDec l).s
  rw [← hl] at h1
  have h2 := VC.vecP (j := ti26) tab_ok rfl (by decide) (bas_flat _) rfl rfl h1
  rw [hl] at h2
  exact h2
set_option maxRecDepth 20000 in
set_option maxHeartbeats 4000000 in
theorem packCodes_oo (p : Pf) (hw : p.wf) (hpl : p.s.length ≤ 1048576) (l : List UInt8) (hl : l.length ≤ 1048576) (hc : p.chk = 0) (hd : pOk l) : VC Try.prog 3 [p.av, .bs l none] [] (.v (.bool true)) := by
  have cc := copyPf_v p hw (by omega)
  have el := lent_v l (by omega)
  have ex := encodeP_ok p hw hc
  have ez := encR_ok p hw hc
  have en := sizeP_ok p hw hc
  have htl := (plen p hw hc).2
  have ck := pcheck_v p hw
  have cr := pcheckR_v p hw
  rw [hc] at ck cr
  have sx := same_v p.text p.text
  rw [beq_self_eq_true] at sx
  have cs := sameP_v p p hw hw (by omega)
  rw [decide_eq_true (show p = p from rfl)] at cs
  have kp := kept_v l (by omega)
  have hlt := lent_take l
  have d1 := decVec l (by omega) hd
  have d2 := decodeP_v l (by omega)
  have d3 := decPR_v l (by omega)
  rw [if_pos hd] at d2 d3
  have hqw := pDecW l
  have hql := (chk_all (pDecC hd)).1
  have cq := sameP_v (pDec l) (pDec l) hqw hqw (by omega)
  rw [decide_eq_true (show pDec l = pDec l from rfl)] at cq
  obtain ⟨g1, g2, g3, g4⟩ := id hqw.e
  generalize pDec l = q at *
  obtain ⟨qs, qn⟩ := q
  dsimp only at g1 g2 g3 g4 hql d1
  have hqb := bas_len qs
  have hz2 := z32_len
  obtain ⟨f1, f2, f3, f4⟩ := id hw.e
  generalize p.text = tx at *
  obtain ⟨s, n⟩ := p
  dsimp only at f1 f2 f3 f4 hpl
  have hsl := bas_len s
  refine mE Try.func3 ?_; intro N w0 a w hN hR H
  simp only [Pf.av, Nd.av] at H cc ex ez en ck cr cs d1 d2 d3 cq
  have hX := @hsl
  refine mW ?_; clear H; intro a w H
  refine mC H (fun hb => ?_) (fun hb => ?_)
  · refine mW ?_; clear H; intro a w H
    refine wp_ret ?_; exact mEnd [] [] [.tmp 4] [_] hN hR H
  · clear hb
    refine mW ?_; clear H; intro a w H
    refine mCall [] [] (cc) H ?_; clear H; intro a w H; try refine wpList_nil ?_
    refine mW ?_; clear H; intro a w H
    refine mCall [] [] (el) H ?_; clear H; intro a w H; try refine wpList_nil ?_
    refine mW ?_; clear H; intro a w H
    refine mCall [] [] (ex) H ?_; clear H; intro a w H; try refine wpList_nil ?_
    refine mW ?_; clear H; intro a w H
    refine mCall [] [] (ex) H ?_; clear H; intro a w H; try refine wpList_nil ?_
    refine mW ?_; clear H; intro a w H
    refine mCall [] [] (ez) H ?_; clear H; intro a w H; try refine wpList_nil ?_
    refine mW ?_; clear H; intro a w H
    refine mCall [] [] (en) H ?_; clear H; intro a w H; try refine wpList_nil ?_
    clear hX; have hX := @hlt
    refine mW ?_; clear H; intro a w H
    refine mCall [] [] (d1) H ?_; clear H; intro a w H; try refine wpList_nil ?_
    refine mW ?_; clear H; intro a w H
    refine mCall [] [] (d2) H ?_; clear H; intro a w H; try refine wpList_nil ?_
    refine mW ?_; clear H; intro a w H
    refine mCall [] [] (d3) H ?_; clear H; intro a w H; try refine wpList_nil ?_
    clear hX
    refine mW ?_; clear H; intro a w H
    refine mS ?_; refine mD 7 [1, 3, 8, 14] [2] H ?_; clear H; intro gS H; refine mT ?_; clear H; intro a w H
    refine mCallT [] [] (ck) H ?_; clear H; intro a w H
    refine mT ?_; clear H; intro a w H
    refine mCallT [] [] (cr) H ?_; clear H; intro a w H
    refine mT ?_; clear H; intro a w H
    refine mCallTG [] [] (sx) H ?_; clear H; intro a w H
    refine mT ?_; clear H; intro a w H
    refine mCallTG [] [] (sx) H ?_; clear H; intro a w H
    refine mT ?_; clear H; intro a w H
    refine v_drawNil H ?_; clear H; intro H
    refine mC H (fun hb => ?_) (fun hb => ?_)
    · simp at hb
    · clear hb
      replace H := mK [1, 2, 4, 5, 6, 7, 9, 15, 16, 17, 18, 19, 20] 7 2 hN hR H
      refine mW ?_; clear H; intro a w H
      have hqt : bas qs = (bas qs).take qs.length := (List.take_of_length_le (by omega)).symm
      refine v_callR cq H (by rfl) rfl rfl (by exact ⟨⟨⟨_, _, rfl, by omega, hqt⟩, ⟨⟨sub_refl _ _, rfl, rfl⟩, ⟨sub_refl _ _, rfl, rfl⟩, ⟨sub_refl _ _, rfl, rfl⟩, ⟨sub_refl _ _, rfl, rfl⟩, ⟨sub_refl _ _, rfl, rfl⟩, trivial⟩, trivial⟩, ⟨⟨⟨rfl, rfl⟩, rfl, rfl⟩, ⟨⟨sub_refl _ _, rfl, rfl⟩, ⟨sub_refl _ _, rfl, rfl⟩, ⟨sub_refl _ _, rfl, rfl⟩, ⟨sub_refl _ _, rfl, rfl⟩, ⟨sub_refl _ _, rfl, rfl⟩, trivial⟩, trivial⟩, trivial⟩) ?_; clear H; intro a w H
      replace H := nf H
      refine mW ?_; clear H; intro a w H
      refine mCallG [] [] (cq) H ?_; clear H; intro a w H; try refine wpList_nil ?_
      refine mW ?_; clear H; intro a w H
      refine mCallG [] [] (cs) H ?_; clear H; intro a w H; try refine wpList_nil ?_
      refine mW ?_; clear H; intro a w H
      refine mCallG [] [] (kp) H ?_; clear H; intro a w H; try refine wpList_nil ?_
      refine mW ?_; clear H; intro a w H
      refine mC H (fun hb => ?_) (fun hb => ?_)
      · simp at hb
      · clear hb
        replace H := mK [4, 6, 7, 9, 15, 17, 19] 7 2 hN hR H
        refine mW ?_; clear H; intro a w H
        refine v_loop (fun i : Nat × List AV => ⟨[(21, none, .v (.int .i64 (i.1 : Int))), (4, none, .v (.bool false)), (6, none, .bc (lentOf l) l.length (some 2)), (7, none, .bs tx (some 0)), (9, none, .bs tx (some 1)), (15, none, .ptr 4 []), (17, none, .ptr 5 []), (19, none, .ptr 6 [])], [(ti30.ty, .st [.sl (.ba 32) (bas s) none, .st [.v (B8 n.k), .ba n.key, .ba n.v, .ba n.l, .ba n.r]]), (ti30.ty, .st [.sl (.ba 32) (bas s) none, .st [.v (B8 n.k), .ba n.key, .ba n.v, .ba n.l, .ba n.r]]), (.ba (l.length + 5), .ba (lentOf l)), (.vc 26 (.ba 32), .vc 1 i.2), (ti30.ty, .st [.vw 3 1 qs.length, .st [.v (B8 qn.k), .ba qn.key, .ba qn.v, .ba qn.l, .ba qn.r]]), (ti30.ty, .st [.sl (.ba 32) (bas qs) none, .st [.v (B8 qn.k), .ba qn.key, .ba qn.v, .ba qn.l, .ba qn.r]]), (ti30.ty, .st [.sl (.ba 32) (bas qs) none, .st [.v (B8 qn.k), .ba qn.key, .ba qn.v, .ba qn.l, .ba qn.r]])], [2], [(5, tx.length), (5, tx.length)]⟩) (fun i => i.1 ≤ qs.length ∧ i.2.length = qs.length) (fun i => qs.length - i.1) (0, bas qs) ⟨Nat.zero_le _, hqb⟩ (H.to 7 2 ⟨Nat.le_trans hN (by decide), Nat.le_trans hR (by decide)⟩ ⟨rfl, rfl, rfl, rfl, rfl, rfl, rfl, rfl, trivial⟩ rfl rfl rfl rfl rfl) ?_
        clear H
        rintro ⟨k, es⟩ a w ⟨hk1, hk2⟩ H
        dsimp only at H hk1 hk2
        refine mW ?_; clear H; intro a w H
        refine mC H (fun hb => ?_) (fun hb => ?_)
        · have hlt2 : k < qs.length := by rw [decide_eq_true_eq] at hb; omega
          clear hb
          have hX := @hk2
          refine mW ?_; clear H; intro a w H
          exact ⟨(k + 1, _), ⟨hlt2, by simp [hk2]⟩, by dsimp only; omega, H.to 7 2 ⟨Nat.le_trans hN (by decide), Nat.le_trans hR (by decide)⟩ ⟨rfl, rfl, rfl, rfl, rfl, rfl, rfl, rfl, trivial⟩ rfl rfl rfl rfl rfl⟩
        · clear hb
          refine mW ?_; clear H; intro a w H
          refine mCall [] [] (cq) H ?_; clear H; intro a w H; try refine wpList_nil ?_
          (try refine wp_region_lit ?_); refine mN 1 hN H ?_; clear H; intro a w H
          refine mG H ?_
          (try refine wp_region_lit ?_); refine mN 1 hN H ?_; clear H; intro a w H
          refine mG H ?_
          (try refine wp_region_lit ?_); refine mN 1 hN H ?_; clear H; intro a w H
          refine mG H ?_
          (try refine wp_region_lit ?_); refine mN 1 hN H ?_; clear H; intro a w H
          refine mG H ?_
          refine v_apart (xs := [.tmp 151, .tmp 152, .tmp 153]) (ks := [1, 3, 6]) H rfl (.inr ⟨150, true, by rfl, by rfl, by decide⟩) rfl (by show 154 < 157; decide) rfl rfl ⟨rfl, rfl, ⟨_, _, rfl⟩, trivial⟩ rfl (by decide) (by decide) (by decide) rfl ?_
          clear H; intro a w H
          replace H := nf H
          refine mW ?_; clear H; intro a w H
          refine wp_ret ?_; exact mEnd [] [] [.tmp 4] [_] hN hR H
set_option maxRecDepth 20000 in
set_option maxHeartbeats 4000000 in
theorem packCodes_ob (p : Pf) (hw : p.wf) (hpl : p.s.length ≤ 1048576) (l : List UInt8) (hl : l.length ≤ 1048576) (hc : p.chk = 0) (hd : ¬ pOk l) : VC Try.prog 3 [p.av, .bs l none] [] (.v (.bool true)) := by
  have cc := copyPf_v p hw (by omega)
  have el := lent_v l (by omega)
  have ex := encodeP_ok p hw hc
  have ez := encR_ok p hw hc
  have en := sizeP_ok p hw hc
  have htl := (plen p hw hc).2
  have ck := pcheck_v p hw
  have cr := pcheckR_v p hw
  rw [hc] at ck cr
  have sx := same_v p.text p.text
  rw [beq_self_eq_true] at sx
  have cs := sameP_v p p hw hw (by omega)
  rw [decide_eq_true (show p = p from rfl)] at cs
  have kp := kept_v l (by omega)
  have hlt := lent_take l
  have d1 := decodeP_v l (by omega)
  have d3 := decPR_v l (by omega)
  rw [if_neg hd] at d1 d3
  rw [pDec, if_neg hd] at d1 d3
  have cq := sameP_v Pf.zero Pf.zero pzero_wf pzero_wf (by simp [Pf.zero])
  rw [decide_eq_true (show Pf.zero = Pf.zero from rfl)] at cq
  have hz2 := z32_len
  obtain ⟨f1, f2, f3, f4⟩ := id hw.e
  generalize p.text = tx at *
  obtain ⟨s, n⟩ := p
  dsimp only at f1 f2 f3 f4 hpl
  have hsl := bas_len s
  refine mE Try.func3 ?_; intro N w0 a w hN hR H
  simp only [Pf.av, Nd.av, Pf.zero, Nd.zero, bas, List.map_nil] at H cc ex ez en ck cr cs d1 d3 cq
  have hX := @hsl
  refine mW ?_; clear H; intro a w H
  refine mC H (fun hb => ?_) (fun hb => ?_)
  · refine mW ?_; clear H; intro a w H
    refine wp_ret ?_; exact mEnd [] [] [.tmp 4] [_] hN hR H
  · clear hb
    refine mW ?_; clear H; intro a w H
    refine mCall [] [] (cc) H ?_; clear H; intro a w H; try refine wpList_nil ?_
    refine mW ?_; clear H; intro a w H
    refine mCall [] [] (el) H ?_; clear H; intro a w H; try refine wpList_nil ?_
    refine mW ?_; clear H; intro a w H
    refine mCall [] [] (ex) H ?_; clear H; intro a w H; try refine wpList_nil ?_
    refine mW ?_; clear H; intro a w H
    refine mCall [] [] (ex) H ?_; clear H; intro a w H; try refine wpList_nil ?_
    refine mW ?_; clear H; intro a w H
    refine mCall [] [] (ez) H ?_; clear H; intro a w H; try refine wpList_nil ?_
    refine mW ?_; clear H; intro a w H
    refine mCall [] [] (en) H ?_; clear H; intro a w H; try refine wpList_nil ?_
    clear hX; have hX := @hlt
    refine mW ?_; clear H; intro a w H
    refine mCall [] [] (d1) H ?_; clear H; intro a w H; try refine wpList_nil ?_
    refine mW ?_; clear H; intro a w H
    refine mCall [] [] (d1) H ?_; clear H; intro a w H; try refine wpList_nil ?_
    refine mW ?_; clear H; intro a w H
    refine mCall [] [] (d3) H ?_; clear H; intro a w H; try refine wpList_nil ?_
    clear hX
    refine mW ?_; clear H; intro a w H
    refine mS ?_; refine mD 6 [1, 3, 8, 14] [2] H ?_; clear H; intro gS H; refine mT ?_; clear H; intro a w H
    refine mCallT [] [] (ck) H ?_; clear H; intro a w H
    refine mT ?_; clear H; intro a w H
    refine mCallT [] [] (cr) H ?_; clear H; intro a w H
    refine mT ?_; clear H; intro a w H
    refine mCallTG [] [] (sx) H ?_; clear H; intro a w H
    refine mT ?_; clear H; intro a w H
    refine mCallTG [] [] (sx) H ?_; clear H; intro a w H
    refine mT ?_; clear H; intro a w H
    refine v_drawNil H ?_; clear H; intro H
    refine mC H (fun hb => ?_) (fun hb => ?_)
    · simp at hb
    · clear hb
      replace H := mK [1, 2, 4, 5, 6, 7, 9, 15, 16, 17, 18, 19, 20] 6 2 hN hR H
      refine mW ?_; clear H; intro a w H
      refine mCall [] [] (cq) H ?_; clear H; intro a w H; try refine wpList_nil ?_
      refine mW ?_; clear H; intro a w H
      refine mCallG [] [] (cq) H ?_; clear H; intro a w H; try refine wpList_nil ?_
      refine mW ?_; clear H; intro a w H
      refine mCallG [] [] (cs) H ?_; clear H; intro a w H; try refine wpList_nil ?_
      refine mW ?_; clear H; intro a w H
      refine mCallG [] [] (kp) H ?_; clear H; intro a w H; try refine wpList_nil ?_
      refine mW ?_; clear H; intro a w H
      refine mC H (fun hb => ?_) (fun hb => ?_)
      · simp at hb
      · clear hb
        replace H := mK [4, 6, 7, 9, 15, 17, 19] 6 2 hN hR H
        refine mW ?_; clear H; intro a w H
        refine v_loop (fun k : Nat => ⟨[(21, none, .v (.int .i64 0)), (4, none, .v (.bool false)), (6, none, .bc (lentOf l) l.length (some 2)), (7, none, .bs tx (some 0)), (9, none, .bs tx (some 1)), (15, none, .ptr 3 []), (17, none, .ptr 4 []), (19, none, .ptr 5 [])], _, _, [(5, tx.length), (5, tx.length)]⟩) (fun k => k = 0) (fun k => k) 0 rfl (H.to 6 2 ⟨Nat.le_trans hN (by decide), Nat.le_trans hR (by decide)⟩ ⟨rfl, rfl, rfl, rfl, rfl, rfl, rfl, rfl, trivial⟩ rfl rfl rfl rfl rfl) ?_
        clear H
        rintro k a w hk0 H
        refine mW ?_; clear H; intro a w H
        refine mC H (fun hb => ?_) (fun hb => ?_)
        · simp at hb
        · clear hb
          refine mW ?_; clear H; intro a w H
          refine mCall [] [] (cq) H ?_; clear H; intro a w H; try refine wpList_nil ?_
          (try refine wp_region_lit ?_); refine mN 1 hN H ?_; clear H; intro a w H
          refine mG H ?_
          (try refine wp_region_lit ?_); refine mN 1 hN H ?_; clear H; intro a w H
          refine mG H ?_
          (try refine wp_region_lit ?_); refine mN 1 hN H ?_; clear H; intro a w H
          refine mG H ?_
          (try refine wp_region_lit ?_); refine mN 1 hN H ?_; clear H; intro a w H
          refine mG H ?_
          refine v_apart (xs := [.tmp 151, .tmp 152, .tmp 153]) (ks := [1, 3, 6]) H rfl (.inr ⟨150, true, by rfl, by rfl, by decide⟩) rfl (by show 154 < 157; decide) rfl rfl ⟨rfl, rfl, ⟨_, _, rfl⟩, trivial⟩ rfl (by decide) (by decide) (by decide) rfl ?_
          clear H; intro a w H
          replace H := nf H
          refine mW ?_; clear H; intro a w H
          refine wp_ret ?_; exact mEnd [] [] [.tmp 4] [_] hN hR H
set_option maxRecDepth 20000 in
set_option maxHeartbeats 4000000 in
theorem packCodes_bo (p : Pf) (hw : p.wf) (hpl : p.s.length ≤ 1048576) (l : List UInt8) (hl : l.length ≤ 1048576) (hc : p.chk ≠ 0) (hd : pOk l) : VC Try.prog 3 [p.av, .bs l none] [] (.v (.bool true)) := by
  have cc := copyPf_v p hw (by omega)
  have el := lent_v l (by omega)
  have ex := encodeP_bad p hw hc
  have ez := encR_bad p hw hc
  have en := sizeP_bad p hw hc
  have ck := pcheck_v p hw
  have cr := pcheckR_v p hw
  have sx := same_v [] []
  rw [beq_self_eq_true] at sx
  have cs := sameP_v p p hw hw (by omega)
  rw [decide_eq_true (show p = p from rfl)] at cs
  have kp := kept_v l (by omega)
  have hlt := lent_take l
  have d1 := decVec l (by omega) hd
  have d2 := decodeP_v l (by omega)
  have d3 := decPR_v l (by omega)
  rw [if_pos hd] at d2 d3
  have hqw := pDecW l
  have hql := (chk_all (pDecC hd)).1
  have cq := sameP_v (pDec l) (pDec l) hqw hqw (by omega)
  rw [decide_eq_true (show pDec l = pDec l from rfl)] at cq
  obtain ⟨g1, g2, g3, g4⟩ := id hqw.e
  generalize pDec l = q at *
  obtain ⟨qs, qn⟩ := q
  dsimp only at g1 g2 g3 g4 hql d1
  have hqb := bas_len qs
  have hz2 := z32_len
  obtain ⟨f1, f2, f3, f4⟩ := id hw.e
  generalize p.chk = ch at *
  obtain ⟨s, n⟩ := p
  dsimp only at f1 f2 f3 f4 hpl
  have hsl := bas_len s
  refine mE Try.func3 ?_; intro N w0 a w hN hR H
  simp only [Pf.av, Nd.av] at H cc ex ez en ck cr cs d1 d2 d3 cq
  have hX := @hsl
  refine mW ?_; clear H; intro a w H
  refine mC H (fun hb => ?_) (fun hb => ?_)
  · refine mW ?_; clear H; intro a w H
    refine wp_ret ?_; exact mEnd [] [] [.tmp 4] [_] hN hR H
  · clear hb
    refine mW ?_; clear H; intro a w H
    refine mCall [] [] (cc) H ?_; clear H; intro a w H; try refine wpList_nil ?_
    refine mW ?_; clear H; intro a w H
    refine mCall [] [] (el) H ?_; clear H; intro a w H; try refine wpList_nil ?_
    refine mW ?_; clear H; intro a w H
    refine mCall [] [] (ex) H ?_; clear H; intro a w H; try refine wpList_nil ?_
    refine mW ?_; clear H; intro a w H
    refine mCall [] [] (ex) H ?_; clear H; intro a w H; try refine wpList_nil ?_
    refine mW ?_; clear H; intro a w H
    refine mCall [] [] (ez) H ?_; clear H; intro a w H; try refine wpList_nil ?_
    refine mW ?_; clear H; intro a w H
    refine mCall [] [] (en) H ?_; clear H; intro a w H; try refine wpList_nil ?_
    clear hX; have hX := @hlt
    refine mW ?_; clear H; intro a w H
    refine mCall [] [] (d1) H ?_; clear H; intro a w H; try refine wpList_nil ?_
    refine mW ?_; clear H; intro a w H
    refine mCall [] [] (d2) H ?_; clear H; intro a w H; try refine wpList_nil ?_
    refine mW ?_; clear H; intro a w H
    refine mCall [] [] (d3) H ?_; clear H; intro a w H; try refine wpList_nil ?_
    clear hX
    refine mW ?_; clear H; intro a w H
    refine mS ?_; refine mD 7 [1, 3, 8, 14] [2] H ?_; clear H; intro gS H; refine mT ?_; clear H; intro a w H
    refine mCallT [] [] (ck) H ?_; clear H; intro a w H
    refine mT ?_; clear H; intro a w H
    refine mCallT [] [] (cr) H ?_; clear H; intro a w H
    refine mT ?_; clear H; intro a w H
    refine mCallTG [] [] (sx) H ?_; clear H; intro a w H
    refine mT ?_; clear H; intro a w H
    refine mCallTG [] [] (sx) H ?_; clear H; intro a w H
    refine mT ?_; clear H; intro a w H
    refine v_drawNil H ?_; clear H; intro H
    refine mC H (fun hb => ?_) (fun hb => ?_)
    · simp at hb
    · clear hb
      replace H := mK [1, 2, 4, 5, 6, 7, 9, 15, 16, 17, 18, 19, 20] 7 0 hN hR H
      refine mW ?_; clear H; intro a w H
      have hqt : bas qs = (bas qs).take qs.length := (List.take_of_length_le (by omega)).symm
      refine v_callR cq H (by rfl) rfl rfl (by exact ⟨⟨⟨_, _, rfl, by omega, hqt⟩, ⟨⟨sub_refl _ _, rfl, rfl⟩, ⟨sub_refl _ _, rfl, rfl⟩, ⟨sub_refl _ _, rfl, rfl⟩, ⟨sub_refl _ _, rfl, rfl⟩, ⟨sub_refl _ _, rfl, rfl⟩, trivial⟩, trivial⟩, ⟨⟨⟨rfl, rfl⟩, rfl, rfl⟩, ⟨⟨sub_refl _ _, rfl, rfl⟩, ⟨sub_refl _ _, rfl, rfl⟩, ⟨sub_refl _ _, rfl, rfl⟩, ⟨sub_refl _ _, rfl, rfl⟩, ⟨sub_refl _ _, rfl, rfl⟩, trivial⟩, trivial⟩, trivial⟩) ?_; clear H; intro a w H
      replace H := nf H
      refine mW ?_; clear H; intro a w H
      refine mCallG [] [] (cq) H ?_; clear H; intro a w H; try refine wpList_nil ?_
      refine mW ?_; clear H; intro a w H
      refine mCallG [] [] (cs) H ?_; clear H; intro a w H; try refine wpList_nil ?_
      refine mW ?_; clear H; intro a w H
      refine mCallG [] [] (kp) H ?_; clear H; intro a w H; try refine wpList_nil ?_
      refine mW ?_; clear H; intro a w H
      refine mC H (fun hb => ?_) (fun hb => ?_)
      · simp at hb
      · clear hb
        replace H := mK [4, 6, 7, 9, 15, 17, 19] 7 0 hN hR H
        refine mW ?_; clear H; intro a w H
        refine v_loop (fun i : Nat × List AV => ⟨[(21, none, .v (.int .i64 (i.1 : Int))), (4, none, .v (.bool false)), (6, none, .bc (lentOf l) l.length (some 2)), (7, none, .v (.slice none 0 0)), (9, none, .v (.slice none 0 0)), (15, none, .ptr 4 []), (17, none, .ptr 5 []), (19, none, .ptr 6 [])], [(ti30.ty, .st [.sl (.ba 32) (bas s) none, .st [.v (B8 n.k), .ba n.key, .ba n.v, .ba n.l, .ba n.r]]), (ti30.ty, .st [.sl (.ba 32) (bas s) none, .st [.v (B8 n.k), .ba n.key, .ba n.v, .ba n.l, .ba n.r]]), (.ba (l.length + 5), .ba (lentOf l)), (.vc 26 (.ba 32), .vc 1 i.2), (ti30.ty, .st [.vw 3 1 qs.length, .st [.v (B8 qn.k), .ba qn.key, .ba qn.v, .ba qn.l, .ba qn.r]]), (ti30.ty, .st [.sl (.ba 32) (bas qs) none, .st [.v (B8 qn.k), .ba qn.key, .ba qn.v, .ba qn.l, .ba qn.r]]), (ti30.ty, .st [.sl (.ba 32) (bas qs) none, .st [.v (B8 qn.k), .ba qn.key, .ba qn.v, .ba qn.l, .ba qn.r]])], [2], []⟩) (fun i => i.1 ≤ qs.length ∧ i.2.length = qs.length) (fun i => qs.length - i.1) (0, bas qs) ⟨Nat.zero_le _, hqb⟩ (H.to 7 0 ⟨Nat.le_trans hN (by decide), hR⟩ ⟨rfl, rfl, rfl, rfl, rfl, rfl, rfl, rfl, trivial⟩ rfl rfl rfl rfl rfl) ?_
        clear H
        rintro ⟨k, es⟩ a w ⟨hk1, hk2⟩ H
        dsimp only at H hk1 hk2
        refine mW ?_; clear H; intro a w H
        refine mC H (fun hb => ?_) (fun hb => ?_)
        · have hlt2 : k < qs.length := by rw [decide_eq_true_eq] at hb; omega
          clear hb
          have hX := @hk2
          refine mW ?_; clear H; intro a w H
          exact ⟨(k + 1, _), ⟨hlt2, by simp [hk2]⟩, by dsimp only; omega, H.to 7 0 ⟨Nat.le_trans hN (by decide), hR⟩ ⟨rfl, rfl, rfl, rfl, rfl, rfl, rfl, rfl, trivial⟩ rfl rfl rfl rfl rfl⟩
        · clear hb
          refine mW ?_; clear H; intro a w H
          refine mCall [] [] (cq) H ?_; clear H; intro a w H; try refine wpList_nil ?_
          (try refine wp_region_lit ?_); refine mN 1 hN H ?_; clear H; intro a w H
          refine mG H ?_
          (try refine wp_region_lit ?_); refine mN 1 hN H ?_; clear H; intro a w H
          refine mG H ?_
          (try refine wp_region_lit ?_); refine mN 1 hN H ?_; clear H; intro a w H
          refine mG H ?_
          (try refine wp_region_lit ?_); refine mN 1 hN H ?_; clear H; intro a w H
          refine mG H ?_
          refine v_apart (xs := [.tmp 151, .tmp 152, .tmp 153]) (ks := [0, 0, 6]) H rfl (.inr ⟨150, true, by rfl, by rfl, by decide⟩) rfl (by show 154 < 157; decide) rfl rfl ⟨trivial, trivial, ⟨_, _, rfl⟩, trivial⟩ rfl (by decide) (by decide) (by decide) rfl ?_
          clear H; intro a w H
          replace H := nf H
          refine mW ?_; clear H; intro a w H
          refine wp_ret ?_; exact mEnd [] [] [.tmp 4] [_] hN hR H
set_option maxRecDepth 20000 in
set_option maxHeartbeats 4000000 in
theorem packCodes_bb (p : Pf) (hw : p.wf) (hpl : p.s.length ≤ 1048576) (l : List UInt8) (hl : l.length ≤ 1048576) (hc : p.chk ≠ 0) (hd : ¬ pOk l) : VC Try.prog 3 [p.av, .bs l none] [] (.v (.bool true)) := by
  have cc := copyPf_v p hw (by omega)
  have el := lent_v l (by omega)
  have ex := encodeP_bad p hw hc
  have ez := encR_bad p hw hc
  have en := sizeP_bad p hw hc
  have ck := pcheck_v p hw
  have cr := pcheckR_v p hw
  have sx := same_v [] []
  rw [beq_self_eq_true] at sx
  have cs := sameP_v p p hw hw (by omega)
  rw [decide_eq_true (show p = p from rfl)] at cs
  have kp := kept_v l (by omega)
  have hlt := lent_take l
  have d1 := decodeP_v l (by omega)
  have d3 := decPR_v l (by omega)
  rw [if_neg hd] at d1 d3
  rw [pDec, if_neg hd] at d1 d3
  have cq := sameP_v Pf.zero Pf.zero pzero_wf pzero_wf (by simp [Pf.zero])
  rw [decide_eq_true (show Pf.zero = Pf.zero from rfl)] at cq
  have hz2 := z32_len
  obtain ⟨f1, f2, f3, f4⟩ := id hw.e
  generalize p.chk = ch at *
  obtain ⟨s, n⟩ := p
  dsimp only at f1 f2 f3 f4 hpl
  have hsl := bas_len s
  refine mE Try.func3 ?_; intro N w0 a w hN hR H
  simp only [Pf.av, Nd.av, Pf.zero, Nd.zero, bas, List.map_nil] at H cc ex ez en ck cr cs d1 d3 cq
  have hX := @hsl
  refine mW ?_; clear H; intro a w H
  refine mC H (fun hb => ?_) (fun hb => ?_)
  · refine mW ?_; clear H; intro a w H
    refine wp_ret ?_; exact mEnd [] [] [.tmp 4] [_] hN hR H
  · clear hb
    refine mW ?_; clear H; intro a w H
    refine mCall [] [] (cc) H ?_; clear H; intro a w H; try refine wpList_nil ?_
    refine mW ?_; clear H; intro a w H
    refine mCall [] [] (el) H ?_; clear H; intro a w H; try refine wpList_nil ?_
    refine mW ?_; clear H; intro a w H
    refine mCall [] [] (ex) H ?_; clear H; intro a w H; try refine wpList_nil ?_
    refine mW ?_; clear H; intro a w H
    refine mCall [] [] (ex) H ?_; clear H; intro a w H; try refine wpList_nil ?_
    refine mW ?_; clear H; intro a w H
    refine mCall [] [] (ez) H ?_; clear H; intro a w H; try refine wpList_nil ?_
    refine mW ?_; clear H; intro a w H
    refine mCall [] [] (en) H ?_; clear H; intro a w H; try refine wpList_nil ?_
    clear hX; have hX := @hlt
    refine mW ?_; clear H; intro a w H
    refine mCall [] [] (d1) H ?_; clear H; intro a w H; try refine wpList_nil ?_
    refine mW ?_; clear H; intro a w H
    refine mCall [] [] (d1) H ?_; clear H; intro a w H; try refine wpList_nil ?_
    refine mW ?_; clear H; intro a w H
    refine mCall [] [] (d3) H ?_; clear H; intro a w H; try refine wpList_nil ?_
    clear hX
    refine mW ?_; clear H; intro a w H
    refine mS ?_; refine mD 6 [1, 3, 8, 14] [2] H ?_; clear H; intro gS H; refine mT ?_; clear H; intro a w H
    refine mCallT [] [] (ck) H ?_; clear H; intro a w H
    refine mT ?_; clear H; intro a w H
    refine mCallT [] [] (cr) H ?_; clear H; intro a w H
    refine mT ?_; clear H; intro a w H
    refine mCallTG [] [] (sx) H ?_; clear H; intro a w H
    refine mT ?_; clear H; intro a w H
    refine mCallTG [] [] (sx) H ?_; clear H; intro a w H
    refine mT ?_; clear H; intro a w H
    refine v_drawNil H ?_; clear H; intro H
    refine mC H (fun hb => ?_) (fun hb => ?_)
    · simp at hb
    · clear hb
      replace H := mK [1, 2, 4, 5, 6, 7, 9, 15, 16, 17, 18, 19, 20] 6 0 hN hR H
      refine mW ?_; clear H; intro a w H
      refine mCall [] [] (cq) H ?_; clear H; intro a w H; try refine wpList_nil ?_
      refine mW ?_; clear H; intro a w H
      refine mCallG [] [] (cq) H ?_; clear H; intro a w H; try refine wpList_nil ?_
      refine mW ?_; clear H; intro a w H
      refine mCallG [] [] (cs) H ?_; clear H; intro a w H; try refine wpList_nil ?_
      refine mW ?_; clear H; intro a w H
      refine mCallG [] [] (kp) H ?_; clear H; intro a w H; try refine wpList_nil ?_
      refine mW ?_; clear H; intro a w H
      refine mC H (fun hb => ?_) (fun hb => ?_)
      · simp at hb
      · clear hb
        replace H := mK [4, 6, 7, 9, 15, 17, 19] 6 0 hN hR H
        refine mW ?_; clear H; intro a w H
        refine v_loop (fun k : Nat => ⟨[(21, none, .v (.int .i64 0)), (4, none, .v (.bool false)), (6, none, .bc (lentOf l) l.length (some 2)), (7, none, .v (.slice none 0 0)), (9, none, .v (.slice none 0 0)), (15, none, .ptr 3 []), (17, none, .ptr 4 []), (19, none, .ptr 5 [])], _, _, []⟩) (fun k => k = 0) (fun k => k) 0 rfl (H.to 6 0 ⟨Nat.le_trans hN (by decide), hR⟩ ⟨rfl, rfl, rfl, rfl, rfl, rfl, rfl, rfl, trivial⟩ rfl rfl rfl rfl rfl) ?_
        clear H
        rintro k a w hk0 H
        refine mW ?_; clear H; intro a w H
        refine mC H (fun hb => ?_) (fun hb => ?_)
        · simp at hb
        · clear hb
          refine mW ?_; clear H; intro a w H
          refine mCall [] [] (cq) H ?_; clear H; intro a w H; try refine wpList_nil ?_
          (try refine wp_region_lit ?_); refine mN 1 hN H ?_; clear H; intro a w H
          refine mG H ?_
          (try refine wp_region_lit ?_); refine mN 1 hN H ?_; clear H; intro a w H
          refine mG H ?_
          (try refine wp_region_lit ?_); refine mN 1 hN H ?_; clear H; intro a w H
          refine mG H ?_
          (try refine wp_region_lit ?_); refine mN 1 hN H ?_; clear H; intro a w H
          refine mG H ?_
          refine v_apart (xs := [.tmp 151, .tmp 152, .tmp 153]) (ks := [0, 0, 6]) H rfl (.inr ⟨150, true, by rfl, by rfl, by decide⟩) rfl (by show 154 < 157; decide) rfl rfl ⟨trivial, trivial, ⟨_, _, rfl⟩, trivial⟩ rfl (by decide) (by decide) (by decide) rfl ?_
          clear H; intro a w H
          replace H := nf H
          refine mW ?_; clear H; intro a w H
          refine wp_ret ?_; exact mEnd [] [] [.tmp 4] [_] hN hR H
end Go.Proofs.Ytnkeolokhcljpaa
/- Nodes among the arguments. -/
namespace Go.Proofs.Ytnkeolokhcljpaa
open Go Go.RowKit
theorem node_sh {M d : Nat} {a : AV} (h : Sh tab M (d + 3) 28 a) : ∃ n : Nd, a = n.av ∧ n.wf := by
  obtain ⟨az, rfl, hs⟩ := h.rcd rfl rfl
  clear h; have h := hs; clear hs; dsimp only [List.map] at h
  obtain ⟨a0, r, rfl, h0, h⟩ := shl_cons h
  obtain ⟨a1, r, rfl, h1, h⟩ := shl_cons h
  obtain ⟨a2, r, rfl, h2, h⟩ := shl_cons h
  obtain ⟨a3, r, rfl, h3, h⟩ := shl_cons h
  obtain ⟨a4, r, rfl, h4, h⟩ := shl_cons h
  obtain rfl := shl_nil h
  obtain ⟨n, rfl, hn⟩ := h0.int rfl rfl
  obtain ⟨k, hk⟩ := u8_of hn
  obtain ⟨l1, rfl, e1⟩ := h1.arr rfl rfl
  obtain ⟨l2, rfl, e2⟩ := h2.arr rfl rfl
  obtain ⟨l3, rfl, e3⟩ := h3.arr rfl rfl
  obtain ⟨l4, rfl, e4⟩ := h4.arr rfl rfl
  exact ⟨⟨k, l1, l2, l3, l4⟩, by rw [hk]; rfl, e1, e2, e3, e4⟩
end Go.Proofs.Ytnkeolokhcljpaa
/- Proofs among the arguments. -/
namespace Go.Proofs.Ytnkeolokhcljpaa
open Go Go.RowKit
theorem pf_sh {M d : Nat} {a : AV} (h : Sh tab M (d + 4) 30 a) : ∃ p : Pf, a = p.av ∧ p.wf ∧ p.s.length ≤ M := by
  obtain ⟨az, rfl, hs⟩ := h.rcd rfl rfl
  clear h; have h := hs; clear hs; dsimp only [List.map] at h
  obtain ⟨a0, r, rfl, h0, h⟩ := shl_cons h
  obtain ⟨a1, r, rfl, h1, h⟩ := shl_cons h
  obtain rfl := shl_nil h
  obtain ⟨es, rfl, hl, he⟩ := h0.slc rfl rfl rfl
  obtain ⟨ys, rfl, hy⟩ := sh_list (q := fun l : List UInt8 => l.length = 32) (f := AV.ba) (fun x hx => hx.arr rfl rfl) he
  obtain ⟨n, rfl, hn⟩ := node_sh h1
  exact ⟨⟨ys, n⟩, rfl, ⟨hy, hn⟩, by simpa using hl⟩
end Go.Proofs.Ytnkeolokhcljpaa
/- PackCodes, of all arguments of its types. -/
namespace Go.Proofs.Ytnkeolokhcljpaa
open Go Go.RowKit
theorem packCodes_v (p : Pf) (hw : p.wf) (hpl : p.s.length ≤ 1048576) (l : List UInt8) (hl : l.length ≤ 1048576) : VC Try.prog 3 [p.av, .bs l none] [] (.v (.bool true)) := by
  by_cases hc : p.chk = 0 <;> by_cases hd : pOk l
  · exact packCodes_oo p hw hpl l hl hc hd
  · exact packCodes_ob p hw hpl l hl hc hd
  · exact packCodes_bo p hw hpl l hl hc hd
  · exact packCodes_bb p hw hpl l hl hc hd
theorem packCodes_az (az : List AV) (h : ShL (Sh tab 1048576 6) [30, 31] az) : VC Try.prog 3 az [] (.v (.bool true)) := by
  obtain ⟨a0, r, rfl, h0, h⟩ := shl_cons h
  obtain ⟨a1, r, rfl, h1, h⟩ := shl_cons h
  obtain rfl := shl_nil h
  obtain ⟨p, rfl, hp, hpl⟩ := pf_sh h0
  obtain ⟨l, rfl, hl⟩ := h1.bytes rfl rfl rfl
  exact packCodes_v p hp hpl l hl
end Go.Proofs.Ytnkeolokhcljpaa
