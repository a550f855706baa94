/- The arguments of a statement, as values; what a statement's form asks for, out of a contract in values. -/
import Derived.Test.YtpeefeioccglcaaRows
import Derived.Test.YtpeefeioccglcaaA5
import Derived.OpenShut
import Derived.Carry
import Derived.WalkKit
import Derived.ProofKit
import Derived.JoinedCond
import Derived.Shelf.SlicesE.Reverse
import Derived.Test.YtpeefeioccglcaaA1
import Derived.Deep.OwnRows
import Derived.BigQuiet
import Derived.BigRegion
import Derived.Deep.Draws
import Derived.Deep.LoopGhost
set_option linter.unusedSimpArgs false
set_option linter.unusedVariables false
namespace Go.Proofs.Ytpeefeioccglcaa
open Go Go.RowKit
theorem bulk_part {H : Type} {d : DataW H} : ∀ {l : List (DataW H)}, d ∈ l → Rows.uptoBulk d ≤ Rows.uptoBulkAll l
  | x :: l, h => by
    rcases List.mem_cons.1 h with e | e
    · subst e; simp only [Rows.uptoBulkAll]; omega
    · have := bulk_part e; simp only [Rows.uptoBulkAll]; omega
theorem bulk_one {H : Type} (d : DataW H) : 1 ≤ Rows.uptoBulk d := by
  cases d with
  | lit l => cases l <;> simp [Rows.uptoBulk]
  | _ => simp [Rows.uptoBulk]
theorem bulk_len {H : Type} : ∀ l : List (DataW H), l.length ≤ Rows.uptoBulkAll l
  | [] => by simp
  | x :: l => by have := bulk_one x; have := bulk_len l; simp only [Rows.uptoBulkAll, List.length_cons]; omega
def isU8 (τ : Tab) (e : Nat) : Bool := match Tab.get e τ with
  | some j => (match j.d with | .int .u8 => true | _ => false)
  | none => false
def tyOf (τ : Tab) (e : Nat) : Ty := match Tab.get e τ with
  | some j => j.ty
  | none => .sc
def ShL (f : Nat → AV → Prop) : List Nat → List AV → Prop
  | [], [] => True
  | t :: ts, a :: az => f t a ∧ ShL f ts az
  | _, _ => False
/-- The values that a type may have: each stretch no longer than M. -/
def Sh (τ : Tab) (M : Nat) : Nat → Nat → AV → Prop
  | 0, _, _ => False
  | d + 1, t, a => match (Tab.get t τ).map TI.d with
    | some (.int k) => ∃ n, a = .v (.int k n) ∧ ilo k ≤ n ∧ n ≤ ihi k
    | some .bool => ∃ b, a = .v (.bool b)
    | some .str => ∃ s : ByteArray, a = .v (.string s) ∧ s.size ≤ M
    | some (.slc e) => if isU8 τ e then ∃ l, a = .bs l none ∧ l.length ≤ M else ∃ es, a = .sl (tyOf τ e) es none ∧ es.length ≤ M ∧ ∀ x ∈ es, Sh τ M d e x
    | some (.arr n _) => ∃ l, a = .ba l ∧ l.length = n
    | some (.rcd fs) => ∃ az, a = .st az ∧ ShL (Sh τ M d) (fs.map (·.2)) az
    | _ => False
def lay (τ : Tab) : List (Nat × Nat) → Nat → Ty → Bool
  | [], _, .nl => true
  | (o, t) :: fs, off, .cn T Ts => o == off && (Tab.get t τ).isSome && tyOf τ t == T && lay τ fs (off + T.size) Ts
  | _, _, _ => false
def okT (τ : Tab) : Nat → Nat → Bool
  | 0, _ => false
  | d + 1, t => match Tab.get t τ with
    | some i => (match i.d with
      | .int _ => i.ty == .sc
      | .bool => i.ty == .sc
      | .str => i.ty == .sc
      | .slc e => i.ty == .sc && (Tab.get e τ).isSome && decide (0 < (tyOf τ e).size) && (isU8 τ e && tyOf τ e == .sc || !isU8 τ e && okT τ d e)
      | .arr n e => isU8 τ e && i.ty == .ba n && tyOf τ e == .sc
      | .rcd fs => lay τ fs 0 i.ty && i.ty.agg && fs.all fun f => okT τ d f.2
      | _ => false)
    | none => false
section
variable {τ : Tab} {M d t : Nat} {a : AV} {i : TI}
theorem Sh.int {k : IntKind} (ht : Tab.get t τ = some i) (hd : i.d = .int k) (h : Sh τ M (d + 1) t a) : ∃ n, a = .v (.int k n) ∧ ilo k ≤ n ∧ n ≤ ihi k := by
  unfold Sh at h; simp only [ht, Option.map_some, hd] at h; exact h
theorem Sh.bool (ht : Tab.get t τ = some i) (hd : i.d = .bool) (h : Sh τ M (d + 1) t a) : ∃ b, a = .v (.bool b) := by
  unfold Sh at h; simp only [ht, Option.map_some, hd] at h; exact h
theorem Sh.str (ht : Tab.get t τ = some i) (hd : i.d = .str) (h : Sh τ M (d + 1) t a) : ∃ s : ByteArray, a = .v (.string s) ∧ s.size ≤ M := by
  unfold Sh at h; simp only [ht, Option.map_some, hd] at h; exact h
theorem Sh.bytes {e : Nat} (ht : Tab.get t τ = some i) (hd : i.d = .slc e) (hu : isU8 τ e = true) (h : Sh τ M (d + 1) t a) : ∃ l, a = .bs l none ∧ l.length ≤ M := by
  unfold Sh at h; simp only [ht, Option.map_some, hd, hu, if_true] at h; exact h
theorem Sh.slc {e : Nat} (ht : Tab.get t τ = some i) (hd : i.d = .slc e) (hu : isU8 τ e = false) (h : Sh τ M (d + 1) t a) : ∃ es, a = .sl (tyOf τ e) es none ∧ es.length ≤ M ∧ ∀ x ∈ es, Sh τ M d e x := by
  unfold Sh at h; simp only [ht, Option.map_some, hd, hu, Bool.false_eq_true, if_false] at h; exact h
theorem Sh.arr {n e : Nat} (ht : Tab.get t τ = some i) (hd : i.d = .arr n e) (h : Sh τ M (d + 1) t a) : ∃ l, a = .ba l ∧ l.length = n := by
  unfold Sh at h; simp only [ht, Option.map_some, hd] at h; exact h
theorem Sh.rcd {fs : List (Nat × Nat)} (ht : Tab.get t τ = some i) (hd : i.d = .rcd fs) (h : Sh τ M (d + 1) t a) : ∃ az, a = .st az ∧ ShL (Sh τ M d) (fs.map (·.2)) az := by
  unfold Sh at h; simp only [ht, Option.map_some, hd] at h; exact h
theorem shl_nil {f : Nat → AV → Prop} {az : List AV} (h : ShL f [] az) : az = [] := by
  cases az with
  | nil => rfl
  | cons _ _ => exact h.elim
theorem shl_cons {f : Nat → AV → Prop} {t : Nat} {ts : List Nat} {az : List AV} (h : ShL f (t :: ts) az) : ∃ a r, az = a :: r ∧ f t a ∧ ShL f ts r := by
  cases az with
  | nil => exact h.elim
  | cons a r => exact ⟨a, r, rfl, h.1, h.2⟩
/-- Elements, each of a form. -/
theorem sh_list {α : Type} {p : AV → Prop} {q : α → Prop} {f : α → AV} (hp : ∀ x, p x → ∃ y, x = f y ∧ q y) : ∀ {es : List AV}, (∀ x ∈ es, p x) → ∃ ys : List α, es = ys.map f ∧ ∀ y ∈ ys, q y
  | [], _ => ⟨[], rfl, fun y h => by cases h⟩
  | x :: es, h => by
    obtain ⟨y, rfl, hy⟩ := hp x (h x List.mem_cons_self)
    obtain ⟨ys, rfl, hys⟩ := sh_list hp (es := es) fun x hx => h x (List.mem_cons_of_mem _ hx)
    exact ⟨y :: ys, rfl, fun z hz => by rcases List.mem_cons.1 hz with e | e; (subst e; exact hy); exact hys z e⟩
end
/-- All cells of a memory. -/
def allOf (w : World) : Gh := ⟨fun b o => w.cell? ⟨b, o, none⟩, [], []⟩
section
variable {H : Type} {enc : TypeId × Value → H} {P : Program} {τ : Tab} {w : World} {sp : Nat → Bool} {held : Bool} {M : Nat}
theorem wf_lohi {k : IntKind} {n : Int} (h : (Lit.int k n).wf = true) : ilo k ≤ n ∧ n ≤ ihi k := by
  cases k <;> simp [Lit.wf, IntKind.min, IntKind.max, IntKind.signed, IntKind.bits] at h <;> simp only [ilo, ihi] <;> omega
theorem isU8_ok (hτ : τ.ok P) {e : Nat} (h : isU8 τ e = true) : P.underlying e = some (.int .u8) := by
  unfold isU8 at h
  split at h
  · rename_i j hj
    have hok := (Tab.get_ok hτ hj).d
    split at h
    · rename_i hd; rw [hd] at hok; exact hok
    · cases h
  · cases h
theorem cells_ty (hτ : τ.ok P) {e : Nat} (h : (Tab.get e τ).isSome = true) : P.cellsOf e = (tyOf τ e).size := by
  unfold tyOf
  cases hj : Tab.get e τ with
  | none => rw [hj] at h; cases h
  | some j =>
    obtain ⟨inf, z, h1, h2, _⟩ := (Tab.get_ok hτ hj).info
    simp [Program.cellsOf, h1, h2]
theorem isU8_some {e : Nat} (h : isU8 τ e = true) : (Tab.get e τ).isSome = true := by
  unfold isU8 at h
  split at h
  · rename_i j hj; rw [hj]; rfl
  · cases h
theorem B8_of {n : Int} (h : 0 ≤ n ∧ n ≤ 255) : B8 (UInt8.ofNat n.toNat) = .int .u8 n := by
  simp only [B8, UInt8.toNat_ofNat']
  congr 1; omega
theorem trod_rc (hτ : τ.ok P) : ∀ (d : Nat) {t fuel : Nat} {cs : List Value} {x : DataW H × List MemPlace}, okT τ d t = true → DataW.trod enc P w 0 sp held fuel t cs = some x → Rows.uptoBulk x.1 ≤ M →
    ∃ a, Sh τ M d t a ∧ RC (allOf w) (tyOf τ t) a cs := by
  intro d
  induction d with
  | zero => intro t fuel cs x h; cases h
  | succ d ih =>
    intro t fuel cs x hok hx hM
    unfold okT at hok
    cases hg : Tab.get t τ with
    | none => rw [hg] at hok; cases hok
    | some i =>
    rw [hg] at hok
    have hi := Tab.get_ok hτ hg
    have hty : tyOf τ t = i.ty := by unfold tyOf; rw [hg]
    have hdd := hi.d
    have hsz : P.cellsOf t = i.ty.size := by rw [← hty]; exact cells_ty hτ (by rw [hg]; rfl)
    rw [hty]
    dsimp only at hok
    have sh : ∀ a, (match some i.d with
      | some (.int k) => ∃ n, a = AV.v (.int k n) ∧ ilo k ≤ n ∧ n ≤ ihi k
      | some .bool => ∃ b, a = .v (.bool b)
      | some .str => ∃ s : ByteArray, a = .v (.string s) ∧ s.size ≤ M
      | some (.slc e) => if isU8 τ e then ∃ l, a = .bs l none ∧ l.length ≤ M else ∃ es, a = .sl (tyOf τ e) es none ∧ es.length ≤ M ∧ ∀ x ∈ es, Sh τ M d e x
      | some (.arr n _) => ∃ l, a = .ba l ∧ l.length = n
      | some (.rcd fs) => ∃ az, a = .st az ∧ ShL (Sh τ M d) (fs.map (·.2)) az
      | _ => False) → Sh τ M (d + 1) t a := fun a h => by unfold Sh; rw [hg]; exact h
    generalize hdi : i.d = D' at hok hdd sh
    cases D' with
    | int k =>
      obtain ⟨n, rfl, rfl, hw⟩ := DataW.trod_int hdd hx
      rw [eq_of_beq hok]
      exact ⟨.v (.int k n), sh _ ⟨n, rfl, wf_lohi hw⟩, .v rfl⟩
    | bool =>
      obtain ⟨b, rfl, rfl⟩ := DataW.trod_bool hdd hx
      rw [eq_of_beq hok]
      exact ⟨.v (.bool b), sh _ ⟨b, rfl⟩, .v rfl⟩
    | str =>
      obtain ⟨s, rfl, rfl, hs⟩ := DataW.trod_string hdd hx
      rw [eq_of_beq hok]
      refine ⟨.v (.string s), sh _ ⟨s, rfl, ?_⟩, .v rfl⟩
      simp only [Rows.uptoBulk] at hM
      have : s.data.toList.length = s.size := by rw [Array.length_toList]; rfl
      omega
    | slc e =>
      simp only [Bool.and_eq_true, Bool.or_eq_true, Bool.not_eq_true', decide_eq_true_eq] at hok
      obtain ⟨⟨⟨h1, h2⟩, h3⟩, h4⟩ := hok
      have hce := cells_ty hτ h2
      rw [eq_of_beq h1]
      by_cases hu : isU8 τ e = true
      · have hu1 : tyOf τ e = .sc := by rcases h4 with h4 | h4; exact eq_of_beq h4.2; rw [h4.1] at hu; cases hu
        have hs0 : P.cellsOf e = 1 := by rw [hce, hu1]; rfl
        rcases ChangeShapes.open_ints hdd (isU8_ok hτ hu) hs0 hx with ⟨rfl, rfl⟩ | ⟨A, len, cap, zs, rfl, _, hl, hm, hz, rfl, hc, hw⟩
        · refine ⟨.bs [] none, sh _ ?_, RC.nil1 rfl⟩
          show ite _ _ _
          rw [if_pos hu]; exact ⟨[], rfl, Nat.zero_le _⟩
        · have hlz : len ≤ zs.length := by rw [hz]; split <;> omega
          have hll : ((zs.take len).map fun n => UInt8.ofNat n.toNat).length = len := by simp [hlz]
          refine ⟨.bs ((zs.take len).map fun n => UInt8.ofNat n.toNat) none, sh _ ?_, ?_⟩
          · show ite _ _ _
            rw [if_pos hu]
            refine ⟨_, rfl, ?_⟩
            rw [hll]
            simp only [Rows.uptoBulk] at hM
            have h5 := bulk_len (ChangeShapes.lits (H := H) .u8 (zs.take len))
            have h6 : (ChangeShapes.lits (H := H) .u8 (zs.take len)).length = len := by simp [ChangeShapes.lits, hlz]
            omega
          · have := RC.bs (g := allOf w) (l := (zs.take len).map fun n => UInt8.ofNat n.toNat) (tok := none) (A := some A) (c := cap) (by rw [hll]; exact hl) hm ?_ (fun i hi => by cases hi)
            · rw [hll] at this; exact this
            · rcases Nat.eq_zero_or_pos len with h0 | h0
              · left; rw [h0]; rfl
              · right
                obtain ⟨b, o, rfl, hcc⟩ := ints_at hc (by omega)
                refine ⟨b, o, rfl, fun j hj => ?_⟩
                rw [hll] at hj
                have h7 := hcc j (by omega)
                show w.cell? _ = _
                rw [h7]
                have h8 : zs.getD j 0 = zs[j]'(by omega) := by simp [List.getD, show j < zs.length by omega]
                have h9 := wf_lohi (hw _ (List.getElem_mem (show j < zs.length by omega)))
                simp only [ilo, ihi] at h9
                rw [h8]
                simp only [List.getElem_map, List.getElem_take]
                rw [B8_of h9]
      · have h4' : okT τ d e = true := by rcases h4 with h4 | h4; exact absurd h4.1 hu; exact h4.2
        rcases DataW.trod_slice hdd hx with ⟨rfl, rfl⟩ | ⟨A, len, cap, elems, rest, n, _, rfl, rfl, _, hl, hm, hlen, hel, _, _⟩
        · refine ⟨.sl (tyOf τ e) [] none, sh _ ?_, RC.nil2 rfl⟩
          show ite _ _ _
          rw [if_neg hu]; exact ⟨[], rfl, Nat.zero_le _, fun x hx => by cases hx⟩
        · simp only [Rows.uptoBulk] at hM
          have hb1 := bulk_len (elems.map (·.1))
          rw [List.length_map, hlen] at hb1
          have each : ∀ k, ∃ p : List Value × AV, k < len → w.cells? 0 (A.add (k * P.cellsOf e)) (P.cellsOf e) = some p.1 ∧ Sh τ M d e p.2 ∧ RC (allOf w) (tyOf τ e) p.2 p.1 := fun k => by
            by_cases hk : k < len
            · have h5 := hel k hk
              rw [List.getElem?_eq_getElem (by omega)] at h5
              obtain ⟨cs', h6, h7⟩ := Option.bind_eq_some_iff.1 h5
              have h8 : Rows.uptoBulk (elems[k]'(by omega)).1 ≤ M := by
                have := bulk_part (List.mem_map_of_mem (f := (·.1)) (List.getElem_mem (show k < elems.length by omega)))
                omega
              obtain ⟨a, ha1, ha2⟩ := ih h4' h7 h8
              exact ⟨(cs', a), fun _ => ⟨h6, ha1, ha2⟩⟩
            · exact ⟨([], .any), fun h => absurd h hk⟩
          obtain ⟨f, hf⟩ := Classical.axiomOfChoice each
          have hll : ((List.range len).map fun k => (f k).2).length = len := by simp
          refine ⟨.sl (tyOf τ e) ((List.range len).map fun k => (f k).2) none, sh _ ?_, ?_⟩
          · show ite _ _ _
            rw [if_neg hu]
            refine ⟨_, rfl, by rw [hll]; omega, fun x hx => ?_⟩
            obtain ⟨k, hk, rfl⟩ := List.mem_map.1 hx
            exact (hf k (List.mem_range.1 hk)).2.1
          · have := RC.sl (g := allOf w) (T := tyOf τ e) (es := (List.range len).map fun k => (f k).2) (tok := none) (A := some A) (c := cap) (by rw [hll]; exact hl) hm (fun k => (f k).1) ?_ (fun k hk => ?_) (fun i hi => by cases hi)
            · rw [hll] at this; exact this
            · rcases Nat.eq_zero_or_pos len with h0 | h0
              · left; rw [h0]; rfl
              · right
                obtain ⟨b, o, spot⟩ := A
                have hs0 : spot = none := by
                  obtain ⟨_, h6, h7⟩ := World.cells?_some (hf 0 h0).1
                  have h8 := h7 0 (by omega)
                  have : 0 < (f 0).1.length := by omega
                  rw [List.getElem?_eq_getElem this] at h8
                  have := World.cell?_spot h8
                  simpa [Addr.add] using this
                subst hs0
                refine ⟨b, o, rfl, fun k hk j u hu => ?_⟩
                rw [hll] at hk
                obtain ⟨_, h6, h7⟩ := World.cells?_some (hf k hk).1
                have hj := (List.getElem?_eq_some_iff.1 hu).1
                have h8 := h7 j (by omega)
                rw [hu, addr_add, addr_add, hce] at h8
                exact h8
            · have hk' : k < len := by rw [hll] at hk; exact hk
              simp only [List.getElem_map, List.getElem_range]
              exact (hf k hk').2.2
    | arr n e =>
      simp only [Bool.and_eq_true] at hok
      obtain ⟨⟨h1, h2⟩, h3⟩ := hok
      have hce : P.cellsOf e = 1 := by rw [cells_ty hτ (isU8_some h1), eq_of_beq h3]; rfl
      obtain ⟨xs, m, _, rfl, hcl, hxl, hx1⟩ := DataW.trod_array hdd.1 hx
      rw [eq_of_beq h2]
      have hn : cs.length = n := by rw [hcl, hsz, eq_of_beq h2]; rfl
      have key : ∀ k (hk : k < cs.length), ∃ q : Int, cs[k] = .int .u8 q ∧ 0 ≤ q ∧ q ≤ 255 := fun k hk => by
        have h5 := hx1 k (by omega)
        rw [List.getElem?_eq_getElem (by omega)] at h5
        obtain ⟨q, h6, _, h7⟩ := DataW.trod_int (isU8_ok hτ h1) h5
        rw [hce, Nat.mul_one] at h6
        have h8 : ((cs.drop k).take 1)[0]? = some (.int .u8 q) := by rw [h6]; rfl
        rw [List.getElem?_take, if_pos (by decide), List.getElem?_drop, Nat.add_zero, List.getElem?_eq_getElem hk] at h8
        injection h8 with h8
        have := wf_lohi h7
        exact ⟨q, h8, this⟩
      have hcs : cs = (cs.map fun v => match v with | .int _ q => UInt8.ofNat q.toNat | _ => 0).map B8 := by
        apply List.ext_getElem
        · simp
        · intro k hk _
          obtain ⟨q, h5, h6⟩ := key k hk
          simp only [List.getElem_map, h5]
          exact (B8_of h6).symm
      obtain ⟨l, hl⟩ : ∃ l : List UInt8, cs = l.map B8 := ⟨_, hcs⟩
      subst hl
      exact ⟨.ba l, sh _ ⟨l, rfl, by simpa using hn⟩, .ba (by simpa using hn)⟩
    | rcd fs =>
      simp only [Bool.and_eq_true, List.all_eq_true] at hok
      obtain ⟨⟨h1, h2⟩, h3⟩ := hok
      obtain ⟨F, hu, hF, _⟩ := hdd
      obtain ⟨xs, m, _, rfl, hcl, hxl, hx1⟩ := DataW.trod_struct hu hx
      simp only [Rows.uptoBulk] at hM
      rw [hsz] at hcl
      have key : ∀ (L : List (Nat × Nat)) (off : Nat) (T : Ty) (k : Nat), fs.drop k = L → lay τ L off T = true → cs.length = off + T.size → ∃ az, ShL (Sh τ M d) (L.map (·.2)) az ∧ RC (allOf w) T (.st az) (cs.drop off) := by
        intro L
        induction L with
        | nil =>
          intro off T k _ hlay hc
          cases T with
          | nl => rw [show cs.drop off = [] from List.drop_eq_nil_of_le (by rw [hc]; exact Nat.le_refl _)]; exact ⟨[], trivial, .nl⟩
          | _ => cases hlay
        | cons p L ihL =>
          intro off T k hk hlay hc
          cases T with
          | cn T Ts =>
            obtain ⟨o, ft⟩ := p
            simp only [lay, Bool.and_eq_true] at hlay
            obtain ⟨⟨⟨h4, h5⟩, h6⟩, h7⟩ := hlay
            obtain rfl := eq_of_beq h4
            obtain rfl := eq_of_beq h6
            have hfk : fs[k]? = some (o, ft) := by
              have : (fs.drop k)[0]? = some (o, ft) := by rw [hk]; rfl
              rw [List.getElem?_drop, Nat.add_zero] at this; exact this
            have hFk : ∃ fl, F[k]? = some fl ∧ fl.offset = o ∧ fl.type = ft := by
              rw [← hF, List.getElem?_map] at hfk
              obtain ⟨fl, h8, h9⟩ := Option.map_eq_some_iff.1 hfk
              simp only [Prod.mk.injEq] at h9
              exact ⟨fl, by simpa using h8, h9.1, h9.2⟩
            obtain ⟨fl, hfl, rfl, rfl⟩ := hFk
            have h8 := hx1 k fl hfl
            have hkx : k < xs.length := by rw [hxl]; have := (Array.getElem?_eq_some_iff.1 hfl).1; exact this
            rw [List.getElem?_eq_getElem hkx] at h8
            have h9 : Rows.uptoBulk xs[k].1 ≤ M := by
              have := bulk_part (List.mem_map_of_mem (f := (·.1)) (List.getElem_mem hkx))
              omega
            obtain ⟨a, ha1, ha2⟩ := ih (h3 _ (List.mem_of_getElem? hfk)) h8 h9
            obtain ⟨az, hz1, hz2⟩ := ihL (fl.offset + (tyOf τ fl.type).size) Ts (k + 1) (by rw [← List.drop_drop, hk]; rfl) h7 (by rw [hc]; simp only [Ty.size]; omega)
            refine ⟨a :: az, ⟨ha1, hz1⟩, ?_⟩
            have := RC.cn ha2 hz2
            rw [cells_ty hτ h5, ← List.drop_drop, List.take_append_drop] at this
            exact this
          | _ => cases hlay
      obtain ⟨az, hz1, hz2⟩ := key fs 0 i.ty 0 rfl h1 (by rw [hcl]; omega)
      exact ⟨.st az, sh _ ⟨az, rfl, hz1⟩, hz2⟩
    | _ => cases hok
theorem arg_rv (hτ : τ.ok P) {d t b0 : Nat} {r : Reach} {v : Value} {x : DataW H} {ps : List MemPlace} (hok : okT τ d t = true) (hval : Value.okWide P w r b0 t v) (hx : DataW.Trod enc P w 0 sp held t v x ps) (hM : Rows.uptoBulk x ≤ M) :
    ∃ a, Sh τ M d t a ∧ RV (allOf w) a v := by
  obtain ⟨fuel, hf⟩ := hx
  obtain ⟨a, h1, h2⟩ := trod_rc hτ d hok hf hM
  refine ⟨a, h1, ?_⟩
  cases d with
  | zero => cases hok
  | succ d =>
  unfold okT at hok
  cases hg : Tab.get t τ with
  | none => rw [hg] at hok; cases hok
  | some i =>
  rw [hg] at hok
  have hdd := (Tab.get_ok hτ hg).d
  have hty : tyOf τ t = i.ty := by unfold tyOf; rw [hg]
  rw [hty] at h2
  dsimp only at hok
  have hag : i.ty.agg = true → (∃ cs, v = .agg cs) → RV (allOf w) a v := fun h3 ⟨cs, hv⟩ => by
    subst hv
    refine (show RV1 (allOf w) a (.agg cs) from .inl ⟨i.ty, cs.toList, h3, h2, rfl⟩).rv
  have hsc : i.ty = .sc → v.cells.toList = [v] → RV (allOf w) a v := fun h3 hv => by
    rw [h3, hv] at h2; exact h2.rvp
  generalize i.d = D' at hok hdd
  cases D' with
  | int k => obtain ⟨n, rfl⟩ := WideShapes.okWide_int hdd hval; exact hsc (eq_of_beq hok) rfl
  | bool => obtain ⟨n, rfl⟩ := WideShapes.okWide_bool hdd hval; exact hsc (eq_of_beq hok) rfl
  | str => obtain ⟨n, rfl⟩ := WideShapes.okWide_string hdd hval; exact hsc (eq_of_beq hok) rfl
  | slc e =>
    obtain ⟨A, len, cap, rfl⟩ := WideShapes.okWide_slice hdd hval
    simp only [Bool.and_eq_true] at hok
    exact hsc (eq_of_beq hok.1.1.1) rfl
  | arr n e =>
    simp only [Bool.and_eq_true] at hok
    have hu := hdd.1
    simp only [Value.okWide, hu] at hval
    obtain ⟨cs, rfl, _⟩ := hval
    exact hag (by rw [eq_of_beq hok.1.2]; rfl) ⟨cs, rfl⟩
  | rcd fs =>
    simp only [Bool.and_eq_true] at hok
    obtain ⟨F, hu, _⟩ := hdd
    obtain ⟨cs, rfl, _⟩ := WideShapes.okWide_struct hu hval
    exact hag hok.1.2 ⟨cs, rfl⟩
  | _ => cases hok
/-- All arguments. -/
theorem args_rv (hτ : τ.ok P) {d b0 : Nat} {r : Reach} : ∀ {ts : List TypeId} {vs : List Value} {ds : List (DataW H)} {ps : List MemPlace}, (ts.all fun t => okT τ d t) = true → DataW.TrodAll enc P w 0 sp held ts vs ds ps →
    (∀ (j : Nat) t v, ts[j]? = some t → vs[j]? = some v → Value.okWide P w r b0 t v) → Rows.uptoBulkAll ds ≤ M →
    ∃ az, ShL (Sh τ M d) ts az ∧ vs.length = az.length ∧ ∀ (i : Nat) x v, az[i]? = some x → vs[i]? = some v → RV (allOf w) x v
  | [], [], [], _, _, _, _, _ => ⟨[], trivial, rfl, fun i x v h => by simp at h⟩
  | t :: ts, v :: vs, x :: ds, _, hok, h, hval, hM => by
    obtain ⟨p, q, h1, h2, _⟩ := h
    simp only [List.all_cons, Bool.and_eq_true] at hok
    simp only [Rows.uptoBulkAll] at hM
    obtain ⟨a, ha1, ha2⟩ := arg_rv (M := M) hτ hok.1 (hval 0 t v rfl rfl) h1 (by omega)
    obtain ⟨az, hz1, hz2, hz3⟩ := args_rv hτ hok.2 h2 (fun j t v hj hv => hval (j + 1) t v hj hv) (by omega)
    refine ⟨a :: az, ⟨ha1, hz1⟩, by simp [hz2], fun i y u hy hu => ?_⟩
    cases i with
    | zero =>
      simp only [List.getElem?_cons_zero, Option.some.injEq] at hy hu
      subst hy hu; exact ha2
    | succ i => exact hz3 i y u (by simpa using hy) (by simpa using hu)
  | [], _ :: _, _, _, _, h, _, _ => by cases h
  | [], [], _ :: _, _, _, h, _, _ => by cases h
  | _ :: _, [], _, _, _, h, _, _ => by cases h
  | _ :: _, _ :: _, [], _, _, h, _, _ => by cases h
theorem allOf_inv (P : Program) (w : World) : Inv P w (allOf w) (allOf w) [] [] [] w := by
  have nb : ∀ (i : Nat) (x : Bx), (allOf w).bx[i]? = some x → False := fun i x h => by simp [allOf] at h
  have nr : ∀ (i : Nat) (x : Rw), (allOf w).rw[i]? = some x → False := fun i x h => by simp [allOf] at h
  refine ⟨⟨fun b o u h => h, fun i x hx => (nb i x hx).elim, fun i x hx => (nb i x hx).elim, fun i x hx => (nb i x hx).elim, fun i r hr => (nr i r hr).elim, fun i x hx => (nb i x hx).elim, fun i x hx => (nb i x hx).elim, fun i j x y hx => (nb i x hx).elim, fun i r k hr => (nr i r hr).elim, fun i r k hr => (nr i r hr).elim, fun i j x r hx => (nb i x hx).elim, fun i j r s k hr => (nr i r hr).elim⟩,
    ⟨Kept.refl _ _, fun i x hx => (nb i x hx).elim, fun i r k hr => (nr i r hr).elim, fun b _ _ o => rfl, Gh.le.refl _⟩, ⟨rfl, fun i T a h => by simp at h⟩, fun i x hx => (nb i x hx).elim, rfl, fun r hr => by simp [allOf] at hr⟩
/-- A law's function, called: true, and nothing old has turned. -/
theorem law_calls (hτ : τ.ok P) {f : FuncId} {fn : Func} {d b0 : Nat} {r : Reach} {args : Array Value} {ds : List (DataW H)} {ps : List MemPlace} (hok : (fn.params.toList.all fun t => okT τ d t) = true)
    (hT : DataW.TrodAll enc P w 0 sp held fn.params.toList args.toList ds ps) (hval : ∀ (j : Nat) t v, fn.params[j]? = some t → args[j]? = some v → Value.okWide P w r b0 t v) (hM : Rows.uptoBulkAll ds ≤ M)
    (h : ∀ az, ShL (Sh τ M d) fn.params.toList az → VC P f az [] (.v (.bool true))) : Calls P f args w fun e w' => e = .returned (.bool true) ∧ Below w.heap.size w w' := by
  obtain ⟨az, h1, h2, h3⟩ := args_rv (M := M) hτ hok hT (fun j t v hj hv => hval j t v (by simpa using hj) (by simpa using hv)) hM
  have := (h az h1).2 w (allOf w) args.toList (allOf_inv P w) h2 h3
  refine this.mono fun e w' hp => ?_
  obtain ⟨g, v, rfl, hi, hv⟩ := hp
  refine ⟨by rw [hv.v_inv], hi.fr.kept.below (Nat.le_refl _) fun k _ hk => ?_⟩
  rcases hk with ⟨x, hx, _⟩ | ⟨x, hx, _⟩ <;> simp [allOf] at hx
theorem trodAll_below (hl : laidOutB P = true) {W W' : World} (hb : Below W.heap.size W W') : ∀ {ts : List TypeId} {vs : List Value} {ds : List (DataW H)} {ps : List MemPlace}, (ts.all fun t => P.readableRec t && decide (t < P.types.size)) = true →
    DataW.TrodAll enc P W 0 (fun _ => true) true ts vs ds ps → (∀ x ∈ ps, x.block < W.heap.size) → DataW.TrodAll enc P W' 0 (fun b => decide (b < W.heap.size)) true ts vs ds ps
  | [], [], [], _, _, h, _ => h
  | t :: ts, v :: vs, x :: ds, _, hr, h, hlt => by
    obtain ⟨p, q, h1, h2, rfl⟩ := h
    simp only [List.all_cons, Bool.and_eq_true, decide_eq_true_eq] at hr
    exact ⟨p, q, Below.trod hl hr.1.1 hr.1.2 h1 hb (fun x hx => hlt x (List.mem_append_left _ hx)), trodAll_below hl hb hr.2 h2 (fun x hx => hlt x (List.mem_append_right _ hx)), rfl⟩
  | [], _ :: _, _, _, _, h, _ => by cases h
  | [], [], _ :: _, _, _, h, _ => by cases h
  | _ :: _, [], _, _, _, h, _ => by cases h
  | _ :: _, _ :: _, [], _, _, h, _ => by cases h
/-- What a statement's form asks for: true is handed back, the arguments are as they were. -/
theorem post_true (hl : laidOutB P = true) {fn : Func} {s : ChangeSpec} {W W' : World} {args : Array Value} {ds gs : List (DataW H)} {before : List MemPlace} {bt : TypeId}
    (hW : DataW.Whole enc P fn.params.toList s.vars false W args.toList ds gs before) (hb : Below W.heap.size W W') (hr : (fn.params.toList.all fun t => P.readableRec t && decide (t < P.types.size)) = true) (hv : s.vars = []) (hrt : fn.resultTypes = #[bt]) (hbt : P.underlying bt = some .bool)
    (hs : s.fn H (ds ++ gs) = ⟨[.lit (.bool true)], ds, []⟩) : s.post enc P fn false true false false W args (.bool true) W' := by
  have hlt := fun x hx => hW.lt x hx
  obtain ⟨p, q, hA, hV, rfl, hfz, hnd⟩ := id hW
  refine ⟨ds, gs, p ++ q, [], p, [], hW, ?_, ?_, ?_, hb.frame _, fun h => by cases h⟩
  · rw [hrt, hs]
    exact ⟨[], [], ⟨1, by simp [DataW.trod, hbt, Value.cells]⟩, rfl, rfl⟩
  · rw [hs]
    exact trodAll_below hl hb hr hA fun x hx => by simpa using hlt x (List.mem_append_left _ hx)
  · rw [hs, hv]; rfl
end
end Go.Proofs.Ytpeefeioccglcaa
/- What grows, lent to a call that only reads it. -/
namespace Go.Proofs.Ytpeefeioccglcaa
open Go Go.RowKit
/-- A value seen by whoever only reads. -/
def lend (bx : List (Ty × AV)) : Nat → AV → AV → Prop
  | _, .vw i γ n, .bs l none => ∃ e l0, bx[i]? = some (.vc e .sc, .vb γ l0) ∧ n ≤ l0.length ∧ l = l0.take n
  | _, .vw i γ n, .sl T es none => ∃ e es0, bx[i]? = some (.vc e T, .vc γ es0) ∧ n ≤ es0.length ∧ es = es0.take n
  | d + 1, .st fs, .st fs' => allP (lend bx d) fs fs'
  | _, a, b => sub 4 a b ∧ pure_ 4 b = true ∧ strip 4 b = b
def flat : Nat → AV → Bool
  | _, .v _ => true
  | _, .ba _ => true
  | d + 1, .st fs => fs.all (flat d)
  | d + 1, .tup fs => fs.all (flat d)
  | _, _ => false
section
variable {P : Program} {τ : Tab} {w0 w : World} {N : Gh} {g gS : Gh} {st st' sq sq' : St} {nt : Nat} {a : Act}
theorem base_allOf (h : Mem g w) : g.base.le (allOf w) := ⟨fun b o u hu => h.ro b o u hu, fun i x hx => by simp [Gh.base] at hx, fun i r hr => by simp [Gh.base] at hr⟩
theorem lend_rc (HI : Inv P w0 N g st.bx st.fz st.rw w) : ∀ {d : Nat} {T : Ty} {x y : AV} {cs : List Value}, RC g T x cs → lend st.bx d x y → RC (allOf w) T y cs := by
  have hbase := base_allOf HI.mem
  have leaf : ∀ {T : Ty} {x y : AV} {cs : List Value}, RC g T x cs → (sub 4 x y ∧ pure_ 4 y = true ∧ strip 4 y = y) → RC (allOf w) T y cs := fun h hl => by
    have := ((h.sub_ hl.1).strip_ hl.2.1).mono hbase
    rw [hl.2.2] at this
    exact this
  have vb : ∀ {T : Ty} {i γ n : Nat} {l : List UInt8} {cs : List Value}, RC g T (.vw i γ n) cs → (∃ e l0, st.bx[i]? = some (.vc e .sc, .vb γ l0) ∧ n ≤ l0.length ∧ l = l0.take n) → RC (allOf w) T (.bs l none) cs := by
    rintro T i γ n l cs h ⟨e, l0, hb, hn, rfl⟩
    obtain ⟨rfl, y, e3, T3, A, c, rfl, hy, hty, hle, hnc, hm, hxx⟩ := h.vw_inv
    obtain ⟨y', hy', hyT, hbc⟩ := HI.br.at_ i _ _ hb
    rw [hy] at hy'; injection hy' with hy'; subst hy'
    obtain ⟨l2, ⟨e4, he4, htid⟩, hmp, hgen, hcm, hcs, hcl⟩ := hbc.vb_inv
    obtain ⟨hcc, hA⟩ := hxx hgen
    have htl : (l0.take n).length = n := by rw [List.length_take]; omega
    have := RC.bs (g := allOf w) (l := l0.take n) (tok := none) (A := A) (c := c) (by omega) hm ?_ (fun i hi => by cases hi)
    · rw [htl] at this; exact this
    · rcases hA with ⟨ho, rfl⟩ | ⟨ho, rfl⟩
      · left
        have := hcm.2 ho
        exact List.length_eq_zero_iff.1 (by omega)
      · right
        refine ⟨y.blk, 0, rfl, fun j hj => ?_⟩
        have hblk := (HI.mem.bx i y hy ho).c hmp
        show w.cell? _ = _
        rw [hblk.cell, List.getElem?_toArray, hcs, Nat.zero_add, List.getElem?_map, List.getElem?_append_left (by omega), List.getElem?_eq_getElem (by omega)]
        simp
  have vc : ∀ {T T' : Ty} {i γ n : Nat} {es : List AV} {cs : List Value}, RC g T (.vw i γ n) cs → (∃ e es0, st.bx[i]? = some (.vc e T', .vc γ es0) ∧ n ≤ es0.length ∧ es = es0.take n) → RC (allOf w) T (.sl T' es none) cs := by
    rintro T T' i γ n es cs h ⟨e, es0, hb, hn, rfl⟩
    obtain ⟨rfl, y, e3, T3, A, c, rfl, hy, hty, hle, hnc, hm, hxx⟩ := h.vw_inv
    obtain ⟨y', hy', hyT, hbc⟩ := HI.br.at_ i _ _ hb
    rw [hy] at hy'; injection hy' with hy'; subst hy'
    obtain ⟨T2, F, sp, ⟨e2, he2, htid⟩, hmp, hgen, h0, hcm, hcs, hcl, hsp, hFk⟩ := hbc.vc_inv
    injection he2 with he20 he2; subst he20 he2
    obtain ⟨hcc, hA⟩ := hxx hgen
    have htl : (es0.take n).length = n := by rw [List.length_take]; omega
    have := RC.sl (g := allOf w) (T := T') (es := es0.take n) (tok := none) (A := A) (c := c) (by omega) hm F ?_ (fun k hk => by
      rw [List.getElem_take]
      exact ((hFk k (by omega)).mono hbase).mono ⟨fun _ _ _ h => h, fun i x hx => by simp [allOf] at hx, fun i r hr => by simp [allOf] at hr⟩) (fun i hi => by cases hi)
    · rw [htl] at this; exact this
    · rcases hA with ⟨ho, rfl⟩ | ⟨ho, rfl⟩
      · left
        have := hcm.2 ho
        exact List.length_eq_zero_iff.1 (by omega)
      · right
        refine ⟨y.blk, 0, rfl, fun k hk j u hu => ?_⟩
        have hblk := (HI.mem.bx i y hy ho).c hmp
        show w.cell? _ = _
        rw [hblk.cell, List.getElem?_toArray, hcs, Nat.zero_add]
        exact flat_at hFk (by omega) hu
  intro d
  induction d with
  | zero =>
    intro T x y cs h hl
    unfold lend at hl
    split at hl
    · exact vb h hl
    · exact vc h hl
    · rename_i heq; exact absurd heq (by simp)
    · exact leaf h hl
  | succ d ih =>
    have key : ∀ {T : Ty} {cs : List Value} {fs fs' : List AV}, RC g T (.st fs) cs → allP (lend st.bx d) fs fs' → RC (allOf w) T (.st fs') cs := by
      intro T
      induction T with
      | cn T Ts _ ihs =>
        intro cs fs fs' h hp
        cases h with
        | cn h hs =>
          cases fs' with
          | nil => exact hp.elim
          | cons b m => exact .cn (ih h hp.1) (ihs hs hp.2)
      | nl => intro cs fs fs' h hp; cases h; cases fs' with | nil => exact .nl | cons b m => exact hp.elim
      | _ => intro cs fs fs' h hp; cases h
    intro T x y cs h hl
    unfold lend at hl
    split at hl
    · exact vb h hl
    · exact vc h hl
    · rename_i heq; cases heq; exact key h hl
    · exact leaf h hl
theorem lend_rv (HI : Inv P w0 N g st.bx st.fz st.rw w) {d : Nat} {x y : AV} {v : Value} (h : RV g x v) (hx : isAny x = false) (ht : ∀ az, x ≠ .tup az) (hl : lend st.bx d x y) : RV (allOf w) y v := by
  rcases h.rv1 hx ht with ⟨T, cs, h1, h2, h3⟩ | h
  · exact (show RV1 (allOf w) y v from .inl ⟨T, cs, h1, lend_rc HI h2 hl, h3⟩).rv
  · exact (show RV1 (allOf w) y v from .inr (lend_rc HI h hl)).rv
theorem RC.flat_ {g g' : Gh} : ∀ {d : Nat} {T : Ty} {x : AV} {cs : List Value}, RC g T x cs → flat d x = true → RC g' T x cs := by
  intro d
  induction d with
  | zero => intro T x cs h hp; cases h <;> first | exact .v ‹_› | exact .ba ‹_› | (simp [flat] at hp)
  | succ d ih =>
    have key : ∀ {T : Ty} {cs : List Value} {fs : List AV}, RC g T (.st fs) cs → fs.all (flat d) = true → RC g' T (.st fs) cs := by
      intro T
      induction T with
      | cn T Ts _ ihs =>
        intro cs fs h hp
        cases h with
        | cn h hs =>
          simp only [List.all_cons, Bool.and_eq_true] at hp
          exact .cn (ih h hp.1) (ihs hs hp.2)
      | nl => intro cs fs h hp; cases h; exact .nl
      | _ => intro cs fs h hp; cases h
    intro T x cs h hp
    cases h with
    | v h => exact .v h
    | ba h => exact .ba h
    | nl => exact .nl
    | cn h hs => exact key (.cn h hs) hp
    | _ => simp [flat] at hp
theorem RV1.flat_ {g g' : Gh} {d : Nat} {x : AV} {v : Value} (h : RV1 g x v) (hp : flat d x = true) : RV1 g' x v := by
  rcases h with ⟨T, cs, h1, h2, h3⟩ | h
  · exact .inl ⟨T, cs, h1, h2.flat_ hp, h3⟩
  · exact .inr (h.flat_ hp)
theorem RV.flat_ {g g' : Gh} {d : Nat} {x : AV} {v : Value} (h : RV g x v) (hp : flat (d + 1) x = true) : RV g' x v := by
  cases x with
  | any => trivial
  | tup az =>
    obtain ⟨vs, h1, h2, h3⟩ := h
    simp only [flat, List.all_eq_true] at hp
    exact ⟨vs, h1, h2, fun i a u ha hu => (h3 i a u ha hu).flat_ (hp a (List.mem_of_getElem? ha))⟩
  | _ => exact RV1.flat_ (d := d + 1) h hp
theorem lend_args (HI : Inv P w0 N g st.bx st.fz st.rw w) (hF : FR g nt st a) {c : Gd} (hg : gholds a c) {xs : List Operand} {args : List AV} (hx : xs.all (fun x => !isAny (st.ev c x) && (match st.ev c x with | .tup _ => false | _ => true)) = true) (ha : allP (lend st.bx 3) (xs.map (st.ev c)) args) :
    args.length = xs.length ∧ ∀ (i : Nat) x v, args[i]? = some x → (xs.map a.eval)[i]? = some v → RV (allOf w) x v := by
  obtain ⟨h1, h2⟩ := allP_get ha
  refine ⟨by rw [← h1, List.length_map], fun i x v hi hv => ?_⟩
  obtain ⟨y, hy, hl⟩ := h2 i x hi
  rw [List.getElem?_map] at hy hv
  obtain ⟨o, ho, rfl⟩ := Option.map_eq_some_iff.1 hy
  obtain ⟨o', ho', rfl⟩ := Option.map_eq_some_iff.1 hv
  rw [ho] at ho'; injection ho' with ho'; subst ho'
  have := List.all_eq_true.1 hx o (List.mem_of_getElem? ho)
  simp only [Bool.and_eq_true, Bool.not_eq_true'] at this
  exact lend_rv HI (ev_sound hF hg o) this.1 (fun az e => by have h := this.2; rw [e] at h; cases h) hl
theorem read_call (HI : Inv P w0 N g st.bx st.fz st.rw w) {g1 : Gh} {w' : World} (h : Inv P w (allOf w) g1 [] [] [] w') : Inv P w0 N g st.bx st.fz st.rw w' := by
  have hk := h.fr.kept
  have hno : ∀ k, ¬ (allOf w).has k := fun k hh => by
    rcases hh with ⟨y, hy, _⟩ | ⟨r, hr, _⟩
    · simp [allOf] at hy
    · simp [allOf] at hr
  exact HI.keep (fun k hk' => hk.block k hk' (hno k)) hk.size hk.os hk.tape hk.output
/-- A still box's pointers to boxes that aren't still: known as values only. -/
def wk1 (nb : Nat) (u : Value) : AV → AV
  | .ptr i p => bif decide (i < nb) then .ptr i p else .v u
  | x => x
def wkF (nb : Nat) (us : Nat → Value) : Nat → List AV → List AV
  | _, [] => []
  | k, x :: l => wk1 nb (us k) x :: wkF nb us (k + 1) l
def wkA (nb : Nat) (us : Nat → Value) : AV → AV
  | .st fs => .st (wkF nb us 0 fs)
  | x => x
def wkB (nb : Nat) (us : Nat → Nat → Value) : Nat → List (Ty × AV) → List (Ty × AV)
  | _, [] => []
  | i, x :: l => (x.1, wkA nb (us i) x.2) :: wkB nb us (i + 1) l
theorem wkF_ext {nb : Nat} {us vs : Nat → Value} : ∀ {l : List AV} {k : Nat}, (∀ j, k ≤ j → us j = vs j) → wkF nb us k l = wkF nb vs k l
  | [], _, _ => rfl
  | x :: l, k, h => by
    unfold wkF
    rw [h k (Nat.le_refl _), wkF_ext (l := l) (k := k + 1) fun j hj => h j (by omega)]
theorem RC.wk1_ {nb : Nat} {T : Ty} {x : AV} {cs : List Value} (h : RC g T x cs) : ∃ u, RC g T (wk1 nb u x) cs := by
  cases x with
  | ptr i p =>
    by_cases hi : i < nb
    · exact ⟨undef, by simp only [wk1, hi, decide_true, cond_true]; exact h⟩
    · obtain ⟨rfl, y, o, T', _, _, rfl⟩ := h.ptr_inv
      exact ⟨_, by simp only [wk1, hi, decide_false, cond_false]; exact .v rfl⟩
  | _ => exact ⟨undef, h⟩
theorem RC.wkF_ {nb : Nat} {T : Ty} : ∀ {fs : List AV} {cs : List Value} (k : Nat), RC g T (.st fs) cs → ∃ us, RC g T (.st (wkF nb us k fs)) cs := by
  induction T with
  | cn T Ts _ ih =>
    intro fs cs k h
    cases h with
    | cn h hs =>
      obtain ⟨u, hu⟩ := h.wk1_ (nb := nb)
      obtain ⟨us, hus⟩ := ih (k + 1) hs
      refine ⟨fun j => if j = k then u else us j, ?_⟩
      unfold wkF
      rw [if_pos rfl, wkF_ext (vs := us) (l := _) (k := k + 1) fun j hj => if_neg (by omega)]
      exact .cn hu hus
  | nl => intro fs cs k h; cases h; exact ⟨fun _ => undef, .nl⟩
  | _ => intro fs cs k h; cases h
theorem BC.wk_ {nb : Nat} {T : Ty} {x : AV} {y : Bx} (h : BC g T x y) : ∃ us, BC g T (wkA nb us x) y := by
  cases x with
  | st fs =>
    rcases h with ⟨h1, h2, h3⟩ | ⟨_, _, _, _, _, _, e, _⟩ | ⟨_, _, _, _, e, _⟩ | ⟨_, _, _, _, _, _, _, e, _⟩
    · obtain ⟨us, hus⟩ := h3.wkF_ (nb := nb) 0
      exact ⟨us, .inl ⟨h1, h2, hus⟩⟩
    · cases e
    · cases e
    · cases e
  | _ => exact ⟨fun _ => undef, h⟩
theorem wkB_get {nb : Nat} {us : Nat → Nat → Value} : ∀ {l : List (Ty × AV)} {i j : Nat}, (wkB nb us i l)[j]? = (l[j]?).map fun x => (x.1, wkA nb (us (i + j)) x.2)
  | [], _, _ => by simp [wkB]
  | x :: l, i, 0 => by simp [wkB]
  | x :: l, i, j + 1 => by
    unfold wkB
    rw [List.getElem?_cons_succ, wkB_get, List.getElem?_cons_succ, show i + 1 + j = i + (j + 1) by omega]
theorem wkB_len {nb : Nat} {us : Nat → Nat → Value} : ∀ {l : List (Ty × AV)} {i : Nat}, (wkB nb us i l).length = l.length
  | [], _ => rfl
  | x :: l, i => by simp [wkB, wkB_len]
theorem Inv.wk_ (nb : Nat) {bx : List (Ty × AV)} {fz : List Nat} {rw_ : List (TypeId × Nat)} (h : Inv P w0 N g bx fz rw_ w) : ∃ us, Inv P w0 N g (wkB nb us 0 bx) fz rw_ w := by
  have key : ∀ j : Nat, ∃ us, ∀ T x, bx[j]? = some (T, x) → ∃ y, g.bx[j]? = some y ∧ y.ty = T ∧ BC g T (wkA nb us x) y := fun j => by
    cases hj : bx[j]? with
    | none => exact ⟨fun _ => undef, fun T x h => by cases h⟩
    | some p =>
      obtain ⟨T, x⟩ := p
      obtain ⟨y, h1, h2, h3⟩ := h.br.at_ j T x hj
      obtain ⟨us, hus⟩ := h3.wk_ (nb := nb)
      exact ⟨us, fun T' x' e => by injection e with e; injection e with e1 e2; subst e1 e2; exact ⟨y, h1, h2, hus⟩⟩
  obtain ⟨us, hus⟩ := Classical.skolem.1 key
  refine ⟨us, h.mem, h.fr, ⟨by rw [wkB_len]; exact h.br.len, fun j T b hj => ?_⟩, h.fz, h.wr, h.wz⟩
  rw [wkB_get, Option.map_eq_some_iff] at hj
  obtain ⟨⟨T', x⟩, h1, h2⟩ := hj
  injection h2 with h2 h3
  subst h2 h3
  rw [Nat.zero_add]
  exact hus j _ x h1
/-- A region that draws, with still boxes that point to boxes that aren't. -/
theorem v_drawW {id : Nat} {Q : Exit → Act → World → Prop} {l : List Oper} (nb : Nat) (L A : List Nat) (hm : P.follows .mixedOrders = true) (hchk : chk l.toArray (Region.before l.toArray) L A = true) (H : Rel P w0 N nt st a w)
    (hb : ∀ us, ((wkB nb us 0 st.bx).take nb).all (fun x => low nb 0 4 x.2) = true)
    (k : ∀ gS us, RelT P w0 N nt gS ⟨st.t.filter fun p => low nb 0 4 p.2.2, (wkB nb us 0 st.bx).take nb, st.fz, []⟩ st a w.drew → wpT P l.toArray Q (Mem gS) L A l 0 a w.drew) : (Code.region id l.toArray true).wp P Q a w := by
  obtain ⟨g, HI, hF⟩ := H
  have HI' := HI.drew
  obtain ⟨us, HW⟩ := HI'.wk_ nb
  have hc := HW.loose.cut (nr := 0) (st := ⟨[], wkB nb us 0 st.bx, st.fz, st.rw⟩) (Nat.zero_le _) (Nat.zero_le _) (hb us)
  have hgb : ∀ (i : Nat) x, (g.cut nb 0).bx[i]? = some x → g.bx[i]? = some x := fun i x hx => by
    have : (g.bx.take nb)[i]? = some x := hx
    rw [List.getElem?_take] at this
    split at this
    · exact this
    · cases this
  have hle : (g.cut nb 0).le g := ⟨fun _ _ _ h => h, fun i x hx => ⟨x, hgb i x hx, x.same⟩, fun i r hr => by simp [Gh.cut] at hr⟩
  have hbs : Bs (g.cut nb 0) g := fun i x hx => ⟨x, hgb i x hx, rfl, rfl, rfl, rfl, rfl⟩
  have HT : RelT P w0 N nt (g.cut nb 0) ⟨st.t.filter fun p => low nb 0 4 p.2.2, (wkB nb us 0 st.bx).take nb, st.fz, []⟩ st a w.drew :=
    ⟨hc.mem, by simp [Gh.cut], ⟨hF.sz, hF.df, fun p hp hg => by
      simp only [List.mem_filter] at hp
      exact (hF.t p hp.1 hg).low_ (d := 3) hp.2, fun p hp hg => hF.u p (List.mem_filter.1 hp).1 hg⟩, hc.br, g, HI', hF, hle, hbs⟩
  exact wp_region_T L A (Mem (g.cut nb 0)) hm hchk HT.mem (k _ us HT)
/-- A value loaded from a still box is what the box is known to hold. -/
theorem v_seeT (H : RelT P w0 N nt gS sq st a w) (i : Nat) (path : List Nat) (d : Nat) {T : Ty} {x y z : AV} {u : Value} {o : Nat} (h1 : sq.bx[i]? = some (T, x)) (h2 : st.bx[i]? = some (T, y)) (hT : T.loc path = some (o, .sc)) (hx : x.loc path = some (.v u)) (hy : y.loc path = some z)
    (hz : isAny z = false) (hz2 : ∀ az, z ≠ .tup az) (hd : find d st.t = some (none, .v u)) : RelT P w0 N nt gS sq ⟨nilT d z st.t, st.bx, st.fz, st.rw⟩ a w := by
  obtain ⟨hM, hrw, hFq, hBq, g, HI, hF, hle, hbs⟩ := H
  refine ⟨hM, hrw, hFq, hBq, g, HI, ⟨hF.sz, hF.df, fun p hp' hg => ?_, fun p hp hg => by rcases nilT_mem hp with h | h; (subst h; exact absurd trivial hg); exact hF.u p h hg⟩, hle, hbs⟩
  rcases nilT_mem hp' with h | h
  · subst h
    have hv := (hF.t _ (find_mem hd) trivial).v_inv
    have e1 : a.tmps.getD d undef = u := hv
    obtain ⟨bq, q1, q2, q3⟩ := hBq.at_ i T x h1
    obtain ⟨b, r1, r2, r3⟩ := HI.br.at_ i T y h2
    obtain ⟨b', s1, s2⟩ := hbs i bq q1
    rw [r1] at s1; injection s1 with s1; subst s1
    obtain ⟨_, _, q4⟩ := q3.rc (Ty.loc_grows hT)
    obtain ⟨_, _, r4⟩ := r3.rc (Ty.loc_grows hT)
    obtain ⟨x', e2, pre, mid, post, c1, c2, c3, _⟩ := q4.lens hT
    obtain ⟨y', e3, pre', mid', post', d1, d2, d3, _⟩ := r4.lens hT
    rw [hx] at e2; injection e2 with e2; subst e2
    rw [hy] at e3; injection e3 with e3; subst e3
    obtain ⟨_, rfl⟩ := c3.v_inv
    have hl : mid'.length = 1 := d3.size
    obtain ⟨m0, rfl⟩ : ∃ m0, mid' = [m0] := by
      match mid', hl with
      | [m0], _ => exact ⟨m0, rfl⟩
    have e4 : pre ++ [u] ++ post = pre' ++ [m0] ++ post' := by rw [← c1, ← d1]; exact s2.2.2.1.symm
    have e5 : (pre ++ [u] ++ post)[o]? = some u := by simp [c2]
    have e6 : (pre' ++ [m0] ++ post')[o]? = some m0 := by simp [d2]
    rw [e4, e6] at e5
    injection e5 with e5
    subst e5
    have hm := d3
    show RV g z (a.tmps.getD d undef)
    rw [e1]
    exact hm.rv1
  · exact hF.t p h hg
/-- What was known under a guard that is known to hold, is known. -/
def gdEq (t : Nat) : Bool → Gd → Bool
  | true, some (k, true) => k == t
  | false, some (k, false) => k == t
  | _, _ => false
theorem gdEq_ok {t : Nat} {b : Bool} {c : Gd} (h : gdEq t b c = true) : c = some (t, b) := by
  unfold gdEq at h
  split at h
  · rw [beq_iff_eq.1 h]
  · rw [beq_iff_eq.1 h]
  · cases h
def unG (t : Nat) (b : Bool) : List (Nat × Gd × AV) → List (Nat × Gd × AV)
  | [] => []
  | (k, c, x) :: l => (k, bif gdEq t b c then none else c, x) :: unG t b l
theorem unG_mem {t : Nat} {b : Bool} {p : Nat × Gd × AV} : ∀ {l : List (Nat × Gd × AV)}, p ∈ unG t b l → ∃ q ∈ l, p = (q.1, bif gdEq t b q.2.1 then none else q.2.1, q.2.2)
  | (k, c, x) :: l, h => by
    rcases List.mem_cons.1 h with h | h
    · exact ⟨_, List.mem_cons_self, h⟩
    · obtain ⟨q, hq, e⟩ := unG_mem h
      exact ⟨q, List.mem_cons_of_mem _ hq, e⟩
theorem FR.unG (hF : FR g nt st a) {t : Nat} {b : Bool} (h : a.tmps.getD t undef = .bool b) : FR g nt ⟨unG t b st.t, st.bx, st.fz, st.rw⟩ a := by
  refine ⟨hF.sz, hF.df, fun p hp hg => ?_, fun p hp hg => ?_⟩
  · obtain ⟨q, hq, rfl⟩ := unG_mem hp
    cases e : gdEq t b q.2.1 with
    | true => exact hF.t q hq (by rw [gdEq_ok e]; exact h)
    | false => exact hF.t q hq (by simpa [e] using hg)
  · obtain ⟨q, hq, rfl⟩ := unG_mem hp
    cases e : gdEq t b q.2.1 with
    | true => exact absurd (by rw [e]; exact trivial) hg
    | false => exact hF.u q hq (by simpa [e] using hg)
theorem v_knownT (H : RelT P w0 N nt gS sq st a w) (t : Nat) (b : Bool) (hk : st.tmp none t = .v (.bool b)) : RelT P w0 N nt gS sq ⟨unG t b st.t, st.bx, st.fz, st.rw⟩ a w := by
  obtain ⟨hM, hrw, hFq, hBq, g, HI, hF, hle, hbs⟩ := H
  have h1 := tmp_sound hF (c := none) trivial t
  rw [hk] at h1
  exact ⟨hM, hrw, hFq, hBq, g, HI, hF.unG h1.v_inv, hle, hbs⟩
/-- A guard that is known to hold, in a region that draws. -/
theorem v_guardT {ops : Array Oper} {Q : Exit → Act → World → Prop} {L A : List Nat} {i : Nat} {rest : List Oper} {o : Oper} {t : Nat} {b : Bool} (H : RelT P w0 N nt gS sq st a w) (hL : L.contains i = true) (hgd : gdOf ops o = some (some (t, b))) (hk : st.tmp none t = .v (.bool b))
    (h : wpT P ops Q (Mem gS) L A ({ o with guard := none } :: rest) i a w) : wpT P ops Q (Mem gS) L A (o :: rest) i a w := by
  obtain ⟨hM, hrw, hFq, hBq, g, HI, hF, hle, hbs⟩ := H
  have h1 := tmp_sound hF (c := none) trivial t
  rw [hk] at h1
  have hw : Region.wanted o (yielded ops a.tmps) = true := (gdOf_wanted hgd).2 h1.v_inv
  obtain ⟨dst, op, ty, pos, after, gd⟩ := o
  unfold wpT at h ⊢
  rw [if_pos hw, if_pos hL]
  rw [if_pos (by simp [Region.wanted]), if_pos hL] at h
  exact h
/-- A call that only reads, in a region that draws. -/
theorem v_callRT {ops : Array Oper} {Q : Exit → Act → World → Prop} {L A : List Nat} {k : Nat} {rest : List Oper} {o : Oper} {f : FuncId} {xs : List Operand} {ats : Array TypeId} {args : List AV} {res : AV}
    (hc : VC P f args [] res) (H : RelT P w0 N nt gS sq st a w) (hL : L.contains k = true) (hgd : o.guard = none) (ho : o.op = .call ⟨.value (.func f), xs.toArray, ats⟩)
    (hx : (xs.all (fun x => !isAny (st.ev none x) && (match st.ev none x with | .tup _ => false | _ => true)) && okDst nt none o.dst && flat 4 res) = true) (ha : allP (lend st.bx 3) (xs.map (st.ev none)) args)
    (kk : ∀ a w, RelT P w0 N nt gS (sq.lose o.dst) (st.put o.dst none res) a w → wpT P ops Q (Mem gS) L A rest (k + 1) a w) : wpT P ops Q (Mem gS) L A (o :: rest) k a w := by
  obtain ⟨hfok, hcall⟩ := hc
  obtain ⟨hM, hrw, hFq, hBq, g, HI, hF, hle, hbs⟩ := H
  simp only [Bool.and_eq_true] at hx
  obtain ⟨⟨x1, x2⟩, x3⟩ := hx
  obtain ⟨h1, h2⟩ := lend_args HI hF (c := none) trivial x1 ha
  unfold wpT
  rw [if_pos (by simp [Region.wanted, hgd]), if_pos hL]
  unfold Oper.wp
  rw [run_callF hfok xs ats ho w, Oper.upon_enter]
  refine (hcall w (allOf w) (xs.map a.eval) (allOf_inv P w) (by simp [h1]) h2).mono fun e w' hp => ?_
  obtain ⟨g1, v, rfl, HI1, hv⟩ := hp
  have hI2 := read_call HI HI1
  refine ⟨MemS hM hrw hI2 hle hbs, kk _ _ ⟨MemS hM hrw hI2 hle hbs, hrw, hFq.lose _, by rw [lose_bx]; exact hBq, g, ?_, hF.put x2 (fun _ => hv.flat_ (d := 3) x3) rfl (fun h => absurd trivial h), hle, hbs⟩⟩
  rw [(put_bx _ _ _ _).1, (put_bx _ _ _ _).2.1, (put_bx _ _ _ _).2.2]; exact hI2
end
/-- A copy of what grows: append onto a slice that is none. -/
def appC (τ : Tab) (st : St) (t : Nat) (x y : AV) : ER :=
  match Tab.get t τ, x, y with
  | some i, .v (.slice none 0 0), .vw b γ n =>
    (match i.d, st.bx[b]? with
    | .slc e, some (.vc e' .sc, .vb γ' l) => (match Tab.get e τ with
      | some j => if isByte τ e = true ∧ j.bytes ≤ 4096 then some ({ st with bx := st.bx ++ [(.vc e .sc, .vb 1 (l.take n))] }, .vw st.bx.length 1 n, (γ' = γ ∧ n ≤ l.length) ∧ n ≤ 34359738368) else none
      | none => none)
    | _, _ => none)
  | _, _, _ => none
section
variable {P : Program} {τ : Tab} {w0 w : World} {N : Gh} {g gS : Gh} {st st' sq sq' : St} {nt : Nat} {a : Act} {r : AV} {cd : Prop}
theorem appC_sound (hτ : τ.ok P) (H : Inv P w0 N g st.bx st.fz st.rw w) (hfz : notIn st.bx.length st.fz = true) {t : Nat} {x y : AV} (h : appC τ st t x y = some (st', r, cd)) (hc : cd) {u v : Value} (hu : RV g x u) (hv : RV g y v) (ty : TypeId) :
    EOk true P w0 N g st st' r w (do pure (.value (← Builtin.append_ #[t, t] ty #[u, v]))) := by
  unfold appC at h
  split at h
  · rename_i i b γ n hi
    have hd := (Tab.get_ok hτ hi).d
    have hvu := hu.v_inv; subst hvu
    split at h
    · rename_i e e' γ' l hid hb
      rw [hid] at hd
      split at h
      · rename_i j hj
        have hjok := Tab.get_ok hτ hj
        split at h
        · rename_i hcond
          obtain ⟨hub, hby⟩ := hcond
          obtain ⟨rfl, rfl, rfl⟩ := ER.inj h
          obtain ⟨⟨rfl, c2⟩, c3⟩ := hc
          obtain ⟨_, yb, e9, T9, A2, c9, e1, hy, hty, hle, hnc, hm, hxx⟩ := hv.vw_inv.vw_inv
          injection e1 with e1; subst e1
          obtain ⟨y', hy', hty', hbc⟩ := H.br.get hb
          rw [hy] at hy'; injection hy' with hy'; subst hy'
          obtain ⟨l2, ⟨e4, he4, htid⟩, hmp, hgen, hcm, hcs, hcl⟩ := hbc.vb_inv
          obtain ⟨hcc, hA⟩ := hxx hgen
          obtain ⟨g1, l1, I1, h1⟩ := H.boxG (x := ⟨0, e, .vc e .sc, [], false, 0, 0, true, none⟩) (a := .vb 0 []) (w' := w) rfl ⟨rfl, rfl, rfl, Nat.le_refl _, fun _ _ _ => rfl⟩ (fun e => by cases e) (fun _ => rfl) (fun e => by cases e)
            (.inr (.inr (.inl ⟨0, [], [], ⟨_, rfl, rfl⟩, rfl, rfl, rfl, ⟨Nat.zero_le _, fun _ => rfl⟩, rfl, rfl⟩)))
          obtain ⟨jj, hjj, hjT, hjz⟩ := isByte_all hτ hub
          obtain ⟨inf, z, i1, i2, i3, i4, i5⟩ := hjj.info
          obtain ⟨inf', z', i1', _, i3', _, _⟩ := hjok.info
          rw [i1] at i1'; injection i1' with i1'; subst i1'
          let E : El UInt8 := { byteE with ty := e, bytes := j.bytes }
          have hall : ∀ q : List UInt8, E.all q = q.map B8 := byteE_all
          have hE : E.fits P := by
            unfold El.fits
            have h7 := i5 ⟨fun _ _ => none, [], []⟩
            rw [hjT, hjz] at h7
            have h8 : z.cells.toList = [.int .u8 0] := by generalize z.cells.toList = zl at h7; cases h7; rfl
            show (P.info? e).map _ = _
            rw [i1]
            simp only [Option.map_some, i4, h8, i2, hjT, i3']
            rfl
          have htl : (l.take n).length = n := by rw [List.length_take]; omega
          have hrd : Rd E w w.heap.size A2 (l.take n) := by
            rcases hA with ⟨ho, rfl⟩ | ⟨ho, rfl⟩
            · left; have := hcm.2 ho; exact List.length_eq_zero_iff.1 (by omega)
            · right
              have hblk := (H.mem.bx b yb hy ho).c hmp
              refine ⟨yb.blk, 0, rfl, hblk.lt, fun jj u hu => ?_⟩
              rw [hall, List.getElem?_map] at hu
              obtain ⟨q, hq, rfl⟩ := Option.map_eq_some_iff.1 hu
              have hq2 := (List.getElem?_eq_some_iff.1 hq).1
              rw [List.getElem?_take] at hq
              split at hq
              · rw [hblk.cell, List.getElem?_toArray, hcs, Nat.zero_add, List.getElem?_map, List.getElem?_append_left (by omega), hq]; rfl
              · cases hq
          obtain ⟨A', w', y', sp', k1, k2, k3, k4, k5, k6, k7, k8, k9, k10, k11, k12, k13⟩ := app_vec (st := { st with bx := st.bx ++ [(.vc e .sc, .vb 0 [])] }) (A := none) hE I1 h1 rfl rfl (show P.underlying t = some (.slice E.ty) from hd) ty (xs := []) (sp := []) (ys := l.take n) rfl rfl (Nat.zero_le _) (fun _ => rfl) (.inl ⟨rfl, rfl⟩) hrd
            (by rw [htl]; simp only [List.length_nil, maxLen]; omega) (by rw [htl]; simp only [List.length_nil, Nat.zero_add]; exact Nat.le_trans (Nat.mul_le_mul c3 hby) (by decide)) (c2 := c9)
          simp only [htl, List.length_nil, Nat.zero_add, List.nil_append] at k1 k8 k9
          have hbc' : BC g1 (.vc e .sc) (.vb 1 (l.take n)) y' := by
            refine .inr (.inr (.inl ⟨1, l.take n, sp', ⟨_, rfl, k4⟩, rfl, k7, k6, ⟨k10, fun e => (k11 e).1⟩, ?_, ?_⟩))
            · rw [k8, hall]
            · rw [k8, hall, List.length_map, k9, List.length_append, htl]
          obtain ⟨g', m1, m2, m3⟩ := I1.upd (x' := y') (a := .vb 1 (l.take n)) h1 (notIn_ok hfz) k2 k3 k5 (by rw [k6]; exact Nat.zero_le _) (fun hh => by rcases hh with hh | hh; (rw [k6] at hh; cases hh); cases hh) (fun ho => k13 ho) (fun ho => (k11 ho).2) (fun e => by rw [k7] at e; cases e) hbc'
          have hset : (st.bx ++ [((.vc e .sc : Ty), AV.vb 0 [])]).set st.bx.length (.vc e .sc, .vb 1 (l.take n)) = st.bx ++ [(.vc e .sc, .vb 1 (l.take n))] := by simp
          rw [hset] at m2
          refine ⟨g', w', ⟨l1.1.trans m1, fun e => (by cases e)⟩, m2, rfl, .inl ⟨.slice A' n y'.cap, ?_, ?_⟩⟩
          · have k1' : (Builtin.append_ #[t, t] ty #[.slice none 0 0, .slice A2 n c9]).run P w = .ok (.slice A' n y'.cap) w' := k1
            simp only [Sem.run_bind, k1', Result.andThen_ok, Sem.run_pure]
          · exact (RC.vw m3 k3 (Nat.le_of_eq k6.symm) (by omega) k10 fun _ => ⟨rfl, k12⟩).rv1
        · cases h
      · cases h
    · cases h
  · cases h
theorem v_appC {ops : Array Oper} {Q : Exit → Act → World → Prop} {rest : List Oper} {o : Oper} {t : Nat} {x y : Operand} (hτ : τ.ok P) (H : Rel P w0 N nt st a w) (hgd : o.guard = none) (ho : o.op = .call ⟨.builtin .append, #[x, y], #[t, t]⟩) (hd : okDst nt none o.dst = true) (hfz : notIn st.bx.length st.fz = true)
    (h : appC τ st t (st.ev none x) (st.ev none y) = some (st', r, cd)) (hc : cd) (k : ∀ a w, Rel P w0 N nt (st'.put o.dst none r) a w → wpList P ops Q rest a w) : wpList P ops Q (o :: rest) a w := by
  obtain ⟨g, HI, hF⟩ := H
  obtain ⟨g', w', k1, k2, k3, k4⟩ := appC_sound hτ HI hfz h hc (ev_sound hF (c := none) trivial x) (ev_sound hF (c := none) trivial y) o.type
  refine wpList_plain hgd fun K hK => ?_
  unfold Oper.wp
  have he : (execOp a.eval o).run P w = (do pure (.value (← Builtin.append_ #[t, t] o.type #[a.eval x, a.eval y])) : Sem Next).run P w := by
    obtain ⟨dst, op, ty, pos, after, gd⟩ := o
    dsimp only at ho
    subst ho
    simp [execOp, resolve, invoke, builtin]
  rw [he]
  rcases k4 with ⟨z, h1, h2⟩ | ⟨h1, h2⟩
  · rw [h1, Oper.upon_value]
    refine hK _ _ (k _ _ ⟨g', ?_, (hF.mono k1.1).put hd (fun _ => h2) k3 (fun h => absurd trivial h)⟩)
    cases o.dst <;> exact k2
  · exfalso; simp only [Sem.run_bind] at h1
    cases hr : (Builtin.append_ #[t, t] o.type #[a.eval x, a.eval y]).run P w <;> rw [hr] at h1 <;> simp [Result.andThen] at h1
end
/-- All is written over. -/
theorem over_v (l : List UInt8) (γ : Nat) : VX Try.prog 95 [(.vc 5 .sc, .vb γ l)] [] [] [.vw 0 γ l.length] [(.vc 5 .sc, .vb γ (l.map over))] [] [] (.tup []) := by
  refine ⟨⟨Try.f95, Try.func95, by kernel_rfl, by kernel_rfl⟩, fun w N vs HI hlen hv => ?_⟩
  obtain ⟨v, rfl⟩ : ∃ v, vs = [v] := by
    match vs, hlen with
    | [v], _ => exact ⟨v, rfl⟩
  have h0 := hv 0 _ v rfl rfl
  obtain ⟨_, y, e9, T9, A, c, e1, hy, hty, hle, hnc, hm, hxx⟩ := h0.vw_inv.vw_inv
  injection e1 with e1; subst e1
  obtain ⟨y', hy', hyT, hbc⟩ := HI.br.at_ 0 _ _ (by rfl)
  rw [hy] at hy'; injection hy' with hy'; subst hy'
  obtain ⟨l2, ⟨e4, he4, htid⟩, hmp, hgen, hcm, hcs, hcl⟩ := hbc.vb_inv
  injection he4 with he40; subst he40
  obtain ⟨hcc, hA⟩ := hxx hgen
  have hll : l.length + l2.length = c := by rw [hcc, ← hcl, hcs, List.length_map, List.length_append]
  have hown : Own (byteT 5) w 0 (.slice A l.length c) l l2 := by
    rcases hA with ⟨ho, rfl⟩ | ⟨ho, rfl⟩
    · have := hcm.2 ho
      have h2 : l = [] := List.length_eq_zero_iff.1 (by omega)
      have h3 : l2 = [] := List.length_eq_zero_iff.1 (by omega)
      subst h2 h3
      exact .inl ⟨by rw [show c = 0 by omega]; rfl, rfl, rfl⟩
    · refine .inr ⟨y.blk, Nat.zero_le _, by rw [hll], ?_, by omega⟩
      rw [byteT_all, ← hcs]
      have := (HI.mem.bx 0 y hy ho).c hmp
      rw [htid] at this
      exact this
  refine (over_any l l2 _ 0 w hown).mono fun e w' ⟨he, hown', hg⟩ => ?_
  have hfz : y.fz = false := by
    cases e : y.fz with
    | false => rfl
    | true => exact absurd (HI.fz 0 y hy e) (by simp)
  have hob : (Value.slice A l.length c).ownBlock = y.own := by
    unfold Bx.own
    rcases hA with ⟨h1, rfl⟩ | ⟨h1, rfl⟩ <;> rw [h1] <;> rfl
  rw [hob] at hg
  obtain ⟨g', h1, h2, h3⟩ := HI.upd (x' := { y with cells := (l.map over ++ l2.map over).map B8 }) (a := .vb γ (l.map over)) hy (by simp) hg rfl hfz (Nat.le_refl _) (fun _ => ⟨rfl, rfl, rfl⟩)
    (fun ho => ⟨.of hmp (by
      rcases hown' with ⟨e5, _⟩ | ⟨k, _, e5, hb, _⟩
      · rcases hA with ⟨h1, _⟩ | ⟨_, rfl⟩
        · rw [show ({ y with cells := (l.map over ++ l2.map over).map B8 } : Bx).off = y.off from rfl, h1] at ho; cases ho
        · injection e5 with e5; cases e5
      · rcases hA with ⟨h1, _⟩ | ⟨_, rfl⟩
        · rw [show ({ y with cells := (l.map over ++ l2.map over).map B8 } : Bx).off = y.off from rfl, h1] at ho; cases ho
        · injection e5 with e5; injection e5 with e5; injection e5 with e5; subst e5
          rw [byteT_all] at hb
          show Blk w' y.blk y.tid _
          rw [htid]; exact hb), .inr ⟨ho, rfl⟩⟩) (fun ho => by
      have := hcm.2 ho
      have h2 : l = [] := List.length_eq_zero_iff.1 (by omega)
      have h3 : l2 = [] := List.length_eq_zero_iff.1 (by omega)
      subst h2 h3; rfl) (fun e => by rw [show ({ y with cells := (l.map over ++ l2.map over).map B8 } : Bx).mp = y.mp from rfl, hmp] at e; cases e)
    (by rw [hyT]; exact .inr (.inr (.inl ⟨γ, l.map over, l2.map over, ⟨_, rfl, htid⟩, rfl, hmp, hgen, hcm, rfl, by show ((l.map over ++ l2.map over).map B8).length = y.cap; rw [← hcl, hcs]; simp⟩)))
  rw [hyT] at h2
  exact ⟨g', _, he, h2, ⟨[], rfl, rfl, fun i a u ha _ => by simp at ha⟩⟩
end Go.Proofs.Ytpeefeioccglcaa
/- The disks: the program's and the document's. -/
namespace Go.Proofs.Ytpeefeioccglcaa
open Go Go.RowKit
/-- The state made plain. -/
theorem nf_Dk {P : Program} {w0 w : World} {N : Gh} {nt : Nat} {st s2 : St} {a : Act} (H : Rel P w0 N nt st a w) (h : st = s2 := by (try simp only [pk, elemB, St.put, St.ev, St.tmp, St.keep, find, dropT, slots, AV.put, AV.loc, fitI, convI, IntKind.signed, IntKind.bits, strip, St.lose, mergeL, setAll, nth, renB, ren, idx?, sub, allP, low, bnd, Int.reduceEq, Nat.reduceAdd, Nat.reduceLT, reduceIte, reduceCtorEq, Nat.reduceEqDiff, Nat.reduceLeDiff, Nat.reduceBEq, Int.reducePow, Int.reduceToNat, ti22_t, ti22_z, ti5_t, ti5_z, ti180_t, ti180_z, ti182_t, ti182_z]); rfl) : Rel P w0 N nt s2 a w := h ▸ H
theorem nt_Dk {P : Program} {w0 w : World} {N gS : Gh} {nt : Nat} {q q2 st s2 : St} {a : Act} (H : RelT P w0 N nt gS q st a w) (h1 : q = q2 := by (try simp only [pk, elemB, St.put, St.ev, St.tmp, St.keep, find, dropT, slots, AV.put, AV.loc, fitI, convI, IntKind.signed, IntKind.bits, strip, St.lose, mergeL, setAll, nth, renB, ren, idx?, sub, allP, low, bnd, Int.reduceEq, Nat.reduceAdd, Nat.reduceLT, reduceIte, reduceCtorEq, Nat.reduceEqDiff, Nat.reduceLeDiff, Nat.reduceBEq, Int.reducePow, Int.reduceToNat, ti22_t, ti22_z, ti5_t, ti5_z, ti180_t, ti180_z, ti182_t, ti182_z]); rfl) (h : st = s2 := by (try simp only [pk, elemB, St.put, St.ev, St.tmp, St.keep, find, dropT, slots, AV.put, AV.loc, fitI, convI, IntKind.signed, IntKind.bits, strip, St.lose, mergeL, setAll, nth, renB, ren, idx?, sub, allP, low, bnd, Int.reduceEq, Nat.reduceAdd, Nat.reduceLT, reduceIte, reduceCtorEq, Nat.reduceEqDiff, Nat.reduceLeDiff, Nat.reduceBEq, Int.reducePow, Int.reduceToNat, ti22_t, ti22_z, ti5_t, ti5_z, ti180_t, ti180_z, ti182_t, ti182_z]); rfl) : RelT P w0 N nt gS q2 s2 a w := h1 ▸ h ▸ H
theorem ct_Dk {c : Prop} (h : c := by ((try simp only [pk, elemB, St.put, St.ev, St.tmp, St.keep, find, dropT, slots, AV.put, AV.loc, fitI, convI, IntKind.signed, IntKind.bits, strip, St.lose, mergeL, setAll, nth, renB, ren, idx?, sub, allP, low, bnd, Int.reduceEq, Nat.reduceAdd, Nat.reduceLT, reduceIte, reduceCtorEq, Nat.reduceEqDiff, Nat.reduceLeDiff, Nat.reduceBEq, Int.reducePow, Int.reduceToNat, ti22_t, ti22_z, ti5_t, ti5_z, ti180_t, ti180_z, ti182_t, ti182_z, ti22, ti5, ti180, ti182, fit, gcond, ilo, ihi]); first | done | exact cd | exact cd2 | skip)) : c := h
abbrev dkT : Ty := .cn .sc (.cn .sc (.cn .sc .nl))
abbrev rkT : Ty := .cn .sc (.cn .sc .nl)
abbrev vbT : Ty := .vc 5 .sc
def dkv (i γ n s : Nat) : AV := .st [.vw i γ n, .v (.int .i64 (s : Int)), .v (.bool true)]
def rkv (l : List UInt8) (s : Nat) : AV := .st [.bs l none, .v (.int .i64 (s : Int))]
theorem dnone_v (γ n s : Nat) (l : List UInt8) : VX Try.prog 92 [(dkT, dkv 1 γ n s), (vbT, .vb γ l)] [] [] [.ptr 0 []] [(dkT, dkv 1 γ n s), (vbT, .vb γ l)] [] [] (.v (.bool false)) := by
  refine v_enter Try.func92 rfl (by kernel_rfl) (by show 1 ≤ 12; decide) ?_
  intro N w0 a w hN hR H
  simp only [dkv] at H
  repeat (first | refine wp_seq ?_ | refine wp_block ?_ | refine wp_skip ?_ | refine wp_exit ?_ | ((first | refine v_some 5 tab_ok hN H (by rfl) ct_Dk ?_ | refine v_more tab_ok hN H (by rfl) (by rfl) ct_Dk ?_); clear H; intro a w H; replace H := nf_Dk H; (try simp only [List.drop_succ_cons, List.drop_zero, List.drop_nil]); try refine wpList_nil ?_) | refine wp_region_lit ?_)
  refine wp_ret ?_
  exact v_end [0, 1] [] tab_ok ⟨hN, hR⟩ (rs := [.tmp 2]) (ress := [_]) rfl H (by rfl) (by rfl) (by simp [pickB, bxs, ren, idx?, List.idxOf_cons, sub_refl, sub, allP, dkv] <;> omega) (by first | rfl | (simp [dkv] <;> omega)) (by first | exact trivial | exact ⟨sub_refl _ _, trivial⟩ | exact ⟨sub_refl _ _, sub_refl _ _, trivial⟩ | exact ⟨sub_refl _ _, sub_refl _ _, sub_refl _ _, trivial⟩ | exact ⟨⟨rfl, sub_refl _ _, trivial⟩, sub_refl _ _, trivial⟩ | (simp [cargs, cargsG, St.ev, St.tmp, find, ren, idx?, sub_refl, sub, allP, resv, resC, bss, dkv] <;> omega)) rfl
theorem dsynced_v (γ n s : Nat) (l : List UInt8) : VX Try.prog 94 [(dkT, dkv 1 γ n s), (vbT, .vb γ l)] [] [] [.ptr 0 []] [(dkT, dkv 1 γ n s), (vbT, .vb γ l)] [] [] (.v (.int .i64 (s : Int))) := by
  have hg := dnone_v γ n s l
  refine v_enter Try.func94 rfl (by kernel_rfl) (by show 1 ≤ 9; decide) ?_
  intro N w0 a w hN hR H
  simp only [dkv] at H hg
  repeat (first | refine wp_seq ?_ | refine wp_block ?_ | refine wp_skip ?_ | refine wp_exit ?_ | ((first | refine v_some 5 tab_ok hN H (by rfl) ct_Dk ?_ | refine v_more tab_ok hN H (by rfl) (by rfl) ct_Dk ?_); clear H; intro a w H; replace H := nf_Dk H; (try simp only [List.drop_succ_cons, List.drop_zero, List.drop_nil]); try refine wpList_nil ?_) | refine wp_region_lit ?_)
  refine v_call [0, 1] [] (hg) H rfl rfl (by rfl) (by simp [pickB, bxs, ren, idx?, List.idxOf_cons, sub_refl, sub, allP, dkv] <;> omega) (by first | rfl | (simp [dkv] <;> omega)) (by first | exact trivial | exact ⟨sub_refl _ _, trivial⟩ | exact ⟨sub_refl _ _, sub_refl _ _, trivial⟩ | exact ⟨sub_refl _ _, sub_refl _ _, sub_refl _ _, trivial⟩ | exact ⟨⟨rfl, sub_refl _ _, trivial⟩, sub_refl _ _, trivial⟩ | (simp [cargs, cargsG, St.ev, St.tmp, find, ren, idx?, sub_refl, sub, allP, resv, resC, bss, dkv] <;> omega)) ?_; clear H; intro a w H; replace H := nf_Dk H; first | (simp only [dkv] at H; replace H := nf_Dk H) | skip; try refine wpList_nil ?_
  repeat (first | refine wp_seq ?_ | refine wp_block ?_ | refine wp_skip ?_ | refine wp_exit ?_ | ((first | refine v_some 5 tab_ok hN H (by rfl) ct_Dk ?_ | refine v_more tab_ok hN H (by rfl) (by rfl) ct_Dk ?_); clear H; intro a w H; replace H := nf_Dk H; (try simp only [List.drop_succ_cons, List.drop_zero, List.drop_nil]); try refine wpList_nil ?_) | refine wp_region_lit ?_)
  refine v_cond H (by rfl) (fun hb => ?_) (fun hb => ?_)
  · simp at hb
  · repeat (first | refine wp_seq ?_ | refine wp_block ?_ | refine wp_skip ?_ | refine wp_exit ?_ | ((first | refine v_some 5 tab_ok hN H (by rfl) ct_Dk ?_ | refine v_more tab_ok hN H (by rfl) (by rfl) ct_Dk ?_); clear H; intro a w H; replace H := nf_Dk H; (try simp only [List.drop_succ_cons, List.drop_zero, List.drop_nil]); try refine wpList_nil ?_) | refine wp_region_lit ?_)
    refine wp_ret ?_
    exact v_end [0, 1] [] tab_ok ⟨hN, hR⟩ (rs := [.tmp 2]) (ress := [_]) rfl H (by rfl) (by rfl) (by simp [pickB, bxs, ren, idx?, List.idxOf_cons, sub_refl, sub, allP, dkv] <;> omega) (by first | rfl | (simp [dkv] <;> omega)) (by first | exact trivial | exact ⟨sub_refl _ _, trivial⟩ | exact ⟨sub_refl _ _, sub_refl _ _, trivial⟩ | exact ⟨sub_refl _ _, sub_refl _ _, sub_refl _ _, trivial⟩ | exact ⟨⟨rfl, sub_refl _ _, trivial⟩, sub_refl _ _, trivial⟩ | (simp [cargs, cargsG, St.ev, St.tmp, find, ren, idx?, sub_refl, sub, allP, resv, resC, bss, dkv] <;> omega)) rfl
theorem dsync_v (γ n s : Nat) (l : List UInt8) (hn : n ≤ 1048576) : VX Try.prog 22 [(dkT, dkv 1 γ n s), (vbT, .vb γ l)] [] [] [.ptr 0 []] [(dkT, dkv 1 γ n n), (vbT, .vb γ l)] [] [] (.v (.int .i64 0)) := by
  have hg := dnone_v γ n s l
  refine v_enter Try.func22 rfl (by kernel_rfl) (by show 1 ≤ 13; decide) ?_
  intro N w0 a w hN hR H
  simp only [dkv] at H hg
  repeat (first | refine wp_seq ?_ | refine wp_block ?_ | refine wp_skip ?_ | refine wp_exit ?_ | ((first | refine v_some 5 tab_ok hN H (by rfl) ct_Dk ?_ | refine v_more tab_ok hN H (by rfl) (by rfl) ct_Dk ?_); clear H; intro a w H; replace H := nf_Dk H; (try simp only [List.drop_succ_cons, List.drop_zero, List.drop_nil]); try refine wpList_nil ?_) | refine wp_region_lit ?_)
  refine v_call [0, 1] [] (hg) H rfl rfl (by rfl) (by simp [pickB, bxs, ren, idx?, List.idxOf_cons, sub_refl, sub, allP, dkv] <;> omega) (by first | rfl | (simp [dkv] <;> omega)) (by first | exact trivial | exact ⟨sub_refl _ _, trivial⟩ | exact ⟨sub_refl _ _, sub_refl _ _, trivial⟩ | exact ⟨sub_refl _ _, sub_refl _ _, sub_refl _ _, trivial⟩ | exact ⟨⟨rfl, sub_refl _ _, trivial⟩, sub_refl _ _, trivial⟩ | (simp [cargs, cargsG, St.ev, St.tmp, find, ren, idx?, sub_refl, sub, allP, resv, resC, bss, dkv] <;> omega)) ?_; clear H; intro a w H; replace H := nf_Dk H; first | (simp only [dkv] at H; replace H := nf_Dk H) | skip; try refine wpList_nil ?_
  repeat (first | refine wp_seq ?_ | refine wp_block ?_ | refine wp_skip ?_ | refine wp_exit ?_ | ((first | refine v_some 5 tab_ok hN H (by rfl) ct_Dk ?_ | refine v_more tab_ok hN H (by rfl) (by rfl) ct_Dk ?_); clear H; intro a w H; replace H := nf_Dk H; (try simp only [List.drop_succ_cons, List.drop_zero, List.drop_nil]); try refine wpList_nil ?_) | refine wp_region_lit ?_)
  refine v_cond H (by rfl) (fun hb => ?_) (fun hb => ?_)
  · simp at hb
  · repeat (first | refine wp_seq ?_ | refine wp_block ?_ | refine wp_skip ?_ | refine wp_exit ?_ | ((first | refine v_some 5 tab_ok hN H (by rfl) ct_Dk ?_ | refine v_more tab_ok hN H (by rfl) (by rfl) ct_Dk ?_); clear H; intro a w H; replace H := nf_Dk H; (try simp only [List.drop_succ_cons, List.drop_zero, List.drop_nil]); try refine wpList_nil ?_) | refine wp_region_lit ?_)
    refine wp_ret ?_
    exact v_end [0, 1] [] tab_ok ⟨hN, hR⟩ (rs := [.tmp 2]) (ress := [_]) rfl H (by rfl) (by rfl) (by simp [pickB, bxs, ren, idx?, List.idxOf_cons, sub_refl, sub, allP, dkv] <;> omega) (by first | rfl | (simp [dkv] <;> omega)) (by first | exact trivial | exact ⟨sub_refl _ _, trivial⟩ | exact ⟨sub_refl _ _, sub_refl _ _, trivial⟩ | exact ⟨sub_refl _ _, sub_refl _ _, sub_refl _ _, trivial⟩ | exact ⟨⟨rfl, sub_refl _ _, trivial⟩, sub_refl _ _, trivial⟩ | (simp [cargs, cargsG, St.ev, St.tmp, find, ren, idx?, sub_refl, sub, allP, resv, resC, bss, dkv] <;> omega)) rfl
theorem dbytes_v (γ n s : Nat) (l : List UInt8) (hn : n ≤ l.length) (hn2 : n ≤ 1048576) : VX Try.prog 93 [(dkT, dkv 1 γ n s), (vbT, .vb γ l)] [] [] [.ptr 0 []] [(dkT, dkv 1 γ n s), (vbT, .vb γ l), (vbT, .vb 1 (l.take n))] [] [] (.vw 2 1 n) := by
  have hg := dnone_v γ n s l
  refine v_enter Try.func93 rfl (by kernel_rfl) (by show 1 ≤ 10; decide) ?_
  intro N w0 a w hN hR H
  simp only [dkv] at H hg
  repeat (first | refine wp_seq ?_ | refine wp_block ?_ | refine wp_skip ?_ | refine wp_exit ?_ | ((first | refine v_some 5 tab_ok hN H (by rfl) ct_Dk ?_ | refine v_more tab_ok hN H (by rfl) (by rfl) ct_Dk ?_); clear H; intro a w H; replace H := nf_Dk H; (try simp only [List.drop_succ_cons, List.drop_zero, List.drop_nil]); try refine wpList_nil ?_) | refine wp_region_lit ?_)
  refine v_call [0, 1] [] (hg) H rfl rfl (by rfl) (by simp [pickB, bxs, ren, idx?, List.idxOf_cons, sub_refl, sub, allP, dkv] <;> omega) (by first | rfl | (simp [dkv] <;> omega)) (by first | exact trivial | exact ⟨sub_refl _ _, trivial⟩ | exact ⟨sub_refl _ _, sub_refl _ _, trivial⟩ | exact ⟨sub_refl _ _, sub_refl _ _, sub_refl _ _, trivial⟩ | exact ⟨⟨rfl, sub_refl _ _, trivial⟩, sub_refl _ _, trivial⟩ | (simp [cargs, cargsG, St.ev, St.tmp, find, ren, idx?, sub_refl, sub, allP, resv, resC, bss, dkv] <;> omega)) ?_; clear H; intro a w H; replace H := nf_Dk H; first | (simp only [dkv] at H; replace H := nf_Dk H) | skip; try refine wpList_nil ?_
  repeat (first | refine wp_seq ?_ | refine wp_block ?_ | refine wp_skip ?_ | refine wp_exit ?_ | ((first | refine v_some 5 tab_ok hN H (by rfl) ct_Dk ?_ | refine v_more tab_ok hN H (by rfl) (by rfl) ct_Dk ?_); clear H; intro a w H; replace H := nf_Dk H; (try simp only [List.drop_succ_cons, List.drop_zero, List.drop_nil]); try refine wpList_nil ?_) | refine wp_region_lit ?_)
  refine v_cond H (by rfl) (fun hb => ?_) (fun hb => ?_)
  · simp at hb
  · repeat (first | refine wp_seq ?_ | refine wp_block ?_ | refine wp_skip ?_ | refine wp_exit ?_)
    (try refine wp_region_lit ?_); refine v_steps 4 tab_ok hN H (by rfl) ct_Dk ?_; clear H; intro a w H; replace H := nf_Dk H
    refine v_appC tab_ok H rfl rfl (by rfl) (by rfl) (by rfl) (by exact ⟨⟨rfl, hn⟩, by omega⟩) ?_; clear H; intro a w H; replace H := nf_Dk H
    repeat (first | refine wp_seq ?_ | refine wp_block ?_ | refine wp_skip ?_ | refine wp_exit ?_ | ((first | refine v_some 5 tab_ok hN H (by rfl) ct_Dk ?_ | refine v_more tab_ok hN H (by rfl) (by rfl) ct_Dk ?_); clear H; intro a w H; replace H := nf_Dk H; (try simp only [List.drop_succ_cons, List.drop_zero, List.drop_nil]); try refine wpList_nil ?_) | refine wp_region_lit ?_)
    refine wp_ret ?_
    exact v_end [0, 1, 2] [] tab_ok ⟨hN, hR⟩ (rs := [.tmp 2]) (ress := [_]) rfl H (by rfl) (by rfl) (by simp [pickB, bxs, ren, idx?, List.idxOf_cons, sub_refl, sub, allP, dkv] <;> omega) (by first | rfl | (simp [dkv] <;> omega)) (by first | exact trivial | exact ⟨sub_refl _ _, trivial⟩ | exact ⟨sub_refl _ _, sub_refl _ _, trivial⟩ | exact ⟨sub_refl _ _, sub_refl _ _, sub_refl _ _, trivial⟩ | exact ⟨⟨rfl, sub_refl _ _, trivial⟩, sub_refl _ _, trivial⟩ | (simp [cargs, cargsG, St.ev, St.tmp, find, ren, idx?, sub_refl, sub, allP, resv, resC, bss, dkv] <;> omega)) rfl
theorem dof_v (l : List UInt8) (hl : l.length ≤ 1048576) : VX Try.prog 16 [] [] [] [.bs l none] [(dkT, dkv 1 1 l.length l.length), (vbT, .vb 1 l)] [] [] (.tup [.ptr 0 [], .v (.int .i64 0)]) := by
  refine v_enter Try.func16 rfl (by kernel_rfl) (by show 1 ≤ 13; decide) ?_
  intro N w0 a w hN hR H
  repeat (first | refine wp_seq ?_ | refine wp_block ?_ | refine wp_skip ?_ | refine wp_exit ?_ | ((first | refine v_some 5 tab_ok hN H (by rfl) ct_Dk ?_ | refine v_more tab_ok hN H (by rfl) (by rfl) ct_Dk ?_); clear H; intro a w H; replace H := nf_Dk H; (try simp only [List.drop_succ_cons, List.drop_zero, List.drop_nil]); try refine wpList_nil ?_) | refine wp_region_lit ?_)
  refine v_cond H (by rfl) (fun hb => ?_) (fun hb => ?_)
  · simp at hb; omega
  · repeat (first | refine wp_seq ?_ | refine wp_block ?_ | refine wp_skip ?_ | refine wp_exit ?_)
    (try refine wp_region_lit ?_); refine v_steps 1 tab_ok hN H (by rfl) ct_Dk ?_; clear H; intro a w H; replace H := nf_Dk H
    refine v_appN tab_ok H rfl rfl (by rfl) (by rfl) (by simp; omega) ?_; clear H; intro a w H; replace H := nf_Dk H
    repeat (first | refine wp_seq ?_ | refine wp_block ?_ | refine wp_skip ?_ | refine wp_exit ?_ | ((first | refine v_some 5 tab_ok hN H (by rfl) ct_Dk ?_ | refine v_more tab_ok hN H (by rfl) (by rfl) ct_Dk ?_); clear H; intro a w H; replace H := nf_Dk H; (try simp only [List.drop_succ_cons, List.drop_zero, List.drop_nil]); try refine wpList_nil ?_) | refine wp_region_lit ?_)
    refine wp_ret ?_
    exact v_end [1, 0] [] tab_ok ⟨hN, hR⟩ (rs := [.tmp 2, .tmp 3]) (ress := [_, _]) rfl H (by rfl) (by rfl) (by simp [pickB, bxs, ren, idx?, List.idxOf_cons, sub_refl, sub, allP, dkv] <;> omega) (by first | rfl | (simp [dkv] <;> omega)) (by first | exact trivial | exact ⟨sub_refl _ _, trivial⟩ | exact ⟨sub_refl _ _, sub_refl _ _, trivial⟩ | exact ⟨sub_refl _ _, sub_refl _ _, sub_refl _ _, trivial⟩ | exact ⟨⟨rfl, sub_refl _ _, trivial⟩, sub_refl _ _, trivial⟩ | (simp [cargs, cargsG, St.ev, St.tmp, find, ren, idx?, sub_refl, sub, allP, resv, resC, bss, dkv] <;> omega)) rfl
theorem dappend_ok (γ n s : Nat) (l t : List UInt8) (hn : n ≤ l.length) (hn2 : n + t.length ≤ 1048576) : VX Try.prog 18 [(dkT, dkv 1 γ n s), (vbT, .vb γ l)] [] [] [.ptr 0 [], .bs t none] [(dkT, dkv 1 (γ + 1) (n + t.length) s), (vbT, .vb (γ + 1) (l.take n ++ t))] [] [] (.v (.int .i64 0)) := by
  have hg := dnone_v γ n s l
  refine v_enter Try.func18 rfl (by kernel_rfl) (by show 2 ≤ 25; decide) ?_
  intro N w0 a w hN hR H
  simp only [dkv] at H hg
  repeat (first | refine wp_seq ?_ | refine wp_block ?_ | refine wp_skip ?_ | refine wp_exit ?_ | ((first | refine v_some 5 tab_ok hN H (by rfl) ct_Dk ?_ | refine v_more tab_ok hN H (by rfl) (by rfl) ct_Dk ?_); clear H; intro a w H; replace H := nf_Dk H; (try simp only [List.drop_succ_cons, List.drop_zero, List.drop_nil]); try refine wpList_nil ?_) | refine wp_region_lit ?_)
  refine v_call [0, 1] [] (hg) H rfl rfl (by rfl) (by simp [pickB, bxs, ren, idx?, List.idxOf_cons, sub_refl, sub, allP, dkv] <;> omega) (by first | rfl | (simp [dkv] <;> omega)) (by first | exact trivial | exact ⟨sub_refl _ _, trivial⟩ | exact ⟨sub_refl _ _, sub_refl _ _, trivial⟩ | exact ⟨sub_refl _ _, sub_refl _ _, sub_refl _ _, trivial⟩ | exact ⟨⟨rfl, sub_refl _ _, trivial⟩, sub_refl _ _, trivial⟩ | (simp [cargs, cargsG, St.ev, St.tmp, find, ren, idx?, sub_refl, sub, allP, resv, resC, bss, dkv] <;> omega)) ?_; clear H; intro a w H; replace H := nf_Dk H; first | (simp only [dkv] at H; replace H := nf_Dk H) | skip; try refine wpList_nil ?_
  repeat (first | refine wp_seq ?_ | refine wp_block ?_ | refine wp_skip ?_ | refine wp_exit ?_ | ((first | refine v_some 5 tab_ok hN H (by rfl) ct_Dk ?_ | refine v_more tab_ok hN H (by rfl) (by rfl) ct_Dk ?_); clear H; intro a w H; replace H := nf_Dk H; (try simp only [List.drop_succ_cons, List.drop_zero, List.drop_nil]); try refine wpList_nil ?_) | refine wp_region_lit ?_)
  refine v_cond H (by rfl) (fun hb => ?_) (fun hb => ?_)
  · simp at hb
  · repeat (first | refine wp_seq ?_ | refine wp_block ?_ | refine wp_skip ?_ | refine wp_exit ?_ | ((first | refine v_some 5 tab_ok hN H (by rfl) ct_Dk ?_ | refine v_more tab_ok hN H (by rfl) (by rfl) ct_Dk ?_); clear H; intro a w H; replace H := nf_Dk H; (try simp only [List.drop_succ_cons, List.drop_zero, List.drop_nil]); try refine wpList_nil ?_) | refine wp_region_lit ?_)
    refine v_cond H (by rfl) (fun hb => ?_) (fun hb => ?_)
    · simp at hb; omega
    · repeat (first | refine wp_seq ?_ | refine wp_block ?_ | refine wp_skip ?_ | refine wp_exit ?_ | ((first | refine v_some 5 tab_ok hN H (by rfl) ct_Dk ?_ | refine v_more tab_ok hN H (by rfl) (by rfl) ct_Dk ?_); clear H; intro a w H; replace H := nf_Dk H; (try simp only [List.drop_succ_cons, List.drop_zero, List.drop_nil]); try refine wpList_nil ?_) | refine wp_region_lit ?_)
      refine wp_ret ?_
      exact v_end [0, 1] [] tab_ok ⟨hN, hR⟩ (rs := [.tmp 4]) (ress := [_]) rfl H (by rfl) (by rfl) (by simp [pickB, bxs, ren, idx?, List.idxOf_cons, sub_refl, sub, allP, dkv] <;> omega) (by first | rfl | (simp [dkv] <;> omega)) (by first | exact trivial | exact ⟨sub_refl _ _, trivial⟩ | exact ⟨sub_refl _ _, sub_refl _ _, trivial⟩ | exact ⟨sub_refl _ _, sub_refl _ _, sub_refl _ _, trivial⟩ | exact ⟨⟨rfl, sub_refl _ _, trivial⟩, sub_refl _ _, trivial⟩ | (simp [cargs, cargsG, St.ev, St.tmp, find, ren, idx?, sub_refl, sub, allP, resv, resC, bss, dkv] <;> omega)) rfl
theorem dappend_no (γ n s : Nat) (l t : List UInt8) (hn : n ≤ 1048576) (ht : t.length ≤ 34359738000) (hn2 : 1048576 < n + t.length) : VX Try.prog 18 [(dkT, dkv 1 γ n s), (vbT, .vb γ l)] [] [] [.ptr 0 [], .bs t none] [(dkT, dkv 1 γ n s), (vbT, .vb γ l)] [] [] (.v (.int .i64 4)) := by
  have hg := dnone_v γ n s l
  refine v_enter Try.func18 rfl (by kernel_rfl) (by show 2 ≤ 25; decide) ?_
  intro N w0 a w hN hR H
  simp only [dkv] at H hg
  repeat (first | refine wp_seq ?_ | refine wp_block ?_ | refine wp_skip ?_ | refine wp_exit ?_ | ((first | refine v_some 5 tab_ok hN H (by rfl) ct_Dk ?_ | refine v_more tab_ok hN H (by rfl) (by rfl) ct_Dk ?_); clear H; intro a w H; replace H := nf_Dk H; (try simp only [List.drop_succ_cons, List.drop_zero, List.drop_nil]); try refine wpList_nil ?_) | refine wp_region_lit ?_)
  refine v_call [0, 1] [] (hg) H rfl rfl (by rfl) (by simp [pickB, bxs, ren, idx?, List.idxOf_cons, sub_refl, sub, allP, dkv] <;> omega) (by first | rfl | (simp [dkv] <;> omega)) (by first | exact trivial | exact ⟨sub_refl _ _, trivial⟩ | exact ⟨sub_refl _ _, sub_refl _ _, trivial⟩ | exact ⟨sub_refl _ _, sub_refl _ _, sub_refl _ _, trivial⟩ | exact ⟨⟨rfl, sub_refl _ _, trivial⟩, sub_refl _ _, trivial⟩ | (simp [cargs, cargsG, St.ev, St.tmp, find, ren, idx?, sub_refl, sub, allP, resv, resC, bss, dkv] <;> omega)) ?_; clear H; intro a w H; replace H := nf_Dk H; first | (simp only [dkv] at H; replace H := nf_Dk H) | skip; try refine wpList_nil ?_
  repeat (first | refine wp_seq ?_ | refine wp_block ?_ | refine wp_skip ?_ | refine wp_exit ?_ | ((first | refine v_some 5 tab_ok hN H (by rfl) ct_Dk ?_ | refine v_more tab_ok hN H (by rfl) (by rfl) ct_Dk ?_); clear H; intro a w H; replace H := nf_Dk H; (try simp only [List.drop_succ_cons, List.drop_zero, List.drop_nil]); try refine wpList_nil ?_) | refine wp_region_lit ?_)
  refine v_cond H (by rfl) (fun hb => ?_) (fun hb => ?_)
  · simp at hb
  · repeat (first | refine wp_seq ?_ | refine wp_block ?_ | refine wp_skip ?_ | refine wp_exit ?_ | ((first | refine v_some 5 tab_ok hN H (by rfl) ct_Dk ?_ | refine v_more tab_ok hN H (by rfl) (by rfl) ct_Dk ?_); clear H; intro a w H; replace H := nf_Dk H; (try simp only [List.drop_succ_cons, List.drop_zero, List.drop_nil]); try refine wpList_nil ?_) | refine wp_region_lit ?_)
    refine v_cond H (by rfl) (fun hb => ?_) (fun hb => ?_)
    · repeat (first | refine wp_seq ?_ | refine wp_block ?_ | refine wp_skip ?_ | refine wp_exit ?_ | ((first | refine v_some 5 tab_ok hN H (by rfl) ct_Dk ?_ | refine v_more tab_ok hN H (by rfl) (by rfl) ct_Dk ?_); clear H; intro a w H; replace H := nf_Dk H; (try simp only [List.drop_succ_cons, List.drop_zero, List.drop_nil]); try refine wpList_nil ?_) | refine wp_region_lit ?_)
      refine wp_ret ?_
      exact v_end [0, 1] [] tab_ok ⟨hN, hR⟩ (rs := [.tmp 4]) (ress := [_]) rfl H (by rfl) (by rfl) (by simp [pickB, bxs, ren, idx?, List.idxOf_cons, sub_refl, sub, allP, dkv] <;> omega) (by first | rfl | (simp [dkv] <;> omega)) (by first | exact trivial | exact ⟨sub_refl _ _, trivial⟩ | exact ⟨sub_refl _ _, sub_refl _ _, trivial⟩ | exact ⟨sub_refl _ _, sub_refl _ _, sub_refl _ _, trivial⟩ | exact ⟨⟨rfl, sub_refl _ _, trivial⟩, sub_refl _ _, trivial⟩ | (simp [cargs, cargsG, St.ev, St.tmp, find, ren, idx?, sub_refl, sub, allP, resv, resC, bss, dkv] <;> omega)) rfl
    · simp at hb; omega
theorem dcut_ok (γ n s : Nat) (c : Int) (l : List UInt8) (hn : n ≤ l.length) (hn2 : n ≤ 1048576) (hs : s ≤ n) (h0 : 0 ≤ c) (h1 : c ≤ (n : Int)) : VX Try.prog 20 [(dkT, dkv 1 γ n s), (vbT, .vb γ l)] [] [] [.ptr 0 [], .v (.int .i64 c)] [(dkT, dkv 1 γ c.toNat (min s c.toNat)), (vbT, .vb γ l)] [] [] (.v (.int .i64 0)) := by
  have hg := dnone_v γ n s l
  have h2 := Int.toNat_of_nonneg h0
  refine v_enter Try.func20 rfl (by kernel_rfl) (by show 2 ≤ 36; decide) ?_
  intro N w0 a w hN hR H
  simp only [dkv] at H hg
  repeat (first | refine wp_seq ?_ | refine wp_block ?_ | refine wp_skip ?_ | refine wp_exit ?_ | ((first | refine v_some 5 tab_ok hN H (by rfl) ct_Dk ?_ | refine v_more tab_ok hN H (by rfl) (by rfl) ct_Dk ?_); clear H; intro a w H; replace H := nf_Dk H; (try simp only [List.drop_succ_cons, List.drop_zero, List.drop_nil]); try refine wpList_nil ?_) | refine wp_region_lit ?_)
  refine v_call [0, 1] [] (hg) H rfl rfl (by rfl) (by simp [pickB, bxs, ren, idx?, List.idxOf_cons, sub_refl, sub, allP, dkv] <;> omega) (by first | rfl | (simp [dkv] <;> omega)) (by first | exact trivial | exact ⟨sub_refl _ _, trivial⟩ | exact ⟨sub_refl _ _, sub_refl _ _, trivial⟩ | exact ⟨sub_refl _ _, sub_refl _ _, sub_refl _ _, trivial⟩ | exact ⟨⟨rfl, sub_refl _ _, trivial⟩, sub_refl _ _, trivial⟩ | (simp [cargs, cargsG, St.ev, St.tmp, find, ren, idx?, sub_refl, sub, allP, resv, resC, bss, dkv] <;> omega)) ?_; clear H; intro a w H; replace H := nf_Dk H; first | (simp only [dkv] at H; replace H := nf_Dk H) | skip; try refine wpList_nil ?_
  repeat (first | refine wp_seq ?_ | refine wp_block ?_ | refine wp_skip ?_ | refine wp_exit ?_ | ((first | refine v_some 5 tab_ok hN H (by rfl) ct_Dk ?_ | refine v_more tab_ok hN H (by rfl) (by rfl) ct_Dk ?_); clear H; intro a w H; replace H := nf_Dk H; (try simp only [List.drop_succ_cons, List.drop_zero, List.drop_nil]); try refine wpList_nil ?_) | refine wp_region_lit ?_)
  refine v_cond H (by rfl) (fun hb => ?_) (fun hb => ?_)
  · simp at hb
  · repeat (first | refine wp_seq ?_ | refine wp_block ?_ | refine wp_skip ?_ | refine wp_exit ?_ | ((first | refine v_some 5 tab_ok hN H (by rfl) ct_Dk ?_ | refine v_more tab_ok hN H (by rfl) (by rfl) ct_Dk ?_); clear H; intro a w H; replace H := nf_Dk H; (try simp only [List.drop_succ_cons, List.drop_zero, List.drop_nil]); try refine wpList_nil ?_) | refine wp_region_lit ?_)
    refine v_cond H (by rfl) (fun hb => ?_) (fun hb => ?_)
    · simp at hb; omega
    · repeat (first | refine wp_seq ?_ | refine wp_block ?_ | refine wp_skip ?_ | refine wp_exit ?_)
      have e3 : (if c < (s : Int) then c else (s : Int)) = ((min s c.toNat : Nat) : Int) := by omega
      repeat (first | refine wp_seq ?_ | refine wp_block ?_)
      refine v_draw 0 [16, 19] [1, 12, 13] (by kernel_rfl) (by kernel_rfl) H (by rfl) (fun gS H => ?_); try replace H := nt_Dk H
      repeat (refine v_someT 5 tab_ok hN H (by rfl) ct_Dk ?_; clear H; intro a w H; replace H := nt_Dk H; simp only [List.drop_succ_cons, List.drop_zero, List.drop_nil])
      refine v_moreT tab_ok hN H (by rfl) ct_Dk ?_; clear H; intro a w H; try replace H := nt_Dk H
      refine v_drawNil H (fun H => ?_)
      repeat (first | refine wp_seq ?_ | refine wp_block ?_ | refine wp_skip ?_ | refine wp_exit ?_ | ((first | refine v_some 5 tab_ok hN H (by rfl) ct_Dk ?_ | refine v_more tab_ok hN H (by rfl) (by rfl) ct_Dk ?_); clear H; intro a w H; replace H := nf_Dk H; (try simp only [List.drop_succ_cons, List.drop_zero, List.drop_nil]); try refine wpList_nil ?_) | refine wp_region_lit ?_)
      refine wp_ret ?_
      exact v_end [0, 1] [] tab_ok ⟨hN, hR⟩ (rs := [.tmp 4]) (ress := [_]) rfl H (by rfl) (by rfl) (by simp [pickB, bxs, ren, idx?, List.idxOf_cons, sub_refl, sub, allP, dkv, e3] <;> omega) (by first | rfl | (simp [dkv, e3] <;> omega)) (by first | exact trivial | exact ⟨sub_refl _ _, trivial⟩ | exact ⟨sub_refl _ _, sub_refl _ _, trivial⟩ | exact ⟨sub_refl _ _, sub_refl _ _, sub_refl _ _, trivial⟩ | exact ⟨⟨rfl, sub_refl _ _, trivial⟩, sub_refl _ _, trivial⟩ | (simp [cargs, cargsG, St.ev, St.tmp, find, ren, idx?, sub_refl, sub, allP, resv, resC, bss, dkv, e3] <;> omega)) rfl
theorem dcut_no (γ n s : Nat) (c : Int) (l : List UInt8) (hn2 : n ≤ 1048576) (h0 : c < 0 ∨ (n : Int) < c) : VX Try.prog 20 [(dkT, dkv 1 γ n s), (vbT, .vb γ l)] [] [] [.ptr 0 [], .v (.int .i64 c)] [(dkT, dkv 1 γ n s), (vbT, .vb γ l)] [] [] (.v (.int .i64 2)) := by
  have hg := dnone_v γ n s l
  refine v_enter Try.func20 rfl (by kernel_rfl) (by show 2 ≤ 36; decide) ?_
  intro N w0 a w hN hR H
  simp only [dkv] at H hg
  repeat (first | refine wp_seq ?_ | refine wp_block ?_ | refine wp_skip ?_ | refine wp_exit ?_ | ((first | refine v_some 5 tab_ok hN H (by rfl) ct_Dk ?_ | refine v_more tab_ok hN H (by rfl) (by rfl) ct_Dk ?_); clear H; intro a w H; replace H := nf_Dk H; (try simp only [List.drop_succ_cons, List.drop_zero, List.drop_nil]); try refine wpList_nil ?_) | refine wp_region_lit ?_)
  refine v_call [0, 1] [] (hg) H rfl rfl (by rfl) (by simp [pickB, bxs, ren, idx?, List.idxOf_cons, sub_refl, sub, allP, dkv] <;> omega) (by first | rfl | (simp [dkv] <;> omega)) (by first | exact trivial | exact ⟨sub_refl _ _, trivial⟩ | exact ⟨sub_refl _ _, sub_refl _ _, trivial⟩ | exact ⟨sub_refl _ _, sub_refl _ _, sub_refl _ _, trivial⟩ | exact ⟨⟨rfl, sub_refl _ _, trivial⟩, sub_refl _ _, trivial⟩ | (simp [cargs, cargsG, St.ev, St.tmp, find, ren, idx?, sub_refl, sub, allP, resv, resC, bss, dkv] <;> omega)) ?_; clear H; intro a w H; replace H := nf_Dk H; first | (simp only [dkv] at H; replace H := nf_Dk H) | skip; try refine wpList_nil ?_
  repeat (first | refine wp_seq ?_ | refine wp_block ?_ | refine wp_skip ?_ | refine wp_exit ?_ | ((first | refine v_some 5 tab_ok hN H (by rfl) ct_Dk ?_ | refine v_more tab_ok hN H (by rfl) (by rfl) ct_Dk ?_); clear H; intro a w H; replace H := nf_Dk H; (try simp only [List.drop_succ_cons, List.drop_zero, List.drop_nil]); try refine wpList_nil ?_) | refine wp_region_lit ?_)
  refine v_cond H (by rfl) (fun hb => ?_) (fun hb => ?_)
  · simp at hb
  · repeat (first | refine wp_seq ?_ | refine wp_block ?_ | refine wp_skip ?_ | refine wp_exit ?_ | ((first | refine v_some 5 tab_ok hN H (by rfl) ct_Dk ?_ | refine v_more tab_ok hN H (by rfl) (by rfl) ct_Dk ?_); clear H; intro a w H; replace H := nf_Dk H; (try simp only [List.drop_succ_cons, List.drop_zero, List.drop_nil]); try refine wpList_nil ?_) | refine wp_region_lit ?_)
    refine v_cond H (by rfl) (fun hb => ?_) (fun hb => ?_)
    · repeat (first | refine wp_seq ?_ | refine wp_block ?_ | refine wp_skip ?_ | refine wp_exit ?_ | ((first | refine v_some 5 tab_ok hN H (by rfl) ct_Dk ?_ | refine v_more tab_ok hN H (by rfl) (by rfl) ct_Dk ?_); clear H; intro a w H; replace H := nf_Dk H; (try simp only [List.drop_succ_cons, List.drop_zero, List.drop_nil]); try refine wpList_nil ?_) | refine wp_region_lit ?_)
      refine wp_ret ?_
      exact v_end [0, 1] [] tab_ok ⟨hN, hR⟩ (rs := [.tmp 4]) (ress := [_]) rfl H (by rfl) (by rfl) (by simp [pickB, bxs, ren, idx?, List.idxOf_cons, sub_refl, sub, allP, dkv] <;> omega) (by first | rfl | (simp [dkv] <;> omega)) (by first | exact trivial | exact ⟨sub_refl _ _, trivial⟩ | exact ⟨sub_refl _ _, sub_refl _ _, trivial⟩ | exact ⟨sub_refl _ _, sub_refl _ _, sub_refl _ _, trivial⟩ | exact ⟨⟨rfl, sub_refl _ _, trivial⟩, sub_refl _ _, trivial⟩ | (simp [cargs, cargsG, St.ev, St.tmp, find, ren, idx?, sub_refl, sub, allP, resv, resC, bss, dkv] <;> omega)) rfl
    · simp at hb; omega
theorem dcrash_ok (γ n s : Nat) (c : Int) (l : List UInt8) (hn : n ≤ l.length) (hn2 : n ≤ 1048576) (hs : s ≤ n) (h0 : 0 ≤ c) (h1 : c ≤ (n : Int) - (s : Int)) : VX Try.prog 24 [(dkT, dkv 1 γ n s), (vbT, .vb γ l)] [] [] [.ptr 0 [], .v (.int .i64 c)] [(dkT, dkv 1 γ (s + c.toNat) (s + c.toNat)), (vbT, .vb γ l)] [] [] (.v (.int .i64 0)) := by
  have hg := dnone_v γ n s l
  have h2 := Int.toNat_of_nonneg h0
  refine v_enter Try.func24 rfl (by kernel_rfl) (by show 2 ≤ 43; decide) ?_
  intro N w0 a w hN hR H
  simp only [dkv] at H hg
  repeat (first | refine wp_seq ?_ | refine wp_block ?_ | refine wp_skip ?_ | refine wp_exit ?_ | ((first | refine v_some 5 tab_ok hN H (by rfl) ct_Dk ?_ | refine v_more tab_ok hN H (by rfl) (by rfl) ct_Dk ?_); clear H; intro a w H; replace H := nf_Dk H; (try simp only [List.drop_succ_cons, List.drop_zero, List.drop_nil]); try refine wpList_nil ?_) | refine wp_region_lit ?_)
  refine v_call [0, 1] [] (hg) H rfl rfl (by rfl) (by simp [pickB, bxs, ren, idx?, List.idxOf_cons, sub_refl, sub, allP, dkv] <;> omega) (by first | rfl | (simp [dkv] <;> omega)) (by first | exact trivial | exact ⟨sub_refl _ _, trivial⟩ | exact ⟨sub_refl _ _, sub_refl _ _, trivial⟩ | exact ⟨sub_refl _ _, sub_refl _ _, sub_refl _ _, trivial⟩ | exact ⟨⟨rfl, sub_refl _ _, trivial⟩, sub_refl _ _, trivial⟩ | (simp [cargs, cargsG, St.ev, St.tmp, find, ren, idx?, sub_refl, sub, allP, resv, resC, bss, dkv] <;> omega)) ?_; clear H; intro a w H; replace H := nf_Dk H; first | (simp only [dkv] at H; replace H := nf_Dk H) | skip; try refine wpList_nil ?_
  repeat (first | refine wp_seq ?_ | refine wp_block ?_ | refine wp_skip ?_ | refine wp_exit ?_ | ((first | refine v_some 5 tab_ok hN H (by rfl) ct_Dk ?_ | refine v_more tab_ok hN H (by rfl) (by rfl) ct_Dk ?_); clear H; intro a w H; replace H := nf_Dk H; (try simp only [List.drop_succ_cons, List.drop_zero, List.drop_nil]); try refine wpList_nil ?_) | refine wp_region_lit ?_)
  refine v_cond H (by rfl) (fun hb => ?_) (fun hb => ?_)
  · simp at hb
  · repeat (first | refine wp_seq ?_ | refine wp_block ?_ | refine wp_skip ?_ | refine wp_exit ?_)
    repeat (first | refine wp_seq ?_ | refine wp_block ?_)
    refine v_draw 2 [] [] (by kernel_rfl) (by kernel_rfl) H (by rfl) (fun gS H => ?_); try replace H := nt_Dk H
    repeat (refine v_someT 5 tab_ok hN H (by rfl) ct_Dk ?_; clear H; intro a w H; replace H := nt_Dk H; simp only [List.drop_succ_cons, List.drop_zero, List.drop_nil])
    refine v_moreT tab_ok hN H (by rfl) ct_Dk ?_; clear H; intro a w H; try replace H := nt_Dk H
    refine v_drawNil H (fun H => ?_)
    repeat (first | refine wp_seq ?_ | refine wp_block ?_ | refine wp_skip ?_ | refine wp_exit ?_ | ((first | refine v_some 5 tab_ok hN H (by rfl) ct_Dk ?_ | refine v_more tab_ok hN H (by rfl) (by rfl) ct_Dk ?_); clear H; intro a w H; replace H := nf_Dk H; (try simp only [List.drop_succ_cons, List.drop_zero, List.drop_nil]); try refine wpList_nil ?_) | refine wp_region_lit ?_)
    refine v_cond H (by rfl) (fun hb => ?_) (fun hb => ?_)
    · simp at hb; omega
    · have e3 : (s : Int) + c = ((s + c.toNat : Nat) : Int) := by omega
      have e4 : ((s + c.toNat : Nat) : Int).toNat = s + c.toNat := by omega
      repeat (first | refine wp_seq ?_ | refine wp_block ?_ | refine wp_skip ?_ | refine wp_exit ?_)
      (try refine wp_region_lit ?_); refine v_steps 6 tab_ok hN H (by rfl) ct_Dk ?_; clear H; intro a w H; replace H := nf_Dk H
      repeat (first | refine wp_seq ?_ | refine wp_block ?_ | refine wp_skip ?_ | refine wp_exit ?_ | ((first | refine v_some 5 tab_ok hN H (by rfl) (by (try simp only [e3]); first | done | exact ct_Dk) ?_ | refine v_more tab_ok hN H (by rfl) (by rfl) (by (try simp only [e3]); first | done | exact ct_Dk) ?_); clear H; intro a w H; replace H := nf_Dk H; first | (simp only [e3] at H; replace H := nf_Dk H) | skip; (try simp only [List.drop_succ_cons, List.drop_zero, List.drop_nil]); try refine wpList_nil ?_) | refine wp_region_lit ?_)
      repeat (first | refine wp_seq ?_ | refine wp_block ?_)
      refine v_draw 0 [12] [] (by kernel_rfl) (by kernel_rfl) H (by rfl) (fun gS H => ?_); try replace H := nt_Dk H; first | (simp only [e4] at H; replace H := nt_Dk H) | skip
      repeat (refine v_someT 5 tab_ok hN H (by rfl) (by (try simp only [e4]); first | done | exact ct_Dk) ?_; clear H; intro a w H; replace H := nt_Dk H; first | (simp only [e4] at H; replace H := nt_Dk H) | skip; simp only [List.drop_succ_cons, List.drop_zero, List.drop_nil])
      refine v_moreT tab_ok hN H (by rfl) (by (try simp only [e4]); first | done | exact ct_Dk) ?_; clear H; intro a w H; try replace H := nt_Dk H; first | (simp only [e4] at H; replace H := nt_Dk H) | skip
      refine v_drawNil H (fun H => ?_)
      repeat (first | refine wp_seq ?_ | refine wp_block ?_ | refine wp_skip ?_ | refine wp_exit ?_ | ((first | refine v_some 5 tab_ok hN H (by rfl) (by (try simp only [e4]); first | done | exact ct_Dk) ?_ | refine v_more tab_ok hN H (by rfl) (by rfl) (by (try simp only [e4]); first | done | exact ct_Dk) ?_); clear H; intro a w H; replace H := nf_Dk H; first | (simp only [e4] at H; replace H := nf_Dk H) | skip; (try simp only [List.drop_succ_cons, List.drop_zero, List.drop_nil]); try refine wpList_nil ?_) | refine wp_region_lit ?_)
      refine wp_ret ?_
      exact v_end [0, 1] [] tab_ok ⟨hN, hR⟩ (rs := [.tmp 4]) (ress := [_]) rfl H (by rfl) (by rfl) (by simp [pickB, bxs, ren, idx?, List.idxOf_cons, sub_refl, sub, allP, dkv] <;> omega) (by first | rfl | (simp [dkv] <;> omega)) (by first | exact trivial | exact ⟨sub_refl _ _, trivial⟩ | exact ⟨sub_refl _ _, sub_refl _ _, trivial⟩ | exact ⟨sub_refl _ _, sub_refl _ _, sub_refl _ _, trivial⟩ | exact ⟨⟨rfl, sub_refl _ _, trivial⟩, sub_refl _ _, trivial⟩ | (simp [cargs, cargsG, St.ev, St.tmp, find, ren, idx?, sub_refl, sub, allP, resv, resC, bss, dkv] <;> omega)) rfl
theorem dcrash_no (γ n s : Nat) (c : Int) (l : List UInt8) (hn2 : n ≤ 1048576) (hs : s ≤ n) (h0 : c < 0 ∨ (n : Int) - (s : Int) < c) : VX Try.prog 24 [(dkT, dkv 1 γ n s), (vbT, .vb γ l)] [] [] [.ptr 0 [], .v (.int .i64 c)] [(dkT, dkv 1 γ n s), (vbT, .vb γ l)] [] [] (.v (.int .i64 2)) := by
  have hg := dnone_v γ n s l
  refine v_enter Try.func24 rfl (by kernel_rfl) (by show 2 ≤ 43; decide) ?_
  intro N w0 a w hN hR H
  simp only [dkv] at H hg
  repeat (first | refine wp_seq ?_ | refine wp_block ?_ | refine wp_skip ?_ | refine wp_exit ?_ | ((first | refine v_some 5 tab_ok hN H (by rfl) ct_Dk ?_ | refine v_more tab_ok hN H (by rfl) (by rfl) ct_Dk ?_); clear H; intro a w H; replace H := nf_Dk H; (try simp only [List.drop_succ_cons, List.drop_zero, List.drop_nil]); try refine wpList_nil ?_) | refine wp_region_lit ?_)
  refine v_call [0, 1] [] (hg) H rfl rfl (by rfl) (by simp [pickB, bxs, ren, idx?, List.idxOf_cons, sub_refl, sub, allP, dkv] <;> omega) (by first | rfl | (simp [dkv] <;> omega)) (by first | exact trivial | exact ⟨sub_refl _ _, trivial⟩ | exact ⟨sub_refl _ _, sub_refl _ _, trivial⟩ | exact ⟨sub_refl _ _, sub_refl _ _, sub_refl _ _, trivial⟩ | exact ⟨⟨rfl, sub_refl _ _, trivial⟩, sub_refl _ _, trivial⟩ | (simp [cargs, cargsG, St.ev, St.tmp, find, ren, idx?, sub_refl, sub, allP, resv, resC, bss, dkv] <;> omega)) ?_; clear H; intro a w H; replace H := nf_Dk H; first | (simp only [dkv] at H; replace H := nf_Dk H) | skip; try refine wpList_nil ?_
  repeat (first | refine wp_seq ?_ | refine wp_block ?_ | refine wp_skip ?_ | refine wp_exit ?_ | ((first | refine v_some 5 tab_ok hN H (by rfl) ct_Dk ?_ | refine v_more tab_ok hN H (by rfl) (by rfl) ct_Dk ?_); clear H; intro a w H; replace H := nf_Dk H; (try simp only [List.drop_succ_cons, List.drop_zero, List.drop_nil]); try refine wpList_nil ?_) | refine wp_region_lit ?_)
  refine v_cond H (by rfl) (fun hb => ?_) (fun hb => ?_)
  · simp at hb
  · repeat (first | refine wp_seq ?_ | refine wp_block ?_ | refine wp_skip ?_ | refine wp_exit ?_)
    repeat (first | refine wp_seq ?_ | refine wp_block ?_)
    refine v_draw 2 [] [] (by kernel_rfl) (by kernel_rfl) H (by rfl) (fun gS H => ?_); try replace H := nt_Dk H
    repeat (refine v_someT 5 tab_ok hN H (by rfl) ct_Dk ?_; clear H; intro a w H; replace H := nt_Dk H; simp only [List.drop_succ_cons, List.drop_zero, List.drop_nil])
    refine v_moreT tab_ok hN H (by rfl) ct_Dk ?_; clear H; intro a w H; try replace H := nt_Dk H
    refine v_drawNil H (fun H => ?_)
    repeat (first | refine wp_seq ?_ | refine wp_block ?_ | refine wp_skip ?_ | refine wp_exit ?_ | ((first | refine v_some 5 tab_ok hN H (by rfl) ct_Dk ?_ | refine v_more tab_ok hN H (by rfl) (by rfl) ct_Dk ?_); clear H; intro a w H; replace H := nf_Dk H; (try simp only [List.drop_succ_cons, List.drop_zero, List.drop_nil]); try refine wpList_nil ?_) | refine wp_region_lit ?_)
    refine v_cond H (by rfl) (fun hb => ?_) (fun hb => ?_)
    · repeat (first | refine wp_seq ?_ | refine wp_block ?_ | refine wp_skip ?_ | refine wp_exit ?_ | ((first | refine v_some 5 tab_ok hN H (by rfl) ct_Dk ?_ | refine v_more tab_ok hN H (by rfl) (by rfl) ct_Dk ?_); clear H; intro a w H; replace H := nf_Dk H; (try simp only [List.drop_succ_cons, List.drop_zero, List.drop_nil]); try refine wpList_nil ?_) | refine wp_region_lit ?_)
      refine wp_ret ?_
      exact v_end [0, 1] [] tab_ok ⟨hN, hR⟩ (rs := [.tmp 4]) (ress := [_]) rfl H (by rfl) (by rfl) (by simp [pickB, bxs, ren, idx?, List.idxOf_cons, sub_refl, sub, allP, dkv] <;> omega) (by first | rfl | (simp [dkv] <;> omega)) (by first | exact trivial | exact ⟨sub_refl _ _, trivial⟩ | exact ⟨sub_refl _ _, sub_refl _ _, trivial⟩ | exact ⟨sub_refl _ _, sub_refl _ _, sub_refl _ _, trivial⟩ | exact ⟨⟨rfl, sub_refl _ _, trivial⟩, sub_refl _ _, trivial⟩ | (simp [cargs, cargsG, St.ev, St.tmp, find, ren, idx?, sub_refl, sub, allP, resv, resC, bss, dkv] <;> omega)) rfl
    · simp at hb; omega
end Go.Proofs.Ytpeefeioccglcaa
/- A region that draws its order, in which one loud operation (new memory) may come up before or behind another one (a call): both are walked. -/
namespace Go.Proofs.Ytpeefeioccglcaa
open Go
section
variable {P : Program} {ops : Array Oper} {Q : Exit → Act → World → Prop} {S : World → Prop} {L A : List Nat} {c f : Nat}
/-- Which operations are listed: those below k; f besides. -/
def Upto (n : Nat) (k : Nat) (x : Bool) (f : Nat) (listed : Array Bool) : Prop := listed.size = n ∧ ∀ i, i < n → ∀ d, listed.getD i d = (decide (i < k) || (x && i == f))
theorem Upto.set {n k f : Nat} {x : Bool} {listed : Array Bool} (h : Upto n k x f listed) (hk : k < n) : Upto n (k + 1) x f (listed.setIfInBounds k true) := by
  refine ⟨by simpa using h.1, fun i hi d => ?_⟩
  by_cases hik : k = i
  · subst hik; simp [h.1, hk]
  · rw [getD_set_ne d hik, h.2 i hi d]
    congr 1
    simp; omega
end
section
variable {P : Program} {τ : Tab} {w0 w : World} {N : Gh} {g gS : Gh} {st st' sq sq' : St} {nt : Nat} {a : Act}
end
end Go.Proofs.Ytpeefeioccglcaa
/- The document's disk. -/
namespace Go.Proofs.Ytpeefeioccglcaa
open Go Go.RowKit
/-- The state made plain. -/
theorem nf_Rk {P : Program} {w0 w : World} {N : Gh} {nt : Nat} {st s2 : St} {a : Act} (H : Rel P w0 N nt st a w) (h : st = s2 := by (try simp only [pk, elemB, St.put, St.ev, St.tmp, St.keep, find, dropT, slots, AV.put, AV.loc, fitI, convI, IntKind.signed, IntKind.bits, strip, St.lose, mergeL, setAll, nth, renB, ren, idx?, sub, allP, low, bnd, Int.reduceEq, Nat.reduceAdd, Nat.reduceLT, reduceIte, reduceCtorEq, Nat.reduceEqDiff, Nat.reduceLeDiff, Nat.reduceBEq, Int.reducePow, Int.reduceToNat, ti22_t, ti22_z, ti5_t, ti5_z, ti180_t, ti180_z, ti182_t, ti182_z]); rfl) : Rel P w0 N nt s2 a w := h ▸ H
theorem nt_Rk {P : Program} {w0 w : World} {N gS : Gh} {nt : Nat} {q q2 st s2 : St} {a : Act} (H : RelT P w0 N nt gS q st a w) (h1 : q = q2 := by (try simp only [pk, elemB, St.put, St.ev, St.tmp, St.keep, find, dropT, slots, AV.put, AV.loc, fitI, convI, IntKind.signed, IntKind.bits, strip, St.lose, mergeL, setAll, nth, renB, ren, idx?, sub, allP, low, bnd, Int.reduceEq, Nat.reduceAdd, Nat.reduceLT, reduceIte, reduceCtorEq, Nat.reduceEqDiff, Nat.reduceLeDiff, Nat.reduceBEq, Int.reducePow, Int.reduceToNat, ti22_t, ti22_z, ti5_t, ti5_z, ti180_t, ti180_z, ti182_t, ti182_z]); rfl) (h : st = s2 := by (try simp only [pk, elemB, St.put, St.ev, St.tmp, St.keep, find, dropT, slots, AV.put, AV.loc, fitI, convI, IntKind.signed, IntKind.bits, strip, St.lose, mergeL, setAll, nth, renB, ren, idx?, sub, allP, low, bnd, Int.reduceEq, Nat.reduceAdd, Nat.reduceLT, reduceIte, reduceCtorEq, Nat.reduceEqDiff, Nat.reduceLeDiff, Nat.reduceBEq, Int.reducePow, Int.reduceToNat, ti22_t, ti22_z, ti5_t, ti5_z, ti180_t, ti180_z, ti182_t, ti182_z]); rfl) : RelT P w0 N nt gS q2 s2 a w := h1 ▸ h ▸ H
theorem ct_Rk {c : Prop} (h : c := by ((try simp only [pk, elemB, St.put, St.ev, St.tmp, St.keep, find, dropT, slots, AV.put, AV.loc, fitI, convI, IntKind.signed, IntKind.bits, strip, St.lose, mergeL, setAll, nth, renB, ren, idx?, sub, allP, low, bnd, Int.reduceEq, Nat.reduceAdd, Nat.reduceLT, reduceIte, reduceCtorEq, Nat.reduceEqDiff, Nat.reduceLeDiff, Nat.reduceBEq, Int.reducePow, Int.reduceToNat, ti22_t, ti22_z, ti5_t, ti5_z, ti180_t, ti180_z, ti182_t, ti182_z, ti22, ti5, ti180, ti182, fit, gcond, ilo, ihi]); first | done | exact cd | exact cd2 | skip)) : c := h
theorem rof_v (l : List UInt8) (hl : l.length ≤ 1048576) : VX Try.prog 17 [] [] [] [.bs l none] [(rkT, rkv l l.length)] [] [] (.tup [.ptr 0 [], .v (.int .i64 0)]) := by
  refine v_enter Try.func17 rfl (by kernel_rfl) (by show 1 ≤ 15; decide) ?_
  intro N w0 a w hN hR H
  repeat (first | refine wp_seq ?_ | refine wp_block ?_ | refine wp_skip ?_ | refine wp_exit ?_ | ((first | refine v_some 5 tab_ok hN H (by rfl) ct_Rk ?_ | refine v_more tab_ok hN H (by rfl) (by rfl) ct_Rk ?_); clear H; intro a w H; replace H := nf_Rk H; (try simp only [List.drop_succ_cons, List.drop_zero, List.drop_nil]); try refine wpList_nil ?_) | refine wp_region_lit ?_)
  refine v_cond H (by rfl) (fun hb => ?_) (fun hb => ?_)
  · simp at hb; omega
  · repeat (first | refine wp_seq ?_ | refine wp_block ?_ | refine wp_skip ?_ | refine wp_exit ?_ | ((first | refine v_some 5 tab_ok hN H (by rfl) ct_Rk ?_ | refine v_more tab_ok hN H (by rfl) (by rfl) ct_Rk ?_); clear H; intro a w H; replace H := nf_Rk H; (try simp only [List.drop_succ_cons, List.drop_zero, List.drop_nil]); try refine wpList_nil ?_) | refine wp_region_lit ?_)
    refine wp_ret ?_
    exact v_end [0] [] tab_ok ⟨hN, hR⟩ (rs := [.tmp 2, .tmp 3]) (ress := [_, _]) rfl H (by rfl) (by rfl) (by simp [pickB, bxs, ren, idx?, List.idxOf_cons, sub_refl, sub, allP, rkv] <;> omega) (by first | rfl | (simp [rkv] <;> omega)) (by first | exact trivial | exact ⟨sub_refl _ _, trivial⟩ | exact ⟨sub_refl _ _, sub_refl _ _, trivial⟩ | exact ⟨sub_refl _ _, sub_refl _ _, sub_refl _ _, trivial⟩ | exact ⟨⟨rfl, sub_refl _ _, trivial⟩, sub_refl _ _, trivial⟩ | (simp [cargs, cargsG, St.ev, St.tmp, find, ren, idx?, sub_refl, sub, allP, resv, resC, bss, rkv] <;> omega)) rfl
theorem rsync_v (l : List UInt8) (s : Nat) (hl : l.length ≤ 1048576) : VX Try.prog 23 [(rkT, rkv l s)] [] [] [.ptr 0 []] [(rkT, rkv l l.length)] [] [] (.v (.int .i64 0)) := by
  refine v_enter Try.func23 rfl (by kernel_rfl) (by show 1 ≤ 11; decide) ?_
  intro N w0 a w hN hR H
  simp only [rkv] at H
  repeat (first | refine wp_seq ?_ | refine wp_block ?_ | refine wp_skip ?_ | refine wp_exit ?_ | ((first | refine v_some 5 tab_ok hN H (by rfl) ct_Rk ?_ | refine v_more tab_ok hN H (by rfl) (by rfl) ct_Rk ?_); clear H; intro a w H; replace H := nf_Rk H; (try simp only [List.drop_succ_cons, List.drop_zero, List.drop_nil]); try refine wpList_nil ?_) | refine wp_region_lit ?_)
  refine wp_ret ?_
  exact v_end [0] [] tab_ok ⟨hN, hR⟩ (rs := [.tmp 2]) (ress := [_]) rfl H (by rfl) (by rfl) (by simp [pickB, bxs, ren, idx?, List.idxOf_cons, sub_refl, sub, allP, rkv] <;> omega) (by first | rfl | (simp [rkv] <;> omega)) (by first | exact trivial | exact ⟨sub_refl _ _, trivial⟩ | exact ⟨sub_refl _ _, sub_refl _ _, trivial⟩ | exact ⟨sub_refl _ _, sub_refl _ _, sub_refl _ _, trivial⟩ | exact ⟨⟨rfl, sub_refl _ _, trivial⟩, sub_refl _ _, trivial⟩ | (simp [cargs, cargsG, St.ev, St.tmp, find, ren, idx?, sub_refl, sub, allP, resv, resC, bss, rkv] <;> omega)) rfl
theorem rappend_ok (l t : List UInt8) (s : Nat) (hn2 : l.length + t.length ≤ 1048576) : VX Try.prog 19 [(rkT, rkv l s)] [] [] [.ptr 0 [], .bs t none] [(rkT, rkv (l ++ t) s)] [] [] (.v (.int .i64 0)) := by
  refine v_enter Try.func19 rfl (by kernel_rfl) (by show 2 ≤ 26; decide) ?_
  intro N w0 a w hN hR H
  simp only [rkv] at H
  repeat (first | refine wp_seq ?_ | refine wp_block ?_ | refine wp_skip ?_ | refine wp_exit ?_ | ((first | refine v_some 5 tab_ok hN H (by rfl) ct_Rk ?_ | refine v_more tab_ok hN H (by rfl) (by rfl) ct_Rk ?_); clear H; intro a w H; replace H := nf_Rk H; (try simp only [List.drop_succ_cons, List.drop_zero, List.drop_nil]); try refine wpList_nil ?_) | refine wp_region_lit ?_)
  refine v_cond H (by rfl) (fun hb => ?_) (fun hb => ?_)
  · simp at hb; omega
  · repeat (first | refine wp_seq ?_ | refine wp_block ?_ | refine wp_skip ?_ | refine wp_exit ?_ | ((first | refine v_some 5 tab_ok hN H (by rfl) ct_Rk ?_ | refine v_more tab_ok hN H (by rfl) (by rfl) ct_Rk ?_); clear H; intro a w H; replace H := nf_Rk H; (try simp only [List.drop_succ_cons, List.drop_zero, List.drop_nil]); try refine wpList_nil ?_) | refine wp_region_lit ?_)
    refine wp_ret ?_
    exact v_end [0] [] tab_ok ⟨hN, hR⟩ (rs := [.tmp 4]) (ress := [_]) rfl H (by rfl) (by rfl) (by simp [pickB, bxs, ren, idx?, List.idxOf_cons, sub_refl, sub, allP, rkv] <;> omega) (by first | rfl | (simp [rkv] <;> omega)) (by first | exact trivial | exact ⟨sub_refl _ _, trivial⟩ | exact ⟨sub_refl _ _, sub_refl _ _, trivial⟩ | exact ⟨sub_refl _ _, sub_refl _ _, sub_refl _ _, trivial⟩ | exact ⟨⟨rfl, sub_refl _ _, trivial⟩, sub_refl _ _, trivial⟩ | (simp [cargs, cargsG, St.ev, St.tmp, find, ren, idx?, sub_refl, sub, allP, resv, resC, bss, rkv] <;> omega)) rfl
theorem rappend_no (l t : List UInt8) (s : Nat) (hl : l.length ≤ 1048576) (ht : t.length ≤ 34359738000) (hn2 : 1048576 < l.length + t.length) : VX Try.prog 19 [(rkT, rkv l s)] [] [] [.ptr 0 [], .bs t none] [(rkT, rkv l s)] [] [] (.v (.int .i64 4)) := by
  refine v_enter Try.func19 rfl (by kernel_rfl) (by show 2 ≤ 26; decide) ?_
  intro N w0 a w hN hR H
  simp only [rkv] at H
  repeat (first | refine wp_seq ?_ | refine wp_block ?_ | refine wp_skip ?_ | refine wp_exit ?_ | ((first | refine v_some 5 tab_ok hN H (by rfl) ct_Rk ?_ | refine v_more tab_ok hN H (by rfl) (by rfl) ct_Rk ?_); clear H; intro a w H; replace H := nf_Rk H; (try simp only [List.drop_succ_cons, List.drop_zero, List.drop_nil]); try refine wpList_nil ?_) | refine wp_region_lit ?_)
  refine v_cond H (by rfl) (fun hb => ?_) (fun hb => ?_)
  · repeat (first | refine wp_seq ?_ | refine wp_block ?_ | refine wp_skip ?_ | refine wp_exit ?_ | ((first | refine v_some 5 tab_ok hN H (by rfl) ct_Rk ?_ | refine v_more tab_ok hN H (by rfl) (by rfl) ct_Rk ?_); clear H; intro a w H; replace H := nf_Rk H; (try simp only [List.drop_succ_cons, List.drop_zero, List.drop_nil]); try refine wpList_nil ?_) | refine wp_region_lit ?_)
    refine wp_ret ?_
    exact v_end [0] [] tab_ok ⟨hN, hR⟩ (rs := [.tmp 4]) (ress := [_]) rfl H (by rfl) (by rfl) (by simp [pickB, bxs, ren, idx?, List.idxOf_cons, sub_refl, sub, allP, rkv] <;> omega) (by first | rfl | (simp [rkv] <;> omega)) (by first | exact trivial | exact ⟨sub_refl _ _, trivial⟩ | exact ⟨sub_refl _ _, sub_refl _ _, trivial⟩ | exact ⟨sub_refl _ _, sub_refl _ _, sub_refl _ _, trivial⟩ | exact ⟨⟨rfl, sub_refl _ _, trivial⟩, sub_refl _ _, trivial⟩ | (simp [cargs, cargsG, St.ev, St.tmp, find, ren, idx?, sub_refl, sub, allP, resv, resC, bss, rkv] <;> omega)) rfl
  · simp at hb; omega
theorem rcut_ok (l : List UInt8) (s : Nat) (c : Int) (hn2 : l.length ≤ 1048576) (hs : s ≤ l.length) (h0 : 0 ≤ c) (h1 : c ≤ (l.length : Int)) : VX Try.prog 21 [(rkT, rkv l s)] [] [] [.ptr 0 [], .v (.int .i64 c)] [(rkT, rkv (l.take c.toNat) (min s c.toNat))] [] [] (.v (.int .i64 0)) := by
  have h2 := Int.toNat_of_nonneg h0
  have e3 : (if c < (s : Int) then c else (s : Int)) = ((min s c.toNat : Nat) : Int) := by omega
  refine v_enter Try.func21 rfl (by kernel_rfl) (by show 2 ≤ 34; decide) ?_
  intro N w0 a w hN hR H
  simp only [rkv] at H
  repeat (first | refine wp_seq ?_ | refine wp_block ?_ | refine wp_skip ?_ | refine wp_exit ?_ | ((first | refine v_some 5 tab_ok hN H (by rfl) ct_Rk ?_ | refine v_more tab_ok hN H (by rfl) (by rfl) ct_Rk ?_); clear H; intro a w H; replace H := nf_Rk H; (try simp only [List.drop_succ_cons, List.drop_zero, List.drop_nil]); try refine wpList_nil ?_) | refine wp_region_lit ?_)
  refine v_cond H (by rfl) (fun hb => ?_) (fun hb => ?_)
  · simp at hb; omega
  · repeat (first | refine wp_seq ?_ | refine wp_block ?_ | refine wp_skip ?_ | refine wp_exit ?_ | ((first | refine v_some 5 tab_ok hN H (by rfl) ct_Rk ?_ | refine v_more tab_ok hN H (by rfl) (by rfl) ct_Rk ?_); clear H; intro a w H; replace H := nf_Rk H; (try simp only [List.drop_succ_cons, List.drop_zero, List.drop_nil]); try refine wpList_nil ?_) | refine wp_region_lit ?_)
    refine wp_ret ?_
    exact v_end [0] [] tab_ok ⟨hN, hR⟩ (rs := [.tmp 4]) (ress := [_]) rfl H (by rfl) (by rfl) (by simp [pickB, bxs, ren, idx?, List.idxOf_cons, sub_refl, sub, allP, rkv, e3] <;> omega) (by first | rfl | (simp [rkv, e3] <;> omega)) (by first | exact trivial | exact ⟨sub_refl _ _, trivial⟩ | exact ⟨sub_refl _ _, sub_refl _ _, trivial⟩ | exact ⟨sub_refl _ _, sub_refl _ _, sub_refl _ _, trivial⟩ | exact ⟨⟨rfl, sub_refl _ _, trivial⟩, sub_refl _ _, trivial⟩ | (simp [cargs, cargsG, St.ev, St.tmp, find, ren, idx?, sub_refl, sub, allP, resv, resC, bss, rkv, e3] <;> omega)) rfl
theorem rcut_no (l : List UInt8) (s : Nat) (c : Int) (hn2 : l.length ≤ 1048576) (h0 : c < 0 ∨ (l.length : Int) < c) : VX Try.prog 21 [(rkT, rkv l s)] [] [] [.ptr 0 [], .v (.int .i64 c)] [(rkT, rkv l s)] [] [] (.v (.int .i64 2)) := by
  refine v_enter Try.func21 rfl (by kernel_rfl) (by show 2 ≤ 34; decide) ?_
  intro N w0 a w hN hR H
  simp only [rkv] at H
  repeat (first | refine wp_seq ?_ | refine wp_block ?_ | refine wp_skip ?_ | refine wp_exit ?_ | ((first | refine v_some 5 tab_ok hN H (by rfl) ct_Rk ?_ | refine v_more tab_ok hN H (by rfl) (by rfl) ct_Rk ?_); clear H; intro a w H; replace H := nf_Rk H; (try simp only [List.drop_succ_cons, List.drop_zero, List.drop_nil]); try refine wpList_nil ?_) | refine wp_region_lit ?_)
  refine v_cond H (by rfl) (fun hb => ?_) (fun hb => ?_)
  · repeat (first | refine wp_seq ?_ | refine wp_block ?_ | refine wp_skip ?_ | refine wp_exit ?_ | ((first | refine v_some 5 tab_ok hN H (by rfl) ct_Rk ?_ | refine v_more tab_ok hN H (by rfl) (by rfl) ct_Rk ?_); clear H; intro a w H; replace H := nf_Rk H; (try simp only [List.drop_succ_cons, List.drop_zero, List.drop_nil]); try refine wpList_nil ?_) | refine wp_region_lit ?_)
    refine wp_ret ?_
    exact v_end [0] [] tab_ok ⟨hN, hR⟩ (rs := [.tmp 4]) (ress := [_]) rfl H (by rfl) (by rfl) (by simp [pickB, bxs, ren, idx?, List.idxOf_cons, sub_refl, sub, allP, rkv] <;> omega) (by first | rfl | (simp [rkv] <;> omega)) (by first | exact trivial | exact ⟨sub_refl _ _, trivial⟩ | exact ⟨sub_refl _ _, sub_refl _ _, trivial⟩ | exact ⟨sub_refl _ _, sub_refl _ _, sub_refl _ _, trivial⟩ | exact ⟨⟨rfl, sub_refl _ _, trivial⟩, sub_refl _ _, trivial⟩ | (simp [cargs, cargsG, St.ev, St.tmp, find, ren, idx?, sub_refl, sub, allP, resv, resC, bss, rkv] <;> omega)) rfl
  · simp at hb; omega
theorem rcrash_ok (l : List UInt8) (s : Nat) (c : Int) (hn2 : l.length ≤ 1048576) (hs : s ≤ l.length) (h0 : 0 ≤ c) (h1 : c ≤ (l.length : Int) - (s : Int)) : VX Try.prog 25 [(rkT, rkv l s)] [] [] [.ptr 0 [], .v (.int .i64 c)] [(rkT, rkv (l.take (s + c.toNat)) (s + c.toNat))] [] [] (.v (.int .i64 0)) := by
  have h2 := Int.toNat_of_nonneg h0
  have e3 : (s : Int) + c = ((s + c.toNat : Nat) : Int) := by omega
  have e4 : ((s + c.toNat : Nat) : Int).toNat = s + c.toNat := by omega
  have e5 : (l.take (s + c.toNat)).length = s + c.toNat := by rw [List.length_take]; omega
  refine v_enter Try.func25 rfl (by kernel_rfl) (by show 2 ≤ 43; decide) ?_
  intro N w0 a w hN hR H
  simp only [rkv] at H
  repeat (first | refine wp_seq ?_ | refine wp_block ?_ | refine wp_skip ?_ | refine wp_exit ?_ | ((first | refine v_some 5 tab_ok hN H (by rfl) ct_Rk ?_ | refine v_more tab_ok hN H (by rfl) (by rfl) ct_Rk ?_); clear H; intro a w H; replace H := nf_Rk H; (try simp only [List.drop_succ_cons, List.drop_zero, List.drop_nil]); try refine wpList_nil ?_) | refine wp_region_lit ?_)
  repeat (first | refine wp_seq ?_ | refine wp_block ?_)
  refine v_draw 1 [] [] (by kernel_rfl) (by kernel_rfl) H (by rfl) (fun gS H => ?_); try replace H := nt_Rk H
  repeat (refine v_someT 5 tab_ok hN H (by rfl) ct_Rk ?_; clear H; intro a w H; replace H := nt_Rk H; simp only [List.drop_succ_cons, List.drop_zero, List.drop_nil])
  refine v_moreT tab_ok hN H (by rfl) ct_Rk ?_; clear H; intro a w H; try replace H := nt_Rk H
  refine v_drawNil H (fun H => ?_)
  repeat (first | refine wp_seq ?_ | refine wp_block ?_ | refine wp_skip ?_ | refine wp_exit ?_ | ((first | refine v_some 5 tab_ok hN H (by rfl) ct_Rk ?_ | refine v_more tab_ok hN H (by rfl) (by rfl) ct_Rk ?_); clear H; intro a w H; replace H := nf_Rk H; (try simp only [List.drop_succ_cons, List.drop_zero, List.drop_nil]); try refine wpList_nil ?_) | refine wp_region_lit ?_)
  refine v_cond H (by rfl) (fun hb => ?_) (fun hb => ?_)
  · simp at hb; omega
  · repeat (first | refine wp_seq ?_ | refine wp_block ?_ | refine wp_skip ?_ | refine wp_exit ?_)
    repeat (first | refine wp_seq ?_ | refine wp_block ?_)
    refine v_draw 0 [14] [] (by kernel_rfl) (by kernel_rfl) H (by rfl) (fun gS H => ?_); try replace H := nt_Rk H; first | (simp only [e3, e4] at H; replace H := nt_Rk H) | skip
    repeat (refine v_someT 5 tab_ok hN H (by rfl) (by (try simp only [e3, e4]); first | done | exact ct_Rk) ?_; clear H; intro a w H; replace H := nt_Rk H; first | (simp only [e3, e4] at H; replace H := nt_Rk H) | skip; simp only [List.drop_succ_cons, List.drop_zero, List.drop_nil])
    refine v_moreT tab_ok hN H (by rfl) (by (try simp only [e3, e4]); first | done | exact ct_Rk) ?_; clear H; intro a w H; try replace H := nt_Rk H; first | (simp only [e3, e4] at H; replace H := nt_Rk H) | skip
    refine v_drawNil H (fun H => ?_)
    repeat (first | refine wp_seq ?_ | refine wp_block ?_ | refine wp_skip ?_ | refine wp_exit ?_ | ((first | refine v_some 5 tab_ok hN H (by rfl) (by (try simp only [e5]); first | done | exact ct_Rk) ?_ | refine v_more tab_ok hN H (by rfl) (by rfl) (by (try simp only [e5]); first | done | exact ct_Rk) ?_); clear H; intro a w H; replace H := nf_Rk H; first | (simp only [e5] at H; replace H := nf_Rk H) | skip; (try simp only [List.drop_succ_cons, List.drop_zero, List.drop_nil]); try refine wpList_nil ?_) | refine wp_region_lit ?_)
    refine wp_ret ?_
    exact v_end [0] [] tab_ok ⟨hN, hR⟩ (rs := [.tmp 4]) (ress := [_]) rfl H (by rfl) (by rfl) (by simp [pickB, bxs, ren, idx?, List.idxOf_cons, sub_refl, sub, allP, rkv, e5] <;> omega) (by first | rfl | (simp [rkv, e5] <;> omega)) (by first | exact trivial | exact ⟨sub_refl _ _, trivial⟩ | exact ⟨sub_refl _ _, sub_refl _ _, trivial⟩ | exact ⟨sub_refl _ _, sub_refl _ _, sub_refl _ _, trivial⟩ | exact ⟨⟨rfl, sub_refl _ _, trivial⟩, sub_refl _ _, trivial⟩ | (simp [cargs, cargsG, St.ev, St.tmp, find, ren, idx?, sub_refl, sub, allP, resv, resC, bss, rkv, e5] <;> omega)) rfl
theorem rcrash_no (l : List UInt8) (s : Nat) (c : Int) (hn2 : l.length ≤ 1048576) (hs : s ≤ l.length) (h0 : c < 0 ∨ (l.length : Int) - (s : Int) < c) : VX Try.prog 25 [(rkT, rkv l s)] [] [] [.ptr 0 [], .v (.int .i64 c)] [(rkT, rkv l s)] [] [] (.v (.int .i64 2)) := by
  refine v_enter Try.func25 rfl (by kernel_rfl) (by show 2 ≤ 43; decide) ?_
  intro N w0 a w hN hR H
  simp only [rkv] at H
  repeat (first | refine wp_seq ?_ | refine wp_block ?_ | refine wp_skip ?_ | refine wp_exit ?_ | ((first | refine v_some 5 tab_ok hN H (by rfl) ct_Rk ?_ | refine v_more tab_ok hN H (by rfl) (by rfl) ct_Rk ?_); clear H; intro a w H; replace H := nf_Rk H; (try simp only [List.drop_succ_cons, List.drop_zero, List.drop_nil]); try refine wpList_nil ?_) | refine wp_region_lit ?_)
  repeat (first | refine wp_seq ?_ | refine wp_block ?_)
  refine v_draw 1 [] [] (by kernel_rfl) (by kernel_rfl) H (by rfl) (fun gS H => ?_); try replace H := nt_Rk H
  repeat (refine v_someT 5 tab_ok hN H (by rfl) ct_Rk ?_; clear H; intro a w H; replace H := nt_Rk H; simp only [List.drop_succ_cons, List.drop_zero, List.drop_nil])
  refine v_moreT tab_ok hN H (by rfl) ct_Rk ?_; clear H; intro a w H; try replace H := nt_Rk H
  refine v_drawNil H (fun H => ?_)
  repeat (first | refine wp_seq ?_ | refine wp_block ?_ | refine wp_skip ?_ | refine wp_exit ?_ | ((first | refine v_some 5 tab_ok hN H (by rfl) ct_Rk ?_ | refine v_more tab_ok hN H (by rfl) (by rfl) ct_Rk ?_); clear H; intro a w H; replace H := nf_Rk H; (try simp only [List.drop_succ_cons, List.drop_zero, List.drop_nil]); try refine wpList_nil ?_) | refine wp_region_lit ?_)
  refine v_cond H (by rfl) (fun hb => ?_) (fun hb => ?_)
  · repeat (first | refine wp_seq ?_ | refine wp_block ?_ | refine wp_skip ?_ | refine wp_exit ?_ | ((first | refine v_some 5 tab_ok hN H (by rfl) ct_Rk ?_ | refine v_more tab_ok hN H (by rfl) (by rfl) ct_Rk ?_); clear H; intro a w H; replace H := nf_Rk H; (try simp only [List.drop_succ_cons, List.drop_zero, List.drop_nil]); try refine wpList_nil ?_) | refine wp_region_lit ?_)
    refine wp_ret ?_
    exact v_end [0] [] tab_ok ⟨hN, hR⟩ (rs := [.tmp 4]) (ress := [_]) rfl H (by rfl) (by rfl) (by simp [pickB, bxs, ren, idx?, List.idxOf_cons, sub_refl, sub, allP, rkv] <;> omega) (by first | rfl | (simp [rkv] <;> omega)) (by first | exact trivial | exact ⟨sub_refl _ _, trivial⟩ | exact ⟨sub_refl _ _, sub_refl _ _, trivial⟩ | exact ⟨sub_refl _ _, sub_refl _ _, sub_refl _ _, trivial⟩ | exact ⟨⟨rfl, sub_refl _ _, trivial⟩, sub_refl _ _, trivial⟩ | (simp [cargs, cargsG, St.ev, St.tmp, find, ren, idx?, sub_refl, sub, allP, resv, resC, bss, rkv] <;> omega)) rfl
  · simp at hb; omega
end Go.Proofs.Ytpeefeioccglcaa
/- Rows of slices turned round in place; regions in every order of their loud operations. -/
namespace Go.Proofs.Ytpeefeioccglcaa
open Go Go.RowKit
abbrev OneV := { v : Value // v.oneCell' = true }
instance : Inhabited OneV := ⟨⟨.bool false, rfl⟩⟩
end Go.Proofs.Ytpeefeioccglcaa
namespace Go.Proofs.Ytpeefeioccglcaa
open Go Go.RowKit
/-- Values that lean on no cell but bytes. -/
def leafA : AV → Bool
  | .v _ => true
  | .ba _ => true
  | .bs _ none => true
  | .bc _ _ none => true
  | .ptr _ _ => true
  | .pti _ _ _ => true
  | .win _ _ _ _ => true
  | .vw _ _ _ => true
  | .pv _ _ _ _ => true
  | .mr _ => true
  | .ref (.ba _) (.ba _) => true
  | .any => true
  | _ => false
def plainA : Nat → AV → Bool
  | d + 1, .st fs => fs.all (plainA d)
  | d + 1, .tup fs => fs.all (plainA d)
  | _, a => leafA a
theorem RC.plain {g g2 : Gh} (hro : ∀ b o c, g.ro b o = some (B8 c) → g2.ro b o = some (B8 c)) (hbx : g2.bx = g.bx) : ∀ {d : Nat} {T : Ty} {a : AV} {cs : List Value}, RC g T a cs → plainA d a = true → RC g2 T a cs := by
  intro d
  have leaf : ∀ {T : Ty} {a : AV} {cs : List Value}, RC g T a cs → leafA a = true → RC g2 T a cs := by
    intro T a cs h hp
    cases h with
    | v h => exact .v h
    | ba h => exact .ba h
    | nl => simp [leafA] at hp
    | cn h hs => simp [leafA] at hp
    | bs hc hm hr ht =>
      rename_i l tok A c
      cases tok with
      | some j => simp [leafA] at hp
      | none =>
        refine .bs hc hm ?_ fun i hi => by cases hi
        rcases hr with h | ⟨b, o, hA, hj⟩
        · exact .inl h
        · exact .inr ⟨b, o, hA, fun j hj' => hro _ _ _ (hj j hj')⟩
    | sl hc hm F hr hv ht => simp [leafA] at hp
    | ptr h ho => exact .ptr (by rw [hbx]; exact h) ho
    | pti h ho hk => exact .pti (by rw [hbx]; exact h) ho hk
    | win h ho hn hc hm hA => exact .win (by rw [hbx]; exact h) ho hn hc hm hA
    | vw h hT hg hn hm hx => exact .vw (by rw [hbx]; exact h) hT hg hn hm hx
    | pv h hT hg ho hx => exact .pv (by rw [hbx]; exact h) hT hg ho hx
    | mr h hT => exact .mr (by rw [hbx]; exact h) hT
    | bc hn hm hr ht =>
      rename_i l n tok A
      cases tok with
      | some j => simp [leafA] at hp
      | none =>
        refine .bc hn hm ?_ fun i hi => by cases hi
        rcases hr with h | ⟨b, o, hA, hj⟩
        · exact .inl h
        · exact .inr ⟨b, o, hA, fun j hj' => hro _ _ _ (hj j hj')⟩
    | ref cs h hr =>
      cases h with
      | ba h =>
        rename_i n l
        refine .ref (l.map B8) (.ba h) fun j u hu => ?_
        have := hr j u hu
        simp only [List.getElem?_map, Option.map_eq_some_iff] at hu
        obtain ⟨c, _, rfl⟩ := hu
        exact hro _ _ _ this
      | _ => simp [leafA] at hp
  induction d with
  | zero => exact fun {T a cs} h hp => leaf h (by cases a <;> exact hp)
  | succ d ih =>
    intro T a cs h hp
    have key : ∀ {T : Ty} {cs : List Value} {fs : List AV}, RC g T (.st fs) cs → fs.all (plainA d) = true → RC g2 T (.st fs) cs := by
      intro T
      induction T with
      | cn T Ts _ ihs =>
        intro cs fs h hp
        cases h with
        | cn h hs =>
          simp only [List.all_cons, Bool.and_eq_true] at hp
          exact .cn (ih h hp.1) (ihs hs hp.2)
      | nl => intro cs fs h hp; cases h; exact .nl
      | _ => intro cs fs h hp; cases h
    cases a with
    | st fs => exact key h hp
    | tup fs => cases h
    | _ =>
      exact leaf h hp
theorem BC.plain {g g2 : Gh} (hro : ∀ b o c, g.ro b o = some (B8 c) → g2.ro b o = some (B8 c)) (hbx : g2.bx = g.bx) {d : Nat} {T : Ty} {a : AV} {x : Bx} (h : BC g T a x) (hp : plainA d a = true) : BC g2 T a x := by
  obtain ⟨h1, h2, h3⟩ := h.rc_of (fun _ _ e => by subst e; cases d <;> simp [plainA, leafA] at hp) (fun _ _ e => by subst e; cases d <;> simp [plainA, leafA] at hp) (fun _ _ e => by subst e; cases d <;> simp [plainA, leafA] at hp)
  exact .pl (h3.plain hro hbx hp) h1 h2
theorem RV.plain {g g2 : Gh} (hro : ∀ b o c, g.ro b o = some (B8 c) → g2.ro b o = some (B8 c)) (hbx : g2.bx = g.bx) {d : Nat} {a : AV} {u : Value} (h : RV g a u) (hp : plainA (d + 1) a = true) : RV g2 a u := by
  have one : ∀ {d : Nat} {a : AV} {u : Value}, RV1 g a u → plainA d a = true → RV1 g2 a u := fun {d a u} h hp => by
    rcases h with ⟨T, cs, h1, h2, h3⟩ | h
    · exact .inl ⟨T, cs, h1, h2.plain hro hbx hp, h3⟩
    · exact .inr (h.plain hro hbx hp)
  cases a with
  | any => trivial
  | tup az =>
    obtain ⟨vs, h1, h2, h3⟩ := h
    exact ⟨vs, h1, h2, fun i a u ha hu => one (h3 i a u ha hu) (List.all_eq_true.1 hp a (List.mem_of_getElem? ha))⟩
  | _ => exact (one (show RV1 g _ u from h) hp).rv
end Go.Proofs.Ytpeefeioccglcaa
namespace Go.Proofs.Ytpeefeioccglcaa
open Go
section
variable {P : Program} {ops : Array Oper} {Q : Exit → Act → World → Prop} {S : World → Prop} {L A : List Nat}
/-- Where an operation stands in an order of one's own. -/
def rk (ord : List Nat) (i : Nat) : Nat := ord.idxOf i
structure OrdOk (ops : Array Oper) (ord : List Nat) : Prop where
  len : ord.length = ops.size
  lt : ∀ i ∈ ord, i < ops.size
  mem : ∀ i, i < ops.size → i ∈ ord
  pos : ∀ p (h : p < ord.length), rk ord ord[p] = p
  edge : ∀ j o, ops[j]? = some o → ∀ e ∈ o.after, Region.binds .any e = true → rk ord e.on < rk ord j
theorem OrdOk.inj {ops : Array Oper} {ord : List Nat} (h : OrdOk ops ord) {i j : Nat} (hi : i < ops.size) (hj : j < ops.size) (e : rk ord i = rk ord j) : i = j := by
  have h1 := List.getElem_idxOf (List.idxOf_lt_length_of_mem (h.mem i hi))
  have h2 := List.getElem_idxOf (List.idxOf_lt_length_of_mem (h.mem j hj))
  unfold rk at e
  rw [← h1, ← h2]
  simp only [e]
end
section
variable {P : Program} {w0 w : World} {N : Gh} {st : St} {nt : Nat} {a : Act}
end
end Go.Proofs.Ytpeefeioccglcaa
/- The statements' kit: do lists share memory? -/
namespace Go.Proofs.Ytpeefeioccglcaa
open Go Go.RowKit
attribute [local irreducible] wpT
/-- A slice, in its three parts. -/
abbrev SV := Option Addr × Nat × Nat
abbrev SV.v (x : SV) : Value := .slice x.1 x.2.1 x.2.2
theorem madeCells_row (z : Value) (n : Nat) : madeCells #[z] n = (List.replicate n z).toArray := by
  apply Array.ext
  · simp [madeCells]
  · intro i h1 h2; simp [madeCells, Nat.mod_one]
theorem own_same {α : Type} {E : El α} {a b : World} {base base' g : Nat} {v : Value} {xs sp : List α} (h : Own E a base v xs sp) (h' : Own E b base' v xs sp) (hg : v.ownBlock = some g) : b.heap[g]? = a.heap[g]? := by
  rcases h with ⟨rfl, _⟩ | ⟨g1, _, rfl, h1, _⟩
  · simp [Value.ownBlock] at hg
  · simp [Value.ownBlock] at hg; subst hg
    rcases h' with ⟨hv, _⟩ | ⟨g2, _, hv, h2, _⟩
    · cases hv
    · injection hv with e; injection e with e; injection e with e; subst e; exact h2.trans h1.symm
/-- A row, and what the list that names it says of it. -/
abbrev ARow := SV × List UInt8 × List UInt8 × TypeId
abbrev ARow.str (x : ARow) : Value := .string (strOf (x.2.1 ++ x.2.2.1))
/-- Rows that do not share memory. -/
structure Apart (w : World) (base : Nat) (L : List ARow) : Prop where
  own : ∀ i (hi : i < L.length), Own (byteT L[i].2.2.2) w base L[i].1.v L[i].2.1 L[i].2.2.1
  ne : ∀ i j (hi : i < L.length) (hj : j < L.length), i ≠ j → L[i].1.v.ownBlock = none ∨ L[i].1.v.ownBlock ≠ L[j].1.v.ownBlock
theorem Apart.below {w w' : World} {base : Nat} {L : List ARow} (h : Apart w base L) (hb : Below w.heap.size w w') : Apart w' base L :=
  ⟨fun i hi => (h.own i hi).belowSize hb, h.ne⟩
/-- The row is no list of slices. -/
theorem own_not {t : TypeId} {w : World} {base g i : Nat} {v : Value} {xs sp : List UInt8} (h : Own (byteT t) w base v xs sp) {x : SV} (hc : w.cell? ⟨g, i, none⟩ = some x.v) : v.ownBlock ≠ some g := by
  intro e
  rcases h with ⟨rfl, _⟩ | ⟨g1, _, rfl, h1, _⟩
  · simp [Value.ownBlock] at e
  · simp [Value.ownBlock] at e; subst e
    rw [h1.cell, byteT_all, List.getElem?_toArray, List.getElem?_map] at hc
    obtain ⟨a, _, ha⟩ := Option.map_eq_some_iff.1 hc; cases ha
/-- The whole row as a string: what the code's 'string(x[:cap(x)])' reads. -/
theorem own_str {w : World} {base : Nat} {x : ARow} (h : Own (byteT x.2.2.2) w base x.1.v x.2.1 x.2.2.1) : ∃ A m c, x.1.v = .slice A m c ∧ m ≤ c ∧ c ≤ maxLen ∧ (A = none → c = 0 ∧ m = 0) ∧
    ∀ W : World, Own (byteT x.2.2.2) W base x.1.v x.2.1 x.2.2.1 → (convert 22 9 (.slice A c c)).run Try.prog W = .ok x.str W := by
  rcases h with ⟨hv, h2, h3⟩ | ⟨g1, _, hv, h1, h2⟩
  · refine ⟨none, 0, 0, hv, Nat.le_refl _, by simp [maxLen], fun _ => ⟨rfl, rfl⟩, fun W _ => ?_⟩
    unfold ARow.str; rw [h2, h3]
    exact run_str (Rd.nil W 0 none) 0 0 rfl
  · refine ⟨_, _, _, hv, by omega, h2, fun e => (by cases e), fun W hW => ?_⟩
    refine run_str (B := W.heap.size) ?_ _ _ (by rw [List.length_append])
    rw [hv] at hW
    have hb := own_byteT hW
    exact Rd.of_blk hb hb.lt 0 fun j u hu => by rw [byteE_all] at hu; rw [Nat.zero_add]; simpa using hu
set_option maxRecDepth 100000 in
set_option maxHeartbeats 1600000 in
theorem apart_any (L : List ARow) (g o c base : Nat) (w : World) (hS : ∀ i (hi : i < L.length), w.cell? ⟨g, o + i, none⟩ = some L[i].1.v) (hg : g < w.heap.size) (hP : Apart w base L) (h0 : 0 < L.length) (hl : L.length ≤ 1099511627776) :
    Calls Try.prog 38 #[.slice (some ⟨g, o, none⟩) L.length c] w fun e w' => e = .returned (.bool true) ∧ Below w.heap.size w w' := by
  obtain ⟨n, hn⟩ : ∃ n, L.length = n := ⟨_, rfl⟩
  have km := fun W : World => run_make_row' (P := Try.prog) 191 9 (.string ⟨#[]⟩) 16 Try.underlying191 (by kernel_rfl) rfl .i64 .i64 n (by omega) (by omega) W
  have hgne : ∀ i (hi : i < L.length), L[i].1.v.ownBlock ≠ some g := fun i hi => own_not (hP.own i hi) (hS i hi)
  have HP := Lib.hid hP; have HS := Lib.hid hS; have HG := Lib.hid hgne; clear hP hS hgne
  rw [hn] at h0 hl ⊢
  have HN := Lib.hid hn; clear hn
  go_enter Try.func38, Try.ntmps38
  go_wp2
  go_loopw [3] (fun v wr => ∃ i : Nat, i ≤ n ∧ v = .int .i64 (i : Int) ∧ Below w.heap.size w wr) (fun v _ => n - (intOf v).toNat)
  case atStart => exact ⟨0, by omega, rfl, Below.refl _ _⟩
  case round =>
    obtain ⟨i, hi, rfl, hb⟩ := hrel
    obtain ⟨wo, rfl⟩ : ∃ wo : World, wo = wr := ⟨_, rfl⟩
    have HB := Lib.hid hb; clear hb
    by_cases hlt : i < n
    · have hiL : i < L.length := by rw [HN.out]; exact hlt
      have hw0 : w.heap.size ≤ wo.heap.size := HB.out.size
      have PO := Lib.hid (HP.out.below HB.out)
      have SO : Hid (∀ j (hj : j < L.length), wo.cell? ⟨g, o + j, none⟩ = some L[j].1.v) := fun j hj => (World.cell?_of_block (a := ⟨g, o + j, none⟩) (HB.out.block g hg)).trans (HS.out j hj)
      obtain ⟨Ai, mi, ci, hvi, -, -, -, -⟩ := own_str (PO.out.own i hiL)
      have HVI := Lib.hid hvi; clear hvi
      go_wp2
      rw [madeCells_row]
      have B0 : Hid (Blk (wo.alloc (Obj.cells (List.replicate n (Value.string ⟨#[]⟩)).toArray 9)) wo.heap.size 9 (List.replicate n (Value.string ⟨#[]⟩)).toArray) := Blk.new _ _ _
      have L0 := Lib.hid ((Below.refl wo.heap.size wo).alloc (Nat.le_refl _) (Obj.cells (List.replicate n (Value.string ⟨#[]⟩)).toArray 9))
      go_loopw [5] (fun v wr => ∃ k : Nat, k ≤ n ∧ v = .int .i64 (k : Int) ∧ Blk wr wo.heap.size 9 ((L.take k).map ARow.str ++ List.replicate (n - k) (Value.string ⟨#[]⟩)).toArray ∧ Below wo.heap.size wo wr) (fun v _ => n - (intOf v).toNat)
      case atStart => exact ⟨0, by omega, rfl, by simpa using B0.out, L0.out⟩
      case round =>
        clear B0 L0
        obtain ⟨k, hk, rfl, b1, b2⟩ := hrel
        have B1 := Lib.hid b1; have B2 := Lib.hid b2; clear b1 b2
        by_cases hlt2 : k < n
        · have hkL : k < L.length := by rw [HN.out]; exact hlt2
          obtain ⟨Ak, mk, ck, hvk, hm1, hm2, hm3, hsk⟩ := own_str ((PO.out.below B2.out).own k hkL)
          have k1 := hsk wr.drew ((PO.out.below B2.out).own k hkL)
          have c1 : wr.cell? ⟨g, o + k, none⟩ = some (.slice Ak mk ck) := by rw [← hvk]; exact (World.cell?_of_block (a := ⟨g, o + k, none⟩) (B2.out.block g (by omega))).trans (SO.out k hkL)
          have ht : ((L.take k).map ARow.str).length = k := by rw [List.length_map, List.length_take]; omega
          have c2 : wr.cell? ⟨wo.heap.size, k, none⟩ = some (Value.string ⟨#[]⟩) := by
            rw [B1.out.cell, List.getElem?_toArray, List.getElem?_append_right (by omega), ht, Nat.sub_self]
            rw [List.getElem?_replicate, if_pos (by omega)]
          have c3 := B1.out.free k
          have hn2 : Blk (wr.drew.setCell ⟨wo.heap.size, k, none⟩ L[k].str) wo.heap.size 9 ((L.take (k + 1)).map ARow.str ++ List.replicate (n - (k + 1)) (Value.string ⟨#[]⟩)).toArray := by
            have := B1.out.drew.put k L[k].str
            have e : ((L.take k).map ARow.str ++ List.replicate (n - k) (Value.string ⟨#[]⟩)).toArray.setIfInBounds k L[k].str = ((L.take (k + 1)).map ARow.str ++ List.replicate (n - (k + 1)) (Value.string ⟨#[]⟩)).toArray := by
              apply Array.toList_inj.1
              rw [Array.toList_setIfInBounds, List.take_succ_eq_append_getElem hkL]
              simp only [List.map_append, List.map_cons, List.map_nil]
              rw [List.set_append_right _ _ (by rw [ht]; exact Nat.le_refl _), ht, Nat.sub_self, show n - k = (n - (k + 1)) + 1 by omega, List.replicate_succ]
              simp
            rw [e] at this; exact this
          have N2 := Lib.hid hn2
          have N3 := Lib.hid (below_putAt (B2.out.drew) (b := wo.heap.size) (i := k) (Nat.le_refl _) L[k].str)
          unfold ARow.str at k1
          have e1 : L[k].str = .string (strOf (L[k].2.1 ++ L[k].2.2.1)) := rfl
          rw [e1] at N2 N3
          generalize L[k].2.1 ++ L[k].2.2.1 = bs at k1 N2 N3 e1
          clear hn2 hvk hsk e1 ht
          cases Ak with
          | none =>
            obtain ⟨rfl, rfl⟩ := hm3 rfl
            go_wp2
            refine wp_region_T [14] [] (fun _ => True) (by kernel_rfl) (by kernel_rfl) trivial ?_
            repeat (first
              | (refine wpT_skip (by rfl) ?_; go_simp)
              | (refine wpT_here (by rfl) (by rfl) (by rfl) (fun K hK => ?_); go_big_quiet_op; refine hK _ ?_; clear hK K)
              | (refine wpT_loud (by rfl) (by rfl) (fun K hK => ?_); go_big_op; refine hK _ _ trivial ?_; clear hK K))
            refine wpT_nil ?_
            go_wp2
            go_roundw
            case rel => exact ⟨k + 1, by omega, by go_num, N2.out, N3.out⟩
            case measure => simp [intOf]; omega
          | some a =>
            go_wp2
            refine wp_region_T [14] [] (fun _ => True) (by kernel_rfl) (by kernel_rfl) trivial ?_
            repeat (first
              | (refine wpT_skip (by rfl) ?_; go_simp)
              | (refine wpT_here (by rfl) (by rfl) (by rfl) (fun K hK => ?_); go_big_quiet_op; refine hK _ ?_; clear hK K)
              | (refine wpT_loud (by rfl) (by rfl) (fun K hK => ?_); go_big_op; refine hK _ _ trivial ?_; clear hK K))
            refine wpT_nil ?_
            go_wp2
            go_roundw
            case rel => exact ⟨k + 1, by omega, by go_num, N2.out, N3.out⟩
            case measure => simp [intOf]; omega
        · obtain rfl : k = n := by omega
          have c1 : wr.cell? ⟨g, o + i, none⟩ = some (.slice Ai mi ci) := by rw [← HVI.out]; exact (World.cell?_of_block (a := ⟨g, o + i, none⟩) (B2.out.block g (by omega))).trans (SO.out i hiL)
          have o1 := (PO.out.below B2.out).own i hiL
          rw [HVI.out] at o1
          have O1 := Lib.hid o1; clear o1
          go_wp2_with (go_at_call 95; refine (over_any _ _ _ _ _ O1.out).mono ?_; rintro e w1 ⟨rfl, hO1, hg1⟩; have O2 := Lib.hid hO1; have G1 := Lib.hid hg1; clear hO1 hg1; dsimp only)
          obtain ⟨wp, rfl⟩ : ∃ wp : World, wp = wr := ⟨_, rfl⟩
          have hlo : ∀ r, (Value.slice Ai mi ci).ownBlock = some r → r < wo.heap.size := fun r hr => by
            have := (PO.out.own i hiL).lt (g := r) (by rw [HVI.out]; exact hr); exact this.2
          have b1 : Blk w1 wo.heap.size 9 (L.map ARow.str).toArray := by
            have := (B1.out.grown G1.out fun e => by have := hlo _ e.symm; omega)
            rw [List.take_of_length_le (by rw [HN.out]; exact Nat.le_refl _), Nat.sub_self, List.replicate_zero, List.append_nil] at this; exact this
          have hsz : wo.heap.size ≤ wp.heap.size := B2.out.size
          have hsz1 : wp.heap.size ≤ w1.heap.size := G1.out.size
          have hgi : (Value.slice Ai mi ci).ownBlock ≠ some g := by have := HG.out i hiL; rw [HVI.out] at this; exact this
          have cell1 : ∀ j (hj : j < L.length), w1.cell? ⟨g, o + j, none⟩ = some L[j].1.v := fun j hj =>
            (World.cell?_of_block (a := ⟨g, o + j, none⟩) (G1.out.block g (by omega) (fun e => hgi e.symm))).trans ((World.cell?_of_block (a := ⟨g, o + j, none⟩) (B2.out.block g (by omega))).trans (SO.out j hj))
          have C1 := Lib.hid cell1; have S1 := Lib.hid b1; clear cell1 b1
          have own1 : ∀ j (hj : j < L.length), j ≠ i → Own (byteT L[j].2.2.2) w1 base L[j].1.v L[j].2.1 L[j].2.2.1 := fun j hj hne => by
            refine ((PO.out.below B2.out).own j hj).grown G1.out ?_
            rcases HP.out.ne j i hj hiL hne with h | h
            · exact .inl h
            · exact .inr (by rw [HVI.out] at h; exact h)
          have W1 := Lib.hid own1; clear own1
          clear c1 B1
          go_loopw [6] (fun v wr => ∃ q : Nat, q ≤ k ∧ v = .int .i64 (q : Int) ∧ Below w1.heap.size w1 wr) (fun v _ => k - (intOf v).toNat)
          case atStart => exact ⟨0, by omega, rfl, Below.refl _ _⟩
          case round =>
            obtain ⟨q, hq, rfl, b2⟩ := hrel
            have B3 := Lib.hid b2; clear b2
            by_cases hlt3 : q < k
            · by_cases hqi : q = i
              · subst hqi
                go_wp2
                refine wp_region_T [] [] (fun _ => True) (by kernel_rfl) (by kernel_rfl) trivial ?_
                repeat (first
                  | (refine wpT_skip (by rfl) ?_; go_simp)
                  | (refine wpT_here (by rfl) (by rfl) (by rfl) (fun K hK => ?_); go_big_quiet_op; refine hK _ ?_; clear hK K)
                  | (refine wpT_loud (by rfl) (by rfl) (fun K hK => ?_); go_big_op; refine hK _ _ trivial ?_; clear hK K))
                refine wpT_nil ?_
                go_wp2
                go_roundw
                case rel => exact ⟨q + 1, by omega, by go_num, B3.out.drew⟩
                case measure => simp [intOf]; omega
              · have hqL : q < L.length := by rw [HN.out]; exact hlt3
                have oq := (W1.out q hqL hqi).belowSize B3.out
                obtain ⟨Ak, mk, ck, hvk, hm1, hm2, hm3, hsk⟩ := own_str oq
                have k1 := hsk wr.drew oq
                have c1 : wr.cell? ⟨g, o + q, none⟩ = some (.slice Ak mk ck) := by rw [← hvk]; exact (World.cell?_of_block (a := ⟨g, o + q, none⟩) (B3.out.block g (by omega))).trans (C1.out q hqL)
                have c2 : wr.cell? ⟨wo.heap.size, q, none⟩ = some L[q].str := by
                  rw [(S1.out.below B3.out S1.out.lt).cell, List.getElem?_toArray, List.getElem?_map, List.getElem?_eq_getElem hqL]; rfl
                have hne : ((q : Int) != (i : Int)) = true := by simp; omega
                unfold ARow.str at k1 c2
                generalize strOf (L[q].2.1 ++ L[q].2.2.1) = bs at k1 c2
                clear oq hvk hsk
                cases Ak with
                | none =>
                  obtain ⟨rfl, rfl⟩ := hm3 rfl
                  go_wp2
                  refine wp_region_T [] [] (fun _ => True) (by kernel_rfl) (by kernel_rfl) trivial ?_
                  repeat (first
                    | (refine wpT_skip (by rfl) ?_; go_simp)
                    | (refine wpT_here (by rfl) (by rfl) (by rfl) (fun K hK => ?_); go_big_quiet_op; refine hK _ ?_; clear hK K)
                    | (refine wpT_loud (by rfl) (by rfl) (fun K hK => ?_); go_big_op; refine hK _ _ trivial ?_; clear hK K))
                  refine wpT_nil ?_
                  go_wp2
                  go_roundw
                  case rel => exact ⟨q + 1, by omega, by go_num, B3.out.drew⟩
                  case measure => simp [intOf]; omega
                | some a =>
                  go_wp2
                  refine wp_region_T [] [] (fun _ => True) (by kernel_rfl) (by kernel_rfl) trivial ?_
                  repeat (first
                    | (refine wpT_skip (by rfl) ?_; go_simp)
                    | (refine wpT_here (by rfl) (by rfl) (by rfl) (fun K hK => ?_); go_big_quiet_op; refine hK _ ?_; clear hK K)
                    | (refine wpT_loud (by rfl) (by rfl) (fun K hK => ?_); go_big_op; refine hK _ _ trivial ?_; clear hK K))
                  refine wpT_nil ?_
                  go_wp2
                  go_roundw
                  case rel => exact ⟨q + 1, by omega, by go_num, B3.out.drew⟩
                  case measure => simp [intOf]; omega
            · obtain rfl : q = k := by omega
              have c1 : wr.cell? ⟨g, o + i, none⟩ = some (.slice Ai mi ci) := by rw [← HVI.out]; exact (World.cell?_of_block (a := ⟨g, o + i, none⟩) (B3.out.block g (by omega))).trans (C1.out i hiL)
              have O3 := Lib.hid (O2.out.belowSize B3.out)
              have hsz2 : w1.heap.size ≤ wr.heap.size := B3.out.size
              go_wp2_with (go_at_call 95; refine (over_any _ _ _ _ _ O3.out).mono ?_; rintro e w4 ⟨rfl, hO4, hg4⟩; have O4 := Lib.hid hO4; have G4 := Lib.hid hg4; clear hO4 hg4; dsimp only)
              go_roundw
              case rel =>
                refine ⟨i + 1, by omega, by go_num, ?_⟩
                have o4 := O4.out
                rw [map_over_over, map_over_over] at o4
                refine ⟨?_, ?_, ?_, ?_, ?_⟩
                · rw [G4.out.os, B3.out.os, G1.out.os, B2.out.os, HB.out.os]
                · rw [G4.out.tape, B3.out.tape, G1.out.tape, B2.out.tape, HB.out.tape]
                · rw [G4.out.output, B3.out.output, G1.out.output, B2.out.output, HB.out.output]
                · have := G4.out.size; omega
                · intro r hr
                  by_cases hri : (Value.slice Ai mi ci).ownBlock = some r
                  · rw [own_same O1.out o4 hri, B2.out.block r (by omega), HB.out.block r hr]
                  · rw [G4.out.block r (by omega) (fun e => hri e.symm), B3.out.block r (by omega), G1.out.block r (by omega) (fun e => hri e.symm), B2.out.block r (by omega), HB.out.block r hr]
              case measure => simp [intOf]; omega
    · obtain rfl : i = n := by omega
      go_wp2
      go_ret
      exact ⟨rfl, HB.out⟩
end Go.Proofs.Ytpeefeioccglcaa
