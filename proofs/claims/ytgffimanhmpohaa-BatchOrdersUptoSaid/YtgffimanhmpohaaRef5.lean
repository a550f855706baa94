/- The arguments of a statement, as values; what a statement's form asks for, out of a contract in values. -/
import Derived.Test.YtgffimanhmpohaaRows
import Derived.Test.YtgffimanhmpohaaOrdWP
import Derived.OpenShut
import Derived.Carry
import Derived.WalkKit
import Derived.ProofKit
import Derived.JoinedCond
import Derived.Test.YtgffimanhmpohaaA1
import Derived.Deep.OwnRows
import Derived.BigQuiet
import Derived.BigRegion
import Derived.Deep.Draws
import Derived.Deep.LoopGhost
import Derived.Shelf.SlicesE.Reverse
set_option linter.unusedSimpArgs false
set_option linter.unusedVariables false
namespace Go.Proofs.Ytgffimanhmpohaa
open Go Go.RowKit
theorem bulk_part {H : Type} {d : DataW H} : ∀ {l : List (DataW H)}, d ∈ l → Rows.uptoBulk d ≤ Rows.uptoBulkAll l
  | x :: l, h => by
    rcases List.mem_cons.1 h with e | e
    · subst e; simp only [Rows.uptoBulkAll]; omega
    · have := bulk_part e; simp only [Rows.uptoBulkAll]; omega
theorem bulk_one {H : Type} (d : DataW H) : 1 ≤ Rows.uptoBulk d := by
  cases d with
  | lit l => cases l <;> simp [Rows.uptoBulk]
  | _ => simp [Rows.uptoBulk]
theorem bulk_len {H : Type} : ∀ l : List (DataW H), l.length ≤ Rows.uptoBulkAll l
  | [] => by simp
  | x :: l => by have := bulk_one x; have := bulk_len l; simp only [Rows.uptoBulkAll, List.length_cons]; omega
def isU8 (τ : Tab) (e : Nat) : Bool := match Tab.get e τ with
  | some j => (match j.d with | .int .u8 => true | _ => false)
  | none => false
def tyOf (τ : Tab) (e : Nat) : Ty := match Tab.get e τ with
  | some j => j.ty
  | none => .sc
def ShL (f : Nat → AV → Prop) : List Nat → List AV → Prop
  | [], [] => True
  | t :: ts, a :: az => f t a ∧ ShL f ts az
  | _, _ => False
/-- The values that a type may have: each stretch no longer than M. -/
def Sh (τ : Tab) (M : Nat) : Nat → Nat → AV → Prop
  | 0, _, _ => False
  | d + 1, t, a => match (Tab.get t τ).map TI.d with
    | some (.int k) => ∃ n, a = .v (.int k n) ∧ ilo k ≤ n ∧ n ≤ ihi k
    | some .bool => ∃ b, a = .v (.bool b)
    | some .str => ∃ s : ByteArray, a = .v (.string s) ∧ s.size ≤ M
    | some (.slc e) => if isU8 τ e then ∃ l, a = .bs l none ∧ l.length ≤ M else ∃ es, a = .sl (tyOf τ e) es none ∧ es.length ≤ M ∧ ∀ x ∈ es, Sh τ M d e x
    | some (.arr n _) => ∃ l, a = .ba l ∧ l.length = n
    | some (.rcd fs) => ∃ az, a = .st az ∧ ShL (Sh τ M d) (fs.map (·.2)) az
    | _ => False
def lay (τ : Tab) : List (Nat × Nat) → Nat → Ty → Bool
  | [], _, .nl => true
  | (o, t) :: fs, off, .cn T Ts => o == off && (Tab.get t τ).isSome && tyOf τ t == T && lay τ fs (off + T.size) Ts
  | _, _, _ => false
def okT (τ : Tab) : Nat → Nat → Bool
  | 0, _ => false
  | d + 1, t => match Tab.get t τ with
    | some i => (match i.d with
      | .int _ => i.ty == .sc
      | .bool => i.ty == .sc
      | .str => i.ty == .sc
      | .slc e => i.ty == .sc && (Tab.get e τ).isSome && decide (0 < (tyOf τ e).size) && (isU8 τ e && tyOf τ e == .sc || !isU8 τ e && okT τ d e)
      | .arr n e => isU8 τ e && i.ty == .ba n && tyOf τ e == .sc
      | .rcd fs => lay τ fs 0 i.ty && i.ty.agg && fs.all fun f => okT τ d f.2
      | _ => false)
    | none => false
section
variable {τ : Tab} {M d t : Nat} {a : AV} {i : TI}
theorem Sh.int {k : IntKind} (ht : Tab.get t τ = some i) (hd : i.d = .int k) (h : Sh τ M (d + 1) t a) : ∃ n, a = .v (.int k n) ∧ ilo k ≤ n ∧ n ≤ ihi k := by
  unfold Sh at h; simp only [ht, Option.map_some, hd] at h; exact h
theorem Sh.bool (ht : Tab.get t τ = some i) (hd : i.d = .bool) (h : Sh τ M (d + 1) t a) : ∃ b, a = .v (.bool b) := by
  unfold Sh at h; simp only [ht, Option.map_some, hd] at h; exact h
theorem Sh.str (ht : Tab.get t τ = some i) (hd : i.d = .str) (h : Sh τ M (d + 1) t a) : ∃ s : ByteArray, a = .v (.string s) ∧ s.size ≤ M := by
  unfold Sh at h; simp only [ht, Option.map_some, hd] at h; exact h
theorem Sh.bytes {e : Nat} (ht : Tab.get t τ = some i) (hd : i.d = .slc e) (hu : isU8 τ e = true) (h : Sh τ M (d + 1) t a) : ∃ l, a = .bs l none ∧ l.length ≤ M := by
  unfold Sh at h; simp only [ht, Option.map_some, hd, hu, if_true] at h; exact h
theorem Sh.slc {e : Nat} (ht : Tab.get t τ = some i) (hd : i.d = .slc e) (hu : isU8 τ e = false) (h : Sh τ M (d + 1) t a) : ∃ es, a = .sl (tyOf τ e) es none ∧ es.length ≤ M ∧ ∀ x ∈ es, Sh τ M d e x := by
  unfold Sh at h; simp only [ht, Option.map_some, hd, hu, Bool.false_eq_true, if_false] at h; exact h
theorem Sh.arr {n e : Nat} (ht : Tab.get t τ = some i) (hd : i.d = .arr n e) (h : Sh τ M (d + 1) t a) : ∃ l, a = .ba l ∧ l.length = n := by
  unfold Sh at h; simp only [ht, Option.map_some, hd] at h; exact h
theorem Sh.rcd {fs : List (Nat × Nat)} (ht : Tab.get t τ = some i) (hd : i.d = .rcd fs) (h : Sh τ M (d + 1) t a) : ∃ az, a = .st az ∧ ShL (Sh τ M d) (fs.map (·.2)) az := by
  unfold Sh at h; simp only [ht, Option.map_some, hd] at h; exact h
theorem shl_nil {f : Nat → AV → Prop} {az : List AV} (h : ShL f [] az) : az = [] := by
  cases az with
  | nil => rfl
  | cons _ _ => exact h.elim
theorem shl_cons {f : Nat → AV → Prop} {t : Nat} {ts : List Nat} {az : List AV} (h : ShL f (t :: ts) az) : ∃ a r, az = a :: r ∧ f t a ∧ ShL f ts r := by
  cases az with
  | nil => exact h.elim
  | cons a r => exact ⟨a, r, rfl, h.1, h.2⟩
/-- Elements, each of a form. -/
theorem sh_list {α : Type} {p : AV → Prop} {q : α → Prop} {f : α → AV} (hp : ∀ x, p x → ∃ y, x = f y ∧ q y) : ∀ {es : List AV}, (∀ x ∈ es, p x) → ∃ ys : List α, es = ys.map f ∧ ∀ y ∈ ys, q y
  | [], _ => ⟨[], rfl, fun y h => by cases h⟩
  | x :: es, h => by
    obtain ⟨y, rfl, hy⟩ := hp x (h x List.mem_cons_self)
    obtain ⟨ys, rfl, hys⟩ := sh_list hp (es := es) fun x hx => h x (List.mem_cons_of_mem _ hx)
    exact ⟨y :: ys, rfl, fun z hz => by rcases List.mem_cons.1 hz with e | e; (subst e; exact hy); exact hys z e⟩
end
/-- All cells of a memory. -/
def allOf (w : World) : Gh := ⟨fun b o => w.cell? ⟨b, o, none⟩, [], []⟩
section
variable {H : Type} {enc : TypeId × Value → H} {P : Program} {τ : Tab} {w : World} {sp : Nat → Bool} {held : Bool} {M : Nat}
theorem wf_lohi {k : IntKind} {n : Int} (h : (Lit.int k n).wf = true) : ilo k ≤ n ∧ n ≤ ihi k := by
  cases k <;> simp [Lit.wf, IntKind.min, IntKind.max, IntKind.signed, IntKind.bits] at h <;> simp only [ilo, ihi] <;> omega
theorem isU8_ok (hτ : τ.ok P) {e : Nat} (h : isU8 τ e = true) : P.underlying e = some (.int .u8) := by
  unfold isU8 at h
  split at h
  · rename_i j hj
    have hok := (Tab.get_ok hτ hj).d
    split at h
    · rename_i hd; rw [hd] at hok; exact hok
    · cases h
  · cases h
theorem cells_ty (hτ : τ.ok P) {e : Nat} (h : (Tab.get e τ).isSome = true) : P.cellsOf e = (tyOf τ e).size := by
  unfold tyOf
  cases hj : Tab.get e τ with
  | none => rw [hj] at h; cases h
  | some j =>
    obtain ⟨inf, z, h1, h2, _⟩ := (Tab.get_ok hτ hj).info
    simp [Program.cellsOf, h1, h2]
theorem isU8_some {e : Nat} (h : isU8 τ e = true) : (Tab.get e τ).isSome = true := by
  unfold isU8 at h
  split at h
  · rename_i j hj; rw [hj]; rfl
  · cases h
theorem B8_of {n : Int} (h : 0 ≤ n ∧ n ≤ 255) : B8 (UInt8.ofNat n.toNat) = .int .u8 n := by
  simp only [B8, UInt8.toNat_ofNat']
  congr 1; omega
theorem trod_rc (hτ : τ.ok P) : ∀ (d : Nat) {t fuel : Nat} {cs : List Value} {x : DataW H × List MemPlace}, okT τ d t = true → DataW.trod enc P w 0 sp held fuel t cs = some x → Rows.uptoBulk x.1 ≤ M →
    ∃ a, Sh τ M d t a ∧ RC (allOf w) (tyOf τ t) a cs := by
  intro d
  induction d with
  | zero => intro t fuel cs x h; cases h
  | succ d ih =>
    intro t fuel cs x hok hx hM
    unfold okT at hok
    cases hg : Tab.get t τ with
    | none => rw [hg] at hok; cases hok
    | some i =>
    rw [hg] at hok
    have hi := Tab.get_ok hτ hg
    have hty : tyOf τ t = i.ty := by unfold tyOf; rw [hg]
    have hdd := hi.d
    have hsz : P.cellsOf t = i.ty.size := by rw [← hty]; exact cells_ty hτ (by rw [hg]; rfl)
    rw [hty]
    dsimp only at hok
    have sh : ∀ a, (match some i.d with
      | some (.int k) => ∃ n, a = AV.v (.int k n) ∧ ilo k ≤ n ∧ n ≤ ihi k
      | some .bool => ∃ b, a = .v (.bool b)
      | some .str => ∃ s : ByteArray, a = .v (.string s) ∧ s.size ≤ M
      | some (.slc e) => if isU8 τ e then ∃ l, a = .bs l none ∧ l.length ≤ M else ∃ es, a = .sl (tyOf τ e) es none ∧ es.length ≤ M ∧ ∀ x ∈ es, Sh τ M d e x
      | some (.arr n _) => ∃ l, a = .ba l ∧ l.length = n
      | some (.rcd fs) => ∃ az, a = .st az ∧ ShL (Sh τ M d) (fs.map (·.2)) az
      | _ => False) → Sh τ M (d + 1) t a := fun a h => by unfold Sh; rw [hg]; exact h
    generalize hdi : i.d = D' at hok hdd sh
    cases D' with
    | int k =>
      obtain ⟨n, rfl, rfl, hw⟩ := DataW.trod_int hdd hx
      rw [eq_of_beq hok]
      exact ⟨.v (.int k n), sh _ ⟨n, rfl, wf_lohi hw⟩, .v rfl⟩
    | bool =>
      obtain ⟨b, rfl, rfl⟩ := DataW.trod_bool hdd hx
      rw [eq_of_beq hok]
      exact ⟨.v (.bool b), sh _ ⟨b, rfl⟩, .v rfl⟩
    | str =>
      obtain ⟨s, rfl, rfl, hs⟩ := DataW.trod_string hdd hx
      rw [eq_of_beq hok]
      refine ⟨.v (.string s), sh _ ⟨s, rfl, ?_⟩, .v rfl⟩
      simp only [Rows.uptoBulk] at hM
      have : s.data.toList.length = s.size := by rw [Array.length_toList]; rfl
      omega
    | slc e =>
      simp only [Bool.and_eq_true, Bool.or_eq_true, Bool.not_eq_true', decide_eq_true_eq] at hok
      obtain ⟨⟨⟨h1, h2⟩, h3⟩, h4⟩ := hok
      have hce := cells_ty hτ h2
      rw [eq_of_beq h1]
      by_cases hu : isU8 τ e = true
      · have hu1 : tyOf τ e = .sc := by rcases h4 with h4 | h4; exact eq_of_beq h4.2; rw [h4.1] at hu; cases hu
        have hs0 : P.cellsOf e = 1 := by rw [hce, hu1]; rfl
        rcases ChangeShapes.open_ints hdd (isU8_ok hτ hu) hs0 hx with ⟨rfl, rfl⟩ | ⟨A, len, cap, zs, rfl, _, hl, hm, hz, rfl, hc, hw⟩
        · refine ⟨.bs [] none, sh _ ?_, RC.nil1 rfl⟩
          show ite _ _ _
          rw [if_pos hu]; exact ⟨[], rfl, Nat.zero_le _⟩
        · have hlz : len ≤ zs.length := by rw [hz]; split <;> omega
          have hll : ((zs.take len).map fun n => UInt8.ofNat n.toNat).length = len := by simp [hlz]
          refine ⟨.bs ((zs.take len).map fun n => UInt8.ofNat n.toNat) none, sh _ ?_, ?_⟩
          · show ite _ _ _
            rw [if_pos hu]
            refine ⟨_, rfl, ?_⟩
            rw [hll]
            simp only [Rows.uptoBulk] at hM
            have h5 := bulk_len (ChangeShapes.lits (H := H) .u8 (zs.take len))
            have h6 : (ChangeShapes.lits (H := H) .u8 (zs.take len)).length = len := by simp [ChangeShapes.lits, hlz]
            omega
          · have := RC.bs (g := allOf w) (l := (zs.take len).map fun n => UInt8.ofNat n.toNat) (tok := none) (A := some A) (c := cap) (by rw [hll]; exact hl) hm ?_ (fun i hi => by cases hi)
            · rw [hll] at this; exact this
            · rcases Nat.eq_zero_or_pos len with h0 | h0
              · left; rw [h0]; rfl
              · right
                obtain ⟨b, o, rfl, hcc⟩ := ints_at hc (by omega)
                refine ⟨b, o, rfl, fun j hj => ?_⟩
                rw [hll] at hj
                have h7 := hcc j (by omega)
                show w.cell? _ = _
                rw [h7]
                have h8 : zs.getD j 0 = zs[j]'(by omega) := by simp [List.getD, show j < zs.length by omega]
                have h9 := wf_lohi (hw _ (List.getElem_mem (show j < zs.length by omega)))
                simp only [ilo, ihi] at h9
                rw [h8]
                simp only [List.getElem_map, List.getElem_take]
                rw [B8_of h9]
      · have h4' : okT τ d e = true := by rcases h4 with h4 | h4; exact absurd h4.1 hu; exact h4.2
        rcases DataW.trod_slice hdd hx with ⟨rfl, rfl⟩ | ⟨A, len, cap, elems, rest, n, _, rfl, rfl, _, hl, hm, hlen, hel, _, _⟩
        · refine ⟨.sl (tyOf τ e) [] none, sh _ ?_, RC.nil2 rfl⟩
          show ite _ _ _
          rw [if_neg hu]; exact ⟨[], rfl, Nat.zero_le _, fun x hx => by cases hx⟩
        · simp only [Rows.uptoBulk] at hM
          have hb1 := bulk_len (elems.map (·.1))
          rw [List.length_map, hlen] at hb1
          have each : ∀ k, ∃ p : List Value × AV, k < len → w.cells? 0 (A.add (k * P.cellsOf e)) (P.cellsOf e) = some p.1 ∧ Sh τ M d e p.2 ∧ RC (allOf w) (tyOf τ e) p.2 p.1 := fun k => by
            by_cases hk : k < len
            · have h5 := hel k hk
              rw [List.getElem?_eq_getElem (by omega)] at h5
              obtain ⟨cs', h6, h7⟩ := Option.bind_eq_some_iff.1 h5
              have h8 : Rows.uptoBulk (elems[k]'(by omega)).1 ≤ M := by
                have := bulk_part (List.mem_map_of_mem (f := (·.1)) (List.getElem_mem (show k < elems.length by omega)))
                omega
              obtain ⟨a, ha1, ha2⟩ := ih h4' h7 h8
              exact ⟨(cs', a), fun _ => ⟨h6, ha1, ha2⟩⟩
            · exact ⟨([], .any), fun h => absurd h hk⟩
          obtain ⟨f, hf⟩ := Classical.axiomOfChoice each
          have hll : ((List.range len).map fun k => (f k).2).length = len := by simp
          refine ⟨.sl (tyOf τ e) ((List.range len).map fun k => (f k).2) none, sh _ ?_, ?_⟩
          · show ite _ _ _
            rw [if_neg hu]
            refine ⟨_, rfl, by rw [hll]; omega, fun x hx => ?_⟩
            obtain ⟨k, hk, rfl⟩ := List.mem_map.1 hx
            exact (hf k (List.mem_range.1 hk)).2.1
          · have := RC.sl (g := allOf w) (T := tyOf τ e) (es := (List.range len).map fun k => (f k).2) (tok := none) (A := some A) (c := cap) (by rw [hll]; exact hl) hm (fun k => (f k).1) ?_ (fun k hk => ?_) (fun i hi => by cases hi)
            · rw [hll] at this; exact this
            · rcases Nat.eq_zero_or_pos len with h0 | h0
              · left; rw [h0]; rfl
              · right
                obtain ⟨b, o, spot⟩ := A
                have hs0 : spot = none := by
                  obtain ⟨_, h6, h7⟩ := World.cells?_some (hf 0 h0).1
                  have h8 := h7 0 (by omega)
                  have : 0 < (f 0).1.length := by omega
                  rw [List.getElem?_eq_getElem this] at h8
                  have := World.cell?_spot h8
                  simpa [Addr.add] using this
                subst hs0
                refine ⟨b, o, rfl, fun k hk j u hu => ?_⟩
                rw [hll] at hk
                obtain ⟨_, h6, h7⟩ := World.cells?_some (hf k hk).1
                have hj := (List.getElem?_eq_some_iff.1 hu).1
                have h8 := h7 j (by omega)
                rw [hu, addr_add, addr_add, hce] at h8
                exact h8
            · have hk' : k < len := by rw [hll] at hk; exact hk
              simp only [List.getElem_map, List.getElem_range]
              exact (hf k hk').2.2
    | arr n e =>
      simp only [Bool.and_eq_true] at hok
      obtain ⟨⟨h1, h2⟩, h3⟩ := hok
      have hce : P.cellsOf e = 1 := by rw [cells_ty hτ (isU8_some h1), eq_of_beq h3]; rfl
      obtain ⟨xs, m, _, rfl, hcl, hxl, hx1⟩ := DataW.trod_array hdd.1 hx
      rw [eq_of_beq h2]
      have hn : cs.length = n := by rw [hcl, hsz, eq_of_beq h2]; rfl
      have key : ∀ k (hk : k < cs.length), ∃ q : Int, cs[k] = .int .u8 q ∧ 0 ≤ q ∧ q ≤ 255 := fun k hk => by
        have h5 := hx1 k (by omega)
        rw [List.getElem?_eq_getElem (by omega)] at h5
        obtain ⟨q, h6, _, h7⟩ := DataW.trod_int (isU8_ok hτ h1) h5
        rw [hce, Nat.mul_one] at h6
        have h8 : ((cs.drop k).take 1)[0]? = some (.int .u8 q) := by rw [h6]; rfl
        rw [List.getElem?_take, if_pos (by decide), List.getElem?_drop, Nat.add_zero, List.getElem?_eq_getElem hk] at h8
        injection h8 with h8
        have := wf_lohi h7
        exact ⟨q, h8, this⟩
      have hcs : cs = (cs.map fun v => match v with | .int _ q => UInt8.ofNat q.toNat | _ => 0).map B8 := by
        apply List.ext_getElem
        · simp
        · intro k hk _
          obtain ⟨q, h5, h6⟩ := key k hk
          simp only [List.getElem_map, h5]
          exact (B8_of h6).symm
      obtain ⟨l, hl⟩ : ∃ l : List UInt8, cs = l.map B8 := ⟨_, hcs⟩
      subst hl
      exact ⟨.ba l, sh _ ⟨l, rfl, by simpa using hn⟩, .ba (by simpa using hn)⟩
    | rcd fs =>
      simp only [Bool.and_eq_true, List.all_eq_true] at hok
      obtain ⟨⟨h1, h2⟩, h3⟩ := hok
      obtain ⟨F, hu, hF, _⟩ := hdd
      obtain ⟨xs, m, _, rfl, hcl, hxl, hx1⟩ := DataW.trod_struct hu hx
      simp only [Rows.uptoBulk] at hM
      rw [hsz] at hcl
      have key : ∀ (L : List (Nat × Nat)) (off : Nat) (T : Ty) (k : Nat), fs.drop k = L → lay τ L off T = true → cs.length = off + T.size → ∃ az, ShL (Sh τ M d) (L.map (·.2)) az ∧ RC (allOf w) T (.st az) (cs.drop off) := by
        intro L
        induction L with
        | nil =>
          intro off T k _ hlay hc
          cases T with
          | nl => rw [show cs.drop off = [] from List.drop_eq_nil_of_le (by rw [hc]; exact Nat.le_refl _)]; exact ⟨[], trivial, .nl⟩
          | _ => cases hlay
        | cons p L ihL =>
          intro off T k hk hlay hc
          cases T with
          | cn T Ts =>
            obtain ⟨o, ft⟩ := p
            simp only [lay, Bool.and_eq_true] at hlay
            obtain ⟨⟨⟨h4, h5⟩, h6⟩, h7⟩ := hlay
            obtain rfl := eq_of_beq h4
            obtain rfl := eq_of_beq h6
            have hfk : fs[k]? = some (o, ft) := by
              have : (fs.drop k)[0]? = some (o, ft) := by rw [hk]; rfl
              rw [List.getElem?_drop, Nat.add_zero] at this; exact this
            have hFk : ∃ fl, F[k]? = some fl ∧ fl.offset = o ∧ fl.type = ft := by
              rw [← hF, List.getElem?_map] at hfk
              obtain ⟨fl, h8, h9⟩ := Option.map_eq_some_iff.1 hfk
              simp only [Prod.mk.injEq] at h9
              exact ⟨fl, by simpa using h8, h9.1, h9.2⟩
            obtain ⟨fl, hfl, rfl, rfl⟩ := hFk
            have h8 := hx1 k fl hfl
            have hkx : k < xs.length := by rw [hxl]; have := (Array.getElem?_eq_some_iff.1 hfl).1; exact this
            rw [List.getElem?_eq_getElem hkx] at h8
            have h9 : Rows.uptoBulk xs[k].1 ≤ M := by
              have := bulk_part (List.mem_map_of_mem (f := (·.1)) (List.getElem_mem hkx))
              omega
            obtain ⟨a, ha1, ha2⟩ := ih (h3 _ (List.mem_of_getElem? hfk)) h8 h9
            obtain ⟨az, hz1, hz2⟩ := ihL (fl.offset + (tyOf τ fl.type).size) Ts (k + 1) (by rw [← List.drop_drop, hk]; rfl) h7 (by rw [hc]; simp only [Ty.size]; omega)
            refine ⟨a :: az, ⟨ha1, hz1⟩, ?_⟩
            have := RC.cn ha2 hz2
            rw [cells_ty hτ h5, ← List.drop_drop, List.take_append_drop] at this
            exact this
          | _ => cases hlay
      obtain ⟨az, hz1, hz2⟩ := key fs 0 i.ty 0 rfl h1 (by rw [hcl]; omega)
      exact ⟨.st az, sh _ ⟨az, rfl, hz1⟩, hz2⟩
    | _ => cases hok
theorem arg_rv (hτ : τ.ok P) {d t b0 : Nat} {r : Reach} {v : Value} {x : DataW H} {ps : List MemPlace} (hok : okT τ d t = true) (hval : Value.okWide P w r b0 t v) (hx : DataW.Trod enc P w 0 sp held t v x ps) (hM : Rows.uptoBulk x ≤ M) :
    ∃ a, Sh τ M d t a ∧ RV (allOf w) a v := by
  obtain ⟨fuel, hf⟩ := hx
  obtain ⟨a, h1, h2⟩ := trod_rc hτ d hok hf hM
  refine ⟨a, h1, ?_⟩
  cases d with
  | zero => cases hok
  | succ d =>
  unfold okT at hok
  cases hg : Tab.get t τ with
  | none => rw [hg] at hok; cases hok
  | some i =>
  rw [hg] at hok
  have hdd := (Tab.get_ok hτ hg).d
  have hty : tyOf τ t = i.ty := by unfold tyOf; rw [hg]
  rw [hty] at h2
  dsimp only at hok
  have hag : i.ty.agg = true → (∃ cs, v = .agg cs) → RV (allOf w) a v := fun h3 ⟨cs, hv⟩ => by
    subst hv
    refine (show RV1 (allOf w) a (.agg cs) from .inl ⟨i.ty, cs.toList, h3, h2, rfl⟩).rv
  have hsc : i.ty = .sc → v.cells.toList = [v] → RV (allOf w) a v := fun h3 hv => by
    rw [h3, hv] at h2; exact h2.rvp
  generalize i.d = D' at hok hdd
  cases D' with
  | int k => obtain ⟨n, rfl⟩ := WideShapes.okWide_int hdd hval; exact hsc (eq_of_beq hok) rfl
  | bool => obtain ⟨n, rfl⟩ := WideShapes.okWide_bool hdd hval; exact hsc (eq_of_beq hok) rfl
  | str => obtain ⟨n, rfl⟩ := WideShapes.okWide_string hdd hval; exact hsc (eq_of_beq hok) rfl
  | slc e =>
    obtain ⟨A, len, cap, rfl⟩ := WideShapes.okWide_slice hdd hval
    simp only [Bool.and_eq_true] at hok
    exact hsc (eq_of_beq hok.1.1.1) rfl
  | arr n e =>
    simp only [Bool.and_eq_true] at hok
    have hu := hdd.1
    simp only [Value.okWide, hu] at hval
    obtain ⟨cs, rfl, _⟩ := hval
    exact hag (by rw [eq_of_beq hok.1.2]; rfl) ⟨cs, rfl⟩
  | rcd fs =>
    simp only [Bool.and_eq_true] at hok
    obtain ⟨F, hu, _⟩ := hdd
    obtain ⟨cs, rfl, _⟩ := WideShapes.okWide_struct hu hval
    exact hag hok.1.2 ⟨cs, rfl⟩
  | _ => cases hok
/-- All arguments. -/
theorem args_rv (hτ : τ.ok P) {d b0 : Nat} {r : Reach} : ∀ {ts : List TypeId} {vs : List Value} {ds : List (DataW H)} {ps : List MemPlace}, (ts.all fun t => okT τ d t) = true → DataW.TrodAll enc P w 0 sp held ts vs ds ps →
    (∀ (j : Nat) t v, ts[j]? = some t → vs[j]? = some v → Value.okWide P w r b0 t v) → Rows.uptoBulkAll ds ≤ M →
    ∃ az, ShL (Sh τ M d) ts az ∧ vs.length = az.length ∧ ∀ (i : Nat) x v, az[i]? = some x → vs[i]? = some v → RV (allOf w) x v
  | [], [], [], _, _, _, _, _ => ⟨[], trivial, rfl, fun i x v h => by simp at h⟩
  | t :: ts, v :: vs, x :: ds, _, hok, h, hval, hM => by
    obtain ⟨p, q, h1, h2, _⟩ := h
    simp only [List.all_cons, Bool.and_eq_true] at hok
    simp only [Rows.uptoBulkAll] at hM
    obtain ⟨a, ha1, ha2⟩ := arg_rv (M := M) hτ hok.1 (hval 0 t v rfl rfl) h1 (by omega)
    obtain ⟨az, hz1, hz2, hz3⟩ := args_rv hτ hok.2 h2 (fun j t v hj hv => hval (j + 1) t v hj hv) (by omega)
    refine ⟨a :: az, ⟨ha1, hz1⟩, by simp [hz2], fun i y u hy hu => ?_⟩
    cases i with
    | zero =>
      simp only [List.getElem?_cons_zero, Option.some.injEq] at hy hu
      subst hy hu; exact ha2
    | succ i => exact hz3 i y u (by simpa using hy) (by simpa using hu)
  | [], _ :: _, _, _, _, h, _, _ => by cases h
  | [], [], _ :: _, _, _, h, _, _ => by cases h
  | _ :: _, [], _, _, _, h, _, _ => by cases h
  | _ :: _, _ :: _, [], _, _, h, _, _ => by cases h
theorem allOf_inv (P : Program) (w : World) : Inv P w (allOf w) (allOf w) [] [] [] w := by
  have nb : ∀ (i : Nat) (x : Bx), (allOf w).bx[i]? = some x → False := fun i x h => by simp [allOf] at h
  have nr : ∀ (i : Nat) (x : Rw), (allOf w).rw[i]? = some x → False := fun i x h => by simp [allOf] at h
  refine ⟨⟨fun b o u h => h, fun i x hx => (nb i x hx).elim, fun i x hx => (nb i x hx).elim, fun i x hx => (nb i x hx).elim, fun i r hr => (nr i r hr).elim, fun i x hx => (nb i x hx).elim, fun i x hx => (nb i x hx).elim, fun i j x y hx => (nb i x hx).elim, fun i r k hr => (nr i r hr).elim, fun i r k hr => (nr i r hr).elim, fun i j x r hx => (nb i x hx).elim, fun i j r s k hr => (nr i r hr).elim⟩,
    ⟨Kept.refl _ _, fun i x hx => (nb i x hx).elim, fun i r k hr => (nr i r hr).elim, fun b _ _ o => rfl, Gh.le.refl _⟩, ⟨rfl, fun i T a h => by simp at h⟩, fun i x hx => (nb i x hx).elim, rfl, fun r hr => by simp [allOf] at hr⟩
/-- A law's function, called: true, and nothing old has turned. -/
theorem law_calls (hτ : τ.ok P) {f : FuncId} {fn : Func} {d b0 : Nat} {r : Reach} {args : Array Value} {ds : List (DataW H)} {ps : List MemPlace} (hok : (fn.params.toList.all fun t => okT τ d t) = true)
    (hT : DataW.TrodAll enc P w 0 sp held fn.params.toList args.toList ds ps) (hval : ∀ (j : Nat) t v, fn.params[j]? = some t → args[j]? = some v → Value.okWide P w r b0 t v) (hM : Rows.uptoBulkAll ds ≤ M)
    (h : ∀ az, ShL (Sh τ M d) fn.params.toList az → VC P f az [] (.v (.bool true))) : Calls P f args w fun e w' => e = .returned (.bool true) ∧ Below w.heap.size w w' := by
  obtain ⟨az, h1, h2, h3⟩ := args_rv (M := M) hτ hok hT (fun j t v hj hv => hval j t v (by simpa using hj) (by simpa using hv)) hM
  have := (h az h1).2 w (allOf w) args.toList (allOf_inv P w) h2 h3
  refine this.mono fun e w' hp => ?_
  obtain ⟨g, v, rfl, hi, hv⟩ := hp
  refine ⟨by rw [hv.v_inv], hi.fr.kept.below (Nat.le_refl _) fun k _ hk => ?_⟩
  rcases hk with ⟨x, hx, _⟩ | ⟨x, hx, _⟩ <;> simp [allOf] at hx
theorem trodAll_below (hl : laidOutB P = true) {W W' : World} (hb : Below W.heap.size W W') : ∀ {ts : List TypeId} {vs : List Value} {ds : List (DataW H)} {ps : List MemPlace}, (ts.all fun t => P.readableRec t && decide (t < P.types.size)) = true →
    DataW.TrodAll enc P W 0 (fun _ => true) true ts vs ds ps → (∀ x ∈ ps, x.block < W.heap.size) → DataW.TrodAll enc P W' 0 (fun b => decide (b < W.heap.size)) true ts vs ds ps
  | [], [], [], _, _, h, _ => h
  | t :: ts, v :: vs, x :: ds, _, hr, h, hlt => by
    obtain ⟨p, q, h1, h2, rfl⟩ := h
    simp only [List.all_cons, Bool.and_eq_true, decide_eq_true_eq] at hr
    exact ⟨p, q, Below.trod hl hr.1.1 hr.1.2 h1 hb (fun x hx => hlt x (List.mem_append_left _ hx)), trodAll_below hl hb hr.2 h2 (fun x hx => hlt x (List.mem_append_right _ hx)), rfl⟩
  | [], _ :: _, _, _, _, h, _ => by cases h
  | [], [], _ :: _, _, _, h, _ => by cases h
  | _ :: _, [], _, _, _, h, _ => by cases h
  | _ :: _, _ :: _, [], _, _, h, _ => by cases h
/-- What a statement's form asks for: true is handed back, the arguments are as they were. -/
theorem post_true (hl : laidOutB P = true) {fn : Func} {s : ChangeSpec} {W W' : World} {args : Array Value} {ds gs : List (DataW H)} {before : List MemPlace} {bt : TypeId}
    (hW : DataW.Whole enc P fn.params.toList s.vars false W args.toList ds gs before) (hb : Below W.heap.size W W') (hr : (fn.params.toList.all fun t => P.readableRec t && decide (t < P.types.size)) = true) (hv : s.vars = []) (hrt : fn.resultTypes = #[bt]) (hbt : P.underlying bt = some .bool)
    (hs : s.fn H (ds ++ gs) = ⟨[.lit (.bool true)], ds, []⟩) : s.post enc P fn false true false false W args (.bool true) W' := by
  have hlt := fun x hx => hW.lt x hx
  obtain ⟨p, q, hA, hV, rfl, hfz, hnd⟩ := id hW
  refine ⟨ds, gs, p ++ q, [], p, [], hW, ?_, ?_, ?_, hb.frame _, fun h => by cases h⟩
  · rw [hrt, hs]
    exact ⟨[], [], ⟨1, by simp [DataW.trod, hbt, Value.cells]⟩, rfl, rfl⟩
  · rw [hs]
    exact trodAll_below hl hb hr hA fun x hx => by simpa using hlt x (List.mem_append_left _ hx)
  · rw [hs, hv]; rfl
end
end Go.Proofs.Ytgffimanhmpohaa
/- What grows, lent to a call that only reads it. -/
namespace Go.Proofs.Ytgffimanhmpohaa
open Go Go.RowKit
section
variable {P : Program} {τ : Tab} {w0 w : World} {N : Gh} {g gS : Gh} {st st' sq sq' : St} {nt : Nat} {a : Act}
/-- What was known under a guard that is known to hold, is known. -/
def gdEq (t : Nat) : Bool → Gd → Bool
  | true, some (k, true) => k == t
  | false, some (k, false) => k == t
  | _, _ => false
theorem gdEq_ok {t : Nat} {b : Bool} {c : Gd} (h : gdEq t b c = true) : c = some (t, b) := by
  unfold gdEq at h
  split at h
  · rw [beq_iff_eq.1 h]
  · rw [beq_iff_eq.1 h]
  · cases h
def unG (t : Nat) (b : Bool) : List (Nat × Gd × AV) → List (Nat × Gd × AV)
  | [] => []
  | (k, c, x) :: l => (k, bif gdEq t b c then none else c, x) :: unG t b l
theorem unG_mem {t : Nat} {b : Bool} {p : Nat × Gd × AV} : ∀ {l : List (Nat × Gd × AV)}, p ∈ unG t b l → ∃ q ∈ l, p = (q.1, bif gdEq t b q.2.1 then none else q.2.1, q.2.2)
  | (k, c, x) :: l, h => by
    rcases List.mem_cons.1 h with h | h
    · exact ⟨_, List.mem_cons_self, h⟩
    · obtain ⟨q, hq, e⟩ := unG_mem h
      exact ⟨q, List.mem_cons_of_mem _ hq, e⟩
theorem FR.unG (hF : FR g nt st a) {t : Nat} {b : Bool} (h : a.tmps.getD t undef = .bool b) : FR g nt ⟨unG t b st.t, st.bx, st.fz, st.rw⟩ a := by
  refine ⟨hF.sz, hF.df, fun p hp hg => ?_, fun p hp hg => ?_⟩
  · obtain ⟨q, hq, rfl⟩ := unG_mem hp
    cases e : gdEq t b q.2.1 with
    | true => exact hF.t q hq (by rw [gdEq_ok e]; exact h)
    | false => exact hF.t q hq (by simpa [e] using hg)
  · obtain ⟨q, hq, rfl⟩ := unG_mem hp
    cases e : gdEq t b q.2.1 with
    | true => exact absurd (by rw [e]; exact trivial) hg
    | false => exact hF.u q hq (by simpa [e] using hg)
theorem v_known (H : Rel P w0 N nt st a w) (t : Nat) (b : Bool) (hk : st.tmp none t = .v (.bool b)) : Rel P w0 N nt ⟨unG t b st.t, st.bx, st.fz, st.rw⟩ a w := by
  obtain ⟨g, HI, hF⟩ := H
  have h1 := tmp_sound hF (c := none) trivial t
  rw [hk] at h1
  exact ⟨g, HI, hF.unG h1.v_inv⟩
theorem v_knownT (H : RelT P w0 N nt gS sq st a w) (t : Nat) (b : Bool) (hk : st.tmp none t = .v (.bool b)) : RelT P w0 N nt gS sq ⟨unG t b st.t, st.bx, st.fz, st.rw⟩ a w := by
  obtain ⟨hM, hrw, hFq, hBq, g, HI, hF, hle, hbs⟩ := H
  have h1 := tmp_sound hF (c := none) trivial t
  rw [hk] at h1
  exact ⟨hM, hrw, hFq, hBq, g, HI, hF.unG h1.v_inv, hle, hbs⟩
/-- A guard that is known to hold, in a region that draws. -/
theorem v_guardT {ops : Array Oper} {Q : Exit → Act → World → Prop} {L A : List Nat} {i : Nat} {rest : List Oper} {o : Oper} {t : Nat} {b : Bool} (H : RelT P w0 N nt gS sq st a w) (hL : L.contains i = true) (hgd : gdOf ops o = some (some (t, b))) (hk : st.tmp none t = .v (.bool b))
    (h : wpT P ops Q (Mem gS) L A ({ o with guard := none } :: rest) i a w) : wpT P ops Q (Mem gS) L A (o :: rest) i a w := by
  obtain ⟨hM, hrw, hFq, hBq, g, HI, hF, hle, hbs⟩ := H
  have h1 := tmp_sound hF (c := none) trivial t
  rw [hk] at h1
  have hw : Region.wanted o (yielded ops a.tmps) = true := (gdOf_wanted hgd).2 h1.v_inv
  obtain ⟨dst, op, ty, pos, after, gd⟩ := o
  unfold wpT at h ⊢
  rw [if_pos hw, if_pos hL]
  rw [if_pos (by simp [Region.wanted]), if_pos hL] at h
  exact h
end
section
variable {P : Program} {τ : Tab} {w0 w : World} {N : Gh} {g gS : Gh} {st st' sq sq' : St} {nt : Nat} {a : Act} {r : AV} {cd : Prop}
end
end Go.Proofs.Ytgffimanhmpohaa
/- The statements' kit: do lists share memory? -/
namespace Go.Proofs.Ytgffimanhmpohaa
open Go Go.RowKit
attribute [local irreducible] wpT
/-- A slice, in its three parts. -/
abbrev SV := Option Addr × Nat × Nat
abbrev SV.v (x : SV) : Value := .slice x.1 x.2.1 x.2.2
theorem madeCells_row (z : Value) (n : Nat) : madeCells #[z] n = (List.replicate n z).toArray := by
  apply Array.ext
  · simp [madeCells]
  · intro i h1 h2; simp [madeCells, Nat.mod_one]
theorem own_same {α : Type} {E : El α} {a b : World} {base base' g : Nat} {v : Value} {xs sp : List α} (h : Own E a base v xs sp) (h' : Own E b base' v xs sp) (hg : v.ownBlock = some g) : b.heap[g]? = a.heap[g]? := by
  rcases h with ⟨rfl, _⟩ | ⟨g1, _, rfl, h1, _⟩
  · simp [Value.ownBlock] at hg
  · simp [Value.ownBlock] at hg; subst hg
    rcases h' with ⟨hv, _⟩ | ⟨g2, _, hv, h2, _⟩
    · cases hv
    · injection hv with e; injection e with e; injection e with e; subst e; exact h2.trans h1.symm
/-- A row, and what the list that names it says of it. -/
abbrev ARow := SV × List UInt8 × List UInt8 × TypeId
abbrev ARow.str (x : ARow) : Value := .string (strOf (x.2.1 ++ x.2.2.1))
/-- Rows that do not share memory. -/
structure Apart (w : World) (base : Nat) (L : List ARow) : Prop where
  own : ∀ i (hi : i < L.length), Own (byteT L[i].2.2.2) w base L[i].1.v L[i].2.1 L[i].2.2.1
  ne : ∀ i j (hi : i < L.length) (hj : j < L.length), i ≠ j → L[i].1.v.ownBlock = none ∨ L[i].1.v.ownBlock ≠ L[j].1.v.ownBlock
theorem Apart.below {w w' : World} {base : Nat} {L : List ARow} (h : Apart w base L) (hb : Below w.heap.size w w') : Apart w' base L :=
  ⟨fun i hi => (h.own i hi).belowSize hb, h.ne⟩
/-- The row is no list of slices. -/
theorem own_not {t : TypeId} {w : World} {base g i : Nat} {v : Value} {xs sp : List UInt8} (h : Own (byteT t) w base v xs sp) {x : SV} (hc : w.cell? ⟨g, i, none⟩ = some x.v) : v.ownBlock ≠ some g := by
  intro e
  rcases h with ⟨rfl, _⟩ | ⟨g1, _, rfl, h1, _⟩
  · simp [Value.ownBlock] at e
  · simp [Value.ownBlock] at e; subst e
    rw [h1.cell, byteT_all, List.getElem?_toArray, List.getElem?_map] at hc
    obtain ⟨a, _, ha⟩ := Option.map_eq_some_iff.1 hc; cases ha
/-- The whole row as a string: what the code's 'string(x[:cap(x)])' reads. -/
theorem own_str {w : World} {base : Nat} {x : ARow} (h : Own (byteT x.2.2.2) w base x.1.v x.2.1 x.2.2.1) : ∃ A m c, x.1.v = .slice A m c ∧ m ≤ c ∧ c ≤ maxLen ∧ (A = none → c = 0 ∧ m = 0) ∧
    ∀ W : World, Own (byteT x.2.2.2) W base x.1.v x.2.1 x.2.2.1 → (convert 35 9 (.slice A c c)).run Try.prog W = .ok x.str W := by
  rcases h with ⟨hv, h2, h3⟩ | ⟨g1, _, hv, h1, h2⟩
  · refine ⟨none, 0, 0, hv, Nat.le_refl _, by simp [maxLen], fun _ => ⟨rfl, rfl⟩, fun W _ => ?_⟩
    unfold ARow.str; rw [h2, h3]
    exact run_str (Rd.nil W 0 none) 0 0 rfl
  · refine ⟨_, _, _, hv, by omega, h2, fun e => (by cases e), fun W hW => ?_⟩
    refine run_str (B := W.heap.size) ?_ _ _ (by rw [List.length_append])
    rw [hv] at hW
    have hb := own_byteT hW
    exact Rd.of_blk hb hb.lt 0 fun j u hu => by rw [byteE_all] at hu; rw [Nat.zero_add]; simpa using hu
set_option maxRecDepth 100000 in
set_option maxHeartbeats 1600000 in
theorem apart_any (L : List ARow) (g o c base : Nat) (w : World) (hS : ∀ i (hi : i < L.length), w.cell? ⟨g, o + i, none⟩ = some L[i].1.v) (hg : g < w.heap.size) (hP : Apart w base L) (h0 : 0 < L.length) (hl : L.length ≤ 1099511627776) :
    Calls Try.prog 17 #[.slice (some ⟨g, o, none⟩) L.length c] w fun e w' => e = .returned (.bool true) ∧ Below w.heap.size w w' := by
  obtain ⟨n, hn⟩ : ∃ n, L.length = n := ⟨_, rfl⟩
  have km := fun W : World => run_make_row' (P := Try.prog) 68 9 (.string ⟨#[]⟩) 16 Try.underlying68 (by kernel_rfl) rfl .i64 .i64 n (by omega) (by omega) W
  have hgne : ∀ i (hi : i < L.length), L[i].1.v.ownBlock ≠ some g := fun i hi => own_not (hP.own i hi) (hS i hi)
  have HP := Lib.hid hP; have HS := Lib.hid hS; have HG := Lib.hid hgne; clear hP hS hgne
  rw [hn] at h0 hl ⊢
  have HN := Lib.hid hn; clear hn
  go_enter Try.func17, Try.ntmps17
  go_wp2
  go_loopw [3] (fun v wr => ∃ i : Nat, i ≤ n ∧ v = .int .i64 (i : Int) ∧ Below w.heap.size w wr) (fun v _ => n - (intOf v).toNat)
  case atStart => exact ⟨0, by omega, rfl, Below.refl _ _⟩
  case round =>
    obtain ⟨i, hi, rfl, hb⟩ := hrel
    obtain ⟨wo, rfl⟩ : ∃ wo : World, wo = wr := ⟨_, rfl⟩
    have HB := Lib.hid hb; clear hb
    by_cases hlt : i < n
    · have hiL : i < L.length := by rw [HN.out]; exact hlt
      have hw0 : w.heap.size ≤ wo.heap.size := HB.out.size
      have PO := Lib.hid (HP.out.below HB.out)
      have SO : Hid (∀ j (hj : j < L.length), wo.cell? ⟨g, o + j, none⟩ = some L[j].1.v) := fun j hj => (World.cell?_of_block (a := ⟨g, o + j, none⟩) (HB.out.block g hg)).trans (HS.out j hj)
      obtain ⟨Ai, mi, ci, hvi, -, -, -, -⟩ := own_str (PO.out.own i hiL)
      have HVI := Lib.hid hvi; clear hvi
      go_wp2
      rw [madeCells_row]
      have B0 : Hid (Blk (wo.alloc (Obj.cells (List.replicate n (Value.string ⟨#[]⟩)).toArray 9)) wo.heap.size 9 (List.replicate n (Value.string ⟨#[]⟩)).toArray) := Blk.new _ _ _
      have L0 := Lib.hid ((Below.refl wo.heap.size wo).alloc (Nat.le_refl _) (Obj.cells (List.replicate n (Value.string ⟨#[]⟩)).toArray 9))
      go_loopw [5] (fun v wr => ∃ k : Nat, k ≤ n ∧ v = .int .i64 (k : Int) ∧ Blk wr wo.heap.size 9 ((L.take k).map ARow.str ++ List.replicate (n - k) (Value.string ⟨#[]⟩)).toArray ∧ Below wo.heap.size wo wr) (fun v _ => n - (intOf v).toNat)
      case atStart => exact ⟨0, by omega, rfl, by simpa using B0.out, L0.out⟩
      case round =>
        clear B0 L0
        obtain ⟨k, hk, rfl, b1, b2⟩ := hrel
        have B1 := Lib.hid b1; have B2 := Lib.hid b2; clear b1 b2
        by_cases hlt2 : k < n
        · have hkL : k < L.length := by rw [HN.out]; exact hlt2
          obtain ⟨Ak, mk, ck, hvk, hm1, hm2, hm3, hsk⟩ := own_str ((PO.out.below B2.out).own k hkL)
          have k1 := hsk wr.drew ((PO.out.below B2.out).own k hkL)
          have c1 : wr.cell? ⟨g, o + k, none⟩ = some (.slice Ak mk ck) := by rw [← hvk]; exact (World.cell?_of_block (a := ⟨g, o + k, none⟩) (B2.out.block g (by omega))).trans (SO.out k hkL)
          have ht : ((L.take k).map ARow.str).length = k := by rw [List.length_map, List.length_take]; omega
          have c2 : wr.cell? ⟨wo.heap.size, k, none⟩ = some (Value.string ⟨#[]⟩) := by
            rw [B1.out.cell, List.getElem?_toArray, List.getElem?_append_right (by omega), ht, Nat.sub_self]
            rw [List.getElem?_replicate, if_pos (by omega)]
          have c3 := B1.out.free k
          have hn2 : Blk (wr.drew.setCell ⟨wo.heap.size, k, none⟩ L[k].str) wo.heap.size 9 ((L.take (k + 1)).map ARow.str ++ List.replicate (n - (k + 1)) (Value.string ⟨#[]⟩)).toArray := by
            have := B1.out.drew.put k L[k].str
            have e : ((L.take k).map ARow.str ++ List.replicate (n - k) (Value.string ⟨#[]⟩)).toArray.setIfInBounds k L[k].str = ((L.take (k + 1)).map ARow.str ++ List.replicate (n - (k + 1)) (Value.string ⟨#[]⟩)).toArray := by
              apply Array.toList_inj.1
              rw [Array.toList_setIfInBounds, List.take_succ_eq_append_getElem hkL]
              simp only [List.map_append, List.map_cons, List.map_nil]
              rw [List.set_append_right _ _ (by rw [ht]; exact Nat.le_refl _), ht, Nat.sub_self, show n - k = (n - (k + 1)) + 1 by omega, List.replicate_succ]
              simp
            rw [e] at this; exact this
          have N2 := Lib.hid hn2
          have N3 := Lib.hid (below_putAt (B2.out.drew) (b := wo.heap.size) (i := k) (Nat.le_refl _) L[k].str)
          unfold ARow.str at k1
          have e1 : L[k].str = .string (strOf (L[k].2.1 ++ L[k].2.2.1)) := rfl
          rw [e1] at N2 N3
          generalize L[k].2.1 ++ L[k].2.2.1 = bs at k1 N2 N3 e1
          clear hn2 hvk hsk e1 ht
          cases Ak with
          | none =>
            obtain ⟨rfl, rfl⟩ := hm3 rfl
            go_wp2
            refine wp_region_T [14] [] (fun _ => True) (by kernel_rfl) (by kernel_rfl) trivial ?_
            repeat (first
              | (refine wpT_skip (by rfl) ?_; go_simp)
              | (refine wpT_here (by rfl) (by rfl) (by rfl) (fun K hK => ?_); go_big_quiet_op; refine hK _ ?_; clear hK K)
              | (refine wpT_loud (by rfl) (by rfl) (fun K hK => ?_); go_big_op; refine hK _ _ trivial ?_; clear hK K))
            refine wpT_nil ?_
            go_wp2
            go_roundw
            case rel => exact ⟨k + 1, by omega, by go_num, N2.out, N3.out⟩
            case measure => simp [intOf]; omega
          | some a =>
            go_wp2
            refine wp_region_T [14] [] (fun _ => True) (by kernel_rfl) (by kernel_rfl) trivial ?_
            repeat (first
              | (refine wpT_skip (by rfl) ?_; go_simp)
              | (refine wpT_here (by rfl) (by rfl) (by rfl) (fun K hK => ?_); go_big_quiet_op; refine hK _ ?_; clear hK K)
              | (refine wpT_loud (by rfl) (by rfl) (fun K hK => ?_); go_big_op; refine hK _ _ trivial ?_; clear hK K))
            refine wpT_nil ?_
            go_wp2
            go_roundw
            case rel => exact ⟨k + 1, by omega, by go_num, N2.out, N3.out⟩
            case measure => simp [intOf]; omega
        · obtain rfl : k = n := by omega
          have c1 : wr.cell? ⟨g, o + i, none⟩ = some (.slice Ai mi ci) := by rw [← HVI.out]; exact (World.cell?_of_block (a := ⟨g, o + i, none⟩) (B2.out.block g (by omega))).trans (SO.out i hiL)
          have o1 := (PO.out.below B2.out).own i hiL
          rw [HVI.out] at o1
          have O1 := Lib.hid o1; clear o1
          go_wp2_with (go_at_call 38; refine (over_any _ _ _ _ _ O1.out).mono ?_; rintro e w1 ⟨rfl, hO1, hg1⟩; have O2 := Lib.hid hO1; have G1 := Lib.hid hg1; clear hO1 hg1; dsimp only)
          obtain ⟨wp, rfl⟩ : ∃ wp : World, wp = wr := ⟨_, rfl⟩
          have hlo : ∀ r, (Value.slice Ai mi ci).ownBlock = some r → r < wo.heap.size := fun r hr => by
            have := (PO.out.own i hiL).lt (g := r) (by rw [HVI.out]; exact hr); exact this.2
          have b1 : Blk w1 wo.heap.size 9 (L.map ARow.str).toArray := by
            have := (B1.out.grown G1.out fun e => by have := hlo _ e.symm; omega)
            rw [List.take_of_length_le (by rw [HN.out]; exact Nat.le_refl _), Nat.sub_self, List.replicate_zero, List.append_nil] at this; exact this
          have hsz : wo.heap.size ≤ wp.heap.size := B2.out.size
          have hsz1 : wp.heap.size ≤ w1.heap.size := G1.out.size
          have hgi : (Value.slice Ai mi ci).ownBlock ≠ some g := by have := HG.out i hiL; rw [HVI.out] at this; exact this
          have cell1 : ∀ j (hj : j < L.length), w1.cell? ⟨g, o + j, none⟩ = some L[j].1.v := fun j hj =>
            (World.cell?_of_block (a := ⟨g, o + j, none⟩) (G1.out.block g (by omega) (fun e => hgi e.symm))).trans ((World.cell?_of_block (a := ⟨g, o + j, none⟩) (B2.out.block g (by omega))).trans (SO.out j hj))
          have C1 := Lib.hid cell1; have S1 := Lib.hid b1; clear cell1 b1
          have own1 : ∀ j (hj : j < L.length), j ≠ i → Own (byteT L[j].2.2.2) w1 base L[j].1.v L[j].2.1 L[j].2.2.1 := fun j hj hne => by
            refine ((PO.out.below B2.out).own j hj).grown G1.out ?_
            rcases HP.out.ne j i hj hiL hne with h | h
            · exact .inl h
            · exact .inr (by rw [HVI.out] at h; exact h)
          have W1 := Lib.hid own1; clear own1
          clear c1 B1
          go_loopw [6] (fun v wr => ∃ q : Nat, q ≤ k ∧ v = .int .i64 (q : Int) ∧ Below w1.heap.size w1 wr) (fun v _ => k - (intOf v).toNat)
          case atStart => exact ⟨0, by omega, rfl, Below.refl _ _⟩
          case round =>
            obtain ⟨q, hq, rfl, b2⟩ := hrel
            have B3 := Lib.hid b2; clear b2
            by_cases hlt3 : q < k
            · by_cases hqi : q = i
              · subst hqi
                go_wp2
                refine wp_region_T [] [] (fun _ => True) (by kernel_rfl) (by kernel_rfl) trivial ?_
                repeat (first
                  | (refine wpT_skip (by rfl) ?_; go_simp)
                  | (refine wpT_here (by rfl) (by rfl) (by rfl) (fun K hK => ?_); go_big_quiet_op; refine hK _ ?_; clear hK K)
                  | (refine wpT_loud (by rfl) (by rfl) (fun K hK => ?_); go_big_op; refine hK _ _ trivial ?_; clear hK K))
                refine wpT_nil ?_
                go_wp2
                go_roundw
                case rel => exact ⟨q + 1, by omega, by go_num, B3.out.drew⟩
                case measure => simp [intOf]; omega
              · have hqL : q < L.length := by rw [HN.out]; exact hlt3
                have oq := (W1.out q hqL hqi).belowSize B3.out
                obtain ⟨Ak, mk, ck, hvk, hm1, hm2, hm3, hsk⟩ := own_str oq
                have k1 := hsk wr.drew oq
                have c1 : wr.cell? ⟨g, o + q, none⟩ = some (.slice Ak mk ck) := by rw [← hvk]; exact (World.cell?_of_block (a := ⟨g, o + q, none⟩) (B3.out.block g (by omega))).trans (C1.out q hqL)
                have c2 : wr.cell? ⟨wo.heap.size, q, none⟩ = some L[q].str := by
                  rw [(S1.out.below B3.out S1.out.lt).cell, List.getElem?_toArray, List.getElem?_map, List.getElem?_eq_getElem hqL]; rfl
                have hne : ((q : Int) != (i : Int)) = true := by simp; omega
                unfold ARow.str at k1 c2
                generalize strOf (L[q].2.1 ++ L[q].2.2.1) = bs at k1 c2
                clear oq hvk hsk
                cases Ak with
                | none =>
                  obtain ⟨rfl, rfl⟩ := hm3 rfl
                  go_wp2
                  refine wp_region_T [] [] (fun _ => True) (by kernel_rfl) (by kernel_rfl) trivial ?_
                  repeat (first
                    | (refine wpT_skip (by rfl) ?_; go_simp)
                    | (refine wpT_here (by rfl) (by rfl) (by rfl) (fun K hK => ?_); go_big_quiet_op; refine hK _ ?_; clear hK K)
                    | (refine wpT_loud (by rfl) (by rfl) (fun K hK => ?_); go_big_op; refine hK _ _ trivial ?_; clear hK K))
                  refine wpT_nil ?_
                  go_wp2
                  go_roundw
                  case rel => exact ⟨q + 1, by omega, by go_num, B3.out.drew⟩
                  case measure => simp [intOf]; omega
                | some a =>
                  go_wp2
                  refine wp_region_T [] [] (fun _ => True) (by kernel_rfl) (by kernel_rfl) trivial ?_
                  repeat (first
                    | (refine wpT_skip (by rfl) ?_; go_simp)
                    | (refine wpT_here (by rfl) (by rfl) (by rfl) (fun K hK => ?_); go_big_quiet_op; refine hK _ ?_; clear hK K)
                    | (refine wpT_loud (by rfl) (by rfl) (fun K hK => ?_); go_big_op; refine hK _ _ trivial ?_; clear hK K))
                  refine wpT_nil ?_
                  go_wp2
                  go_roundw
                  case rel => exact ⟨q + 1, by omega, by go_num, B3.out.drew⟩
                  case measure => simp [intOf]; omega
            · obtain rfl : q = k := by omega
              have c1 : wr.cell? ⟨g, o + i, none⟩ = some (.slice Ai mi ci) := by rw [← HVI.out]; exact (World.cell?_of_block (a := ⟨g, o + i, none⟩) (B3.out.block g (by omega))).trans (C1.out i hiL)
              have O3 := Lib.hid (O2.out.belowSize B3.out)
              have hsz2 : w1.heap.size ≤ wr.heap.size := B3.out.size
              go_wp2_with (go_at_call 38; refine (over_any _ _ _ _ _ O3.out).mono ?_; rintro e w4 ⟨rfl, hO4, hg4⟩; have O4 := Lib.hid hO4; have G4 := Lib.hid hg4; clear hO4 hg4; dsimp only)
              go_roundw
              case rel =>
                refine ⟨i + 1, by omega, by go_num, ?_⟩
                have o4 := O4.out
                rw [map_over_over, map_over_over] at o4
                refine ⟨?_, ?_, ?_, ?_, ?_⟩
                · rw [G4.out.os, B3.out.os, G1.out.os, B2.out.os, HB.out.os]
                · rw [G4.out.tape, B3.out.tape, G1.out.tape, B2.out.tape, HB.out.tape]
                · rw [G4.out.output, B3.out.output, G1.out.output, B2.out.output, HB.out.output]
                · have := G4.out.size; omega
                · intro r hr
                  by_cases hri : (Value.slice Ai mi ci).ownBlock = some r
                  · rw [own_same O1.out o4 hri, B2.out.block r (by omega), HB.out.block r hr]
                  · rw [G4.out.block r (by omega) (fun e => hri e.symm), B3.out.block r (by omega), G1.out.block r (by omega) (fun e => hri e.symm), B2.out.block r (by omega), HB.out.block r hr]
              case measure => simp [intOf]; omega
    · obtain rfl : i = n := by omega
      go_wp2
      go_ret
      exact ⟨rfl, HB.out⟩
end Go.Proofs.Ytgffimanhmpohaa
/- ApartBytes of slices that own their memory, written out where they are asked about; guards that are known to hold. -/
namespace Go.Proofs.Ytgffimanhmpohaa
open Go Go.RowKit
section
variable {P : Program} {τ : Tab} {w0 w : World} {N : Gh} {g gS : Gh} {st st' sq sq' : St} {nt : Nat} {a : Act}
theorem zero_u8 : zeroOf Try.prog 5 = [.int .u8 0] := by kernel_rfl
theorem flat_z (m : Nat) : (List.replicate m [Value.int .u8 0]).flatten = (List.replicate m (0 : UInt8)).map B8 := by
  induction m with
  | zero => rfl
  | succ m ih => rw [List.replicate_succ, List.flatten_cons, ih, List.replicate_succ]; rfl
end
end Go.Proofs.Ytgffimanhmpohaa
/- Rows that no frame owns: lists of bytes, each with memory of its own; contracts that hand them out. -/
namespace Go.Proofs.Ytgffimanhmpohaa
open Go Go.RowKit
/-- A slice on its own: its block, its length and room, the block's cells; the first k of them stay as they are. -/
structure XR where
  A : Option Nat
  n : Nat
  c : Nat
  tid : TypeId
  cells : List Value
  k : Nat
def XR.v (x : XR) : Value := .slice (x.A.map fun b => ⟨b, 0, none⟩) x.n x.c
theorem XR.own (x : XR) : x.v.ownBlock = x.A := by unfold XR.v; cases x.A <;> rfl
structure XOk (lo : Nat) (g : Gh) (w : World) (x : XR) : Prop where
  le : x.n ≤ x.c ∧ x.c ≤ maxLen
  nil : x.A = none → x.c = 0
  own : ∀ b, x.A = some b → ¬ g.has b ∧ lo ≤ b ∧ Blk w b x.tid x.cells.toArray ∧ ∀ o u, o < x.k → x.cells[o]? = some u → g.ro b o = some u
theorem XOk.lt {lo : Nat} {g : Gh} {w : World} {x : XR} (h : XOk lo g w x) {b : Nat} (hb : x.A = some b) : b < w.heap.size := (h.own b hb).2.2.1.lt
def XApart (X : List XR) : Prop := X.Pairwise fun x y => x.A = none ∨ x.A ≠ y.A
structure Xs (lo : Nat) (g : Gh) (w : World) (X : List XR) : Prop where
  ok : ∀ x ∈ X, XOk lo g w x
  un : XApart X
/-- As Fr, but for blocks from lo on. -/
structure FrX (lo : Nat) (w0 : World) (N g : Gh) (w : World) : Prop where
  os : w.os = w0.os
  tape : w.tape = w0.tape
  output : w.output = w0.output
  size : w0.heap.size ≤ w.heap.size
  block : ∀ k, k < w0.heap.size → k < lo → ¬ N.has k → w.heap[k]? = w0.heap[k]?
  bx : ∀ (i : Nat) (x : Bx), g.bx[i]? = some x → x.off = false → w0.heap.size ≤ x.blk ∨ ∃ y, N.bx[i]? = some y ∧ y.off = false ∧ y.blk = x.blk
  rw : ∀ (i : Nat) (r : Rw) (k : Nat), g.rw[i]? = some r → r.v.ownBlock = some k → w0.heap.size ≤ k ∨ ∃ s, N.rw[i]? = some s ∧ s.v.ownBlock = some k
  ro : ∀ b, b < w0.heap.size → b < lo → ¬ N.has b → ∀ o, g.ro b o = N.ro b o
  le : N.le g
section
variable {P : Program} {τ : Tab} {w0 w w1 w2 : World} {N N1 N2 : Gh} {g g1 gS : Gh} {st st' sq sq' : St} {nt : Nat} {a : Act} {lo : Nat} {X Y : List XR}
theorem FrX.of (h : Fr w0 N g w) (lo : Nat) : FrX lo w0 N g w := ⟨h.kept.os, h.kept.tape, h.kept.output, h.kept.size, fun k hk _ hn => h.kept.block k hk hn, h.bx, h.rw, fun b hb _ hn => h.ro b hb hn, h.le⟩
theorem FrX.fr (h : FrX lo w0 N g w) (hlo : w0.heap.size ≤ lo) : Fr w0 N g w := ⟨⟨h.os, h.tape, h.output, h.size, fun k hk hn => h.block k hk (by omega) hn⟩, h.bx, h.rw, fun b hb hn => h.ro b hb (by omega) hn, h.le⟩
theorem FrX.back (h : FrX lo w0 N g w) {b : Nat} (hb : b < w0.heap.size) (hh : g.has b) : N.has b := by
  rcases hh with ⟨y, hy, hyo, he⟩ | ⟨s, hr, he⟩
  · obtain ⟨i, hi⟩ := List.getElem?_of_mem hy
    rcases h.bx i y hi hyo with h3 | ⟨z, h3, h4, h5⟩
    · omega
    · exact .inl ⟨z, List.mem_of_getElem? h3, h4, h5.trans he⟩
  · obtain ⟨i, hi⟩ := List.getElem?_of_mem hr
    rcases h.rw i s b hi he with h3 | ⟨z, h3, h4⟩
    · omega
    · exact .inr ⟨z, List.mem_of_getElem? h3, h4⟩
theorem FrX.trans (h : FrX lo w0 N N1 w1) (k : FrX lo w1 N1 g w) : FrX lo w0 N g w := by
  have hs := h.size
  refine ⟨k.os.trans h.os, k.tape.trans h.tape, k.output.trans h.output, Nat.le_trans h.size k.size, fun b hb hl hn => (k.block b (by omega) hl (fun hh => hn (h.back hb hh))).trans (h.block b hb hl hn), fun i x hx hxo => ?_, fun i r b hr hrb => ?_, fun b hb hl hn o => (k.ro b (by omega) hl (fun hh => hn (h.back hb hh)) o).trans (h.ro b hb hl hn o), h.le.trans k.le⟩
  · rcases k.bx i x hx hxo with h1 | ⟨y, h1, h2, h3⟩
    · exact .inl (by omega)
    · rw [← h3]; exact h.bx i y h1 h2
  · rcases k.rw i r b hr hrb with h1 | ⟨s, h1, h2⟩
    · exact .inl (by omega)
    · exact h.rw i s b h1 h2
theorem Inv.self {bx : List (Ty × AV)} {fz : List Nat} {rw : List (TypeId × Nat)} (HI : Inv P w0 N g bx fz rw w) : Inv P w g g bx fz rw w :=
  ⟨HI.mem, ⟨Kept.refl _ _, fun i x hx hxo => .inr ⟨x, hx, hxo, rfl⟩, fun i r k hr hrk => .inr ⟨r, hr, hrk⟩, fun _ _ _ _ => rfl, Gh.le.refl _⟩, HI.br, HI.fz, HI.wr, HI.wz⟩
theorem XOk.step {x : XR} (h : XOk lo N1 w1 x) {bx : List (Ty × AV)} {fz : List Nat} {rw : List (TypeId × Nat)} (HI : Inv P w1 N1 g bx fz rw w) : XOk lo g w x := by
  have hB := FrX.of HI.fr w1.heap.size
  refine ⟨h.le, h.nil, fun b hb => ?_⟩
  obtain ⟨h1, h2, h3, h4⟩ := h.own b hb
  exact ⟨fun hh => h1 (hB.back h3.lt hh), h2, h3.kept HI.fr.kept h1, fun o u ho hu => HI.fr.le.ro _ _ _ (h4 o u ho hu)⟩
theorem Xs.step (h : Xs lo N1 w1 X) {bx : List (Ty × AV)} {fz : List Nat} {rw : List (TypeId × Nat)} (HI : Inv P w1 N1 g bx fz rw w) : Xs lo g w X := ⟨fun x hx => (h.ok x hx).step HI, h.un⟩
/-- A frame, and rows on their own. -/
def RelX (lo : Nat) (P : Program) (w0 : World) (N : Gh) (nt : Nat) (st : St) (X : List XR) (a : Act) (w : World) : Prop :=
  ∃ g, Inv P w g g st.bx st.fz st.rw w ∧ FrX lo w0 N g w ∧ FR g nt st a ∧ Xs lo g w X
theorem Rel.toX (H : Rel P w0 N nt st a w) (lo : Nat) : RelX lo P w0 N nt st [] a w := by
  obtain ⟨g, HI, hF⟩ := H
  exact ⟨g, HI.self, .of HI.fr lo, hF, ⟨fun x hx => (by cases hx), List.Pairwise.nil⟩⟩
theorem RelX.open_ (H : RelX lo P w0 N nt st X a w) : ∃ N1, FrX lo w0 N N1 w ∧ Xs lo N1 w X ∧ Rel P w N1 nt st a w ∧ N1.bx.length = st.bx.length ∧ N1.rw.length = st.rw.length := by
  obtain ⟨g, HI, hB, hF, hX⟩ := H
  exact ⟨g, hB, hX, ⟨g, HI, hF⟩, HI.br.len, by rw [← HI.wr, List.length_map]⟩
theorem RelX.close (hB : FrX lo w0 N N1 w1) (hX : Xs lo N1 w1 X) (H : Rel P w1 N1 nt st a w) : RelX lo P w0 N nt st X a w := by
  obtain ⟨g, HI, hF⟩ := H
  exact ⟨g, HI.self, hB.trans (.of HI.fr lo), hF, hX.step HI⟩
theorem RelX.eq (H : RelX lo P w0 N nt st X a w) (h : X = Y) : RelX lo P w0 N nt st Y a w := h ▸ H
/-- Bytes that are the last row's become a row on its own. -/
theorem v_pub0 (HI : Inv P w g g st.bx st.fz st.rw w) (hB : FrX lo w0 N g w) (hF : FR g nt st a) (hX : Xs lo g w X) (hlo : lo ≤ w0.heap.size) (ks : List Nat) (d k e : Nat) {l : List UInt8} (hk : st.rw.length = k + 1) (hNk : N.rw.length ≤ k) (hd : find d st.t = some (none, .bs l (some k))) (hrow : st.rw[k]? = some (e, l.length))
    (h1 : keepT ks st.bx.length k st.t = true) (h2 : (st.bx.take st.bx.length).all (fun x => low st.bx.length k 4 x.2) = true) :
    ∃ x : XR, (x.n = l.length ∧ x.tid = e ∧ x.k = l.length ∧ ∃ m, x.c = l.length + m ∧ x.cells = l.map B8 ++ (List.replicate m (zeroOf P e)).flatten) ∧ Inv P w (g.cut st.bx.length k) (g.cut st.bx.length k) (st.bx.take st.bx.length) (st.fz) (st.rw.take k) w ∧ FrX lo w0 N (g.cut st.bx.length k) w ∧ FR (g.cut st.bx.length k) nt ⟨(d, none, .v x.v) :: st.t.filter (fun p => ks.contains p.1), st.bx.take st.bx.length, st.fz, st.rw.take k⟩ a ∧ Xs lo (g.cut st.bx.length k) w (X ++ [x]) := by
  have hgl : g.rw.length = k + 1 := by rw [← hk, ← HI.wr, List.length_map]
  have hbs := (hF.t _ (find_mem hd) trivial).bs_inv
  have hv0 : a.tmps.getD d undef = a.tmps.getD d undef := rfl
  generalize hvd : a.tmps.getD d undef = vd at hbs
  cases hbs with
  | @bs _ _ _ A c hc hm hr ht =>
    obtain ⟨r, hrk, _, h3⟩ := ht k rfl
    have hw : (r.tid, r.n) = (e, l.length) := by
      have := HI.wr
      rw [← this, List.getElem?_map, hrk] at hrow
      injection hrow
    simp only [Prod.mk.injEq] at hw
    obtain ⟨hv, hcx⟩ := h3 hw.2
    have hcut := HI.loose.cut (nb := st.bx.length) (nr := k) (Nat.zero_le _) (Nat.zero_le _) h2
    have hbx : ∀ {i : Nat} {x : Bx}, (g.cut st.bx.length k).bx[i]? = some x → g.bx[i]? = some x := fun {i x} hx => by
      have : (g.bx.take st.bx.length)[i]? = some x := hx
      rw [List.getElem?_take] at this; split at this; exact this; cases this
    have hrw : ∀ {i : Nat} {x : Rw}, (g.cut st.bx.length k).rw[i]? = some x → i < k ∧ g.rw[i]? = some x := fun {i x} hx => by
      have : (g.rw.take k)[i]? = some x := hx
      rw [List.getElem?_take] at this; split at this; exact ⟨by assumption, this⟩; cases this
    have hhas : ∀ b, (g.cut st.bx.length k).has b → g.has b := fun b hh => by
      rcases hh with ⟨y, hy, h⟩ | ⟨s, hs, h⟩
      · exact .inl ⟨y, List.mem_of_mem_take hy, h⟩
      · exact .inr ⟨s, List.mem_of_mem_take hs, h⟩
    have hrow1 := HI.mem.rw k r hrk
    have hz := (HI.wz r (List.mem_of_getElem? hrk)).2
    have hxv : (⟨r.v.ownBlock, r.n, c, r.tid, r.cx ++ noughts r, l.length⟩ : XR).v = r.v := by
      rcases hrow1.at_ with ⟨q1, q2, q3⟩ | ⟨b, q1, q2, q3⟩
      · rw [q1] at hv; injection hv with _ hv1 hv2
        unfold XR.v; rw [q1, q2, ← hv2]; rfl
      · rw [q1] at hv; injection hv with _ hv1 hv2
        unfold XR.v; rw [q1, ← hv2]; rfl
    refine ⟨⟨r.v.ownBlock, r.n, c, r.tid, r.cx ++ noughts r, l.length⟩, ⟨hw.2, hw.1, rfl, r.m, by
      show c = l.length + r.m
      rcases hrow1.at_ with ⟨q1, q2, q3⟩ | ⟨b, q1, q2, q3⟩
      · rw [q1] at hv; injection hv with _ hv1 hv2; omega
      · rw [q1] at hv; injection hv with _ hv1 hv2; omega, by rw [hcx]; unfold noughts; rw [hz, hw.1]⟩, hcut.self, ⟨hB.os, hB.tape, hB.output, hB.size, hB.block, fun i x hx => hB.bx i x (hbx hx), fun i s b hs => hB.rw i s b (hrw hs).2, hB.ro, hB.le.ro, fun i x hx => ?_, fun i s hs => ?_⟩, ⟨hF.sz, hF.df, fun p hp hg => ?_, fun p hp hg => ?_⟩, ⟨fun x hx => ?_, ?_⟩⟩
    · obtain ⟨x', q1, q2⟩ := hB.le.bx i x hx
      refine ⟨x', ?_, q2⟩
      show (g.bx.take st.bx.length)[i]? = _
      rw [List.getElem?_take, if_pos (by rw [← HI.br.len]; exact (List.getElem?_eq_some_iff.1 q1).1)]; exact q1
    · obtain ⟨x', q1, q2⟩ := hB.le.rw i s hs
      refine ⟨x', ?_, q2⟩
      show (g.rw.take k)[i]? = _
      rw [List.getElem?_take, if_pos (Nat.lt_of_lt_of_le (List.getElem?_eq_some_iff.1 hs).1 hNk)]; exact q1
    · rcases List.mem_cons.1 hp with rfl | hp
      · show RV _ (.v _) (a.tmps.getD d undef)
        rw [hvd, hxv, hv]; exact RV.v_of rfl
      · simp only [List.mem_filter] at hp
        simp only [keepT, List.all_eq_true, Bool.or_eq_true, Bool.not_eq_true'] at h1
        have hl : low st.bx.length k 4 p.2.2 = true := by
          rcases h1 p hp.1 with h | h
          · rw [h] at hp; cases hp.2
          · exact h
        exact (hF.t p hp.1 hg).low_ (d := 3) hl
    · rcases List.mem_cons.1 hp with rfl | hp
      · exact absurd trivial hg
      · simp only [List.mem_filter] at hp; exact hF.u p hp.1 hg
    · rcases List.mem_append.1 hx with hx | hx
      · have h := hX.ok x hx
        exact ⟨h.le, h.nil, fun b hb => ⟨fun hh => (h.own b hb).1 (hhas b hh), (h.own b hb).2⟩⟩
      · simp only [List.mem_singleton] at hx
        subst hx
        refine ⟨⟨by show r.n ≤ c; rw [hw.2]; exact hc, hm⟩, fun hA => ?_, fun b hb => ⟨fun hh => ?_, ?_, ?_, fun o u ho hu => ?_⟩⟩
        · show c = 0
          rcases hrow1.at_ with ⟨q1, _⟩ | ⟨b, q1, _⟩
          · rw [q1] at hv; injection hv with _ _ hv2; exact hv2.symm
          · have : r.v.ownBlock = none := hA
            rw [q1] at this; cases this
        · rcases hh with ⟨y, hy, hyo, he⟩ | ⟨s, hs, he⟩
          · obtain ⟨i, hi⟩ := List.getElem?_of_mem hy
            exact HI.mem.rb i k y r (hbx hi) hrk hyo (by rw [he]; exact hb)
          · obtain ⟨i, hi⟩ := List.getElem?_of_mem hs
            have := HI.mem.rr i k s r b (hrw hi).2 hrk he hb
            have := (hrw hi).1
            omega
        · rcases hB.rw k r b hrk hb with h | ⟨s, h, _⟩
          · omega
          · have := (List.getElem?_eq_some_iff.1 h).1; omega
        · have hb : r.v.ownBlock = some b := hb
          rcases hrow1.at_ with ⟨q1, _⟩ | ⟨b', q1, q2, _⟩
          · rw [q1] at hb; cases hb
          · rw [q1] at hb; injection hb with hb; subst hb; exact q2
        · refine HI.mem.rwo k r b hrk hb o u ?_
          have hu : (r.cx ++ noughts r)[o]? = some u := hu
          rwa [List.getElem?_append_left (by rw [hcx, List.length_map]; exact ho)] at hu
    · unfold XApart
      rw [List.pairwise_append]
      refine ⟨hX.un, List.pairwise_singleton _ _, fun x hx y hy => ?_⟩
      simp only [List.mem_singleton] at hy
      subst hy
      cases hb : x.A with
      | none => exact .inl rfl
      | some b =>
        refine .inr fun e => ?_
        have hn := ((hX.ok x hx).own b hb).1
        exact hn (.inr ⟨r, List.mem_of_getElem? hrk, e.symm⟩)
theorem v_pub (H : RelX lo P w0 N nt st X a w) (hlo : lo ≤ w0.heap.size) (ks : List Nat) (d k e : Nat) {l : List UInt8} (hk : st.rw.length = k + 1) (hNk : N.rw.length ≤ k) (hd : find d st.t = some (none, .bs l (some k))) (hrow : st.rw[k]? = some (e, l.length))
    (h1 : keepT ks st.bx.length k st.t = true) (h2 : (st.bx.take st.bx.length).all (fun x => low st.bx.length k 4 x.2) = true) :
    ∃ x : XR, (x.n = l.length ∧ x.tid = e ∧ x.k = l.length ∧ ∃ m, x.c = l.length + m ∧ x.cells = l.map B8 ++ (List.replicate m (zeroOf P e)).flatten) ∧ RelX lo P w0 N nt ⟨(d, none, .v x.v) :: st.t.filter (fun p => ks.contains p.1), st.bx.take st.bx.length, st.fz, st.rw.take k⟩ (X ++ [x]) a w := by
  obtain ⟨g, HI, hB, hF, hX⟩ := H
  obtain ⟨x, h, q⟩ := v_pub0 HI hB hF hX hlo ks d k e hk hNk hd hrow h1 h2
  exact ⟨x, h, _, q⟩
/-- Lent bytes that are the last box become a slice on its own. -/
theorem v_pubC0 (HI : Inv P w g g st.bx st.fz st.rw w) (hB : FrX lo w0 N g w) (hF : FR g nt st a) (hX : Xs lo g w X) (hlo : lo ≤ w0.heap.size) (ks : List Nat) (d i : Nat) {full : List UInt8} {n m : Nat} {l' : List UInt8} (hi : st.bx.length = i + 1) (hNi : N.bx.length ≤ i) (hd : find d st.t = some (none, .bc full n (some i))) (hbx0 : st.bx[i]? = some (.ba m, .ba l'))
    (h1 : keepT ks i st.rw.length st.t = true) (h2 : (st.bx.take i).all (fun x => low i st.rw.length 4 x.2) = true) :
    ∃ x : XR, (x.n = n ∧ x.c = full.length ∧ x.k = full.length ∧ x.cells = full.map B8) ∧ Inv P w (g.cut i st.rw.length) (g.cut i st.rw.length) (st.bx.take i) (st.fz.filter (fun j => decide (j < i))) (st.rw.take st.rw.length) w ∧ FrX lo w0 N (g.cut i st.rw.length) w ∧ FR (g.cut i st.rw.length) nt ⟨(d, none, .v x.v) :: st.t.filter (fun p => ks.contains p.1), st.bx.take i, st.fz.filter (fun j => decide (j < i)), st.rw.take st.rw.length⟩ a ∧ Xs lo (g.cut i st.rw.length) w (X ++ [x]) := by
  have hbl : g.bx.length = i + 1 := by rw [← hi]; exact HI.br.len
  have hrl : g.rw.length = st.rw.length := by rw [← HI.wr, List.length_map]
  have hbs := (hF.t _ (find_mem hd) trivial).bc_inv
  generalize hvd : a.tmps.getD d undef = vd at hbs
  cases hbs with
  | bc hn hm hr ht =>
    rename_i A
    obtain ⟨y, hy, hA, hty⟩ := ht i rfl
    obtain ⟨y', hy', hT, hrc⟩ := HI.br.at_ i _ _ hbx0
    rw [hy] at hy'; injection hy' with hy'; subst hy'
    rw [hty] at hT; injection hT with hT
    obtain ⟨hyo, hym, hrc⟩ := hrc.rc rfl
    have hblk := (HI.mem.bx i y hy hyo).c hym
    have hcells : y.cells = l'.map B8 ∧ l'.length = m := by
      generalize hcs : y.cells = cs at hrc
      cases hrc with
      | ba h => exact ⟨rfl, h⟩
    have hll : l'.length = full.length := by rw [hcells.2, hT]
    have hfl : l' = full := by
      apply List.ext_getElem hll
      intro j hj1 hj2
      rcases hr with h | ⟨b, o, hb, hj⟩
      · subst h; simp at hj2
      · rw [hA] at hb
        injection hb with hb
        injection hb with hb1 hb2
        have h5 := HI.mem.ro _ _ _ (hj j hj2)
        rw [← hb1, ← hb2, Nat.zero_add, hblk.cell, hcells.1] at h5
        simp only [List.getElem?_toArray, List.getElem?_map, List.getElem?_eq_getElem hj1, Option.map_some, Option.some.injEq] at h5
        have h6 : B8 l'[j] = B8 full[j] := h5
        simp only [B8, Value.int.injEq, true_and] at h6
        exact UInt8.toNat_inj.1 (by omega)
    subst hfl
    have hcut := HI.loose.cut (nb := i) (nr := st.rw.length) (Nat.zero_le _) (Nat.zero_le _) h2
    have hbx : ∀ {j : Nat} {x : Bx}, (g.cut i st.rw.length).bx[j]? = some x → j < i ∧ g.bx[j]? = some x := fun {j x} hx => by
      have : (g.bx.take i)[j]? = some x := hx
      rw [List.getElem?_take] at this; split at this; exact ⟨by assumption, this⟩; cases this
    have hrw : ∀ {j : Nat} {x : Rw}, (g.cut i st.rw.length).rw[j]? = some x → g.rw[j]? = some x := fun {j x} hx => by
      have : (g.rw.take st.rw.length)[j]? = some x := hx
      rw [List.getElem?_take] at this; split at this; exact this; cases this
    have hhas : ∀ b, (g.cut i st.rw.length).has b → g.has b := fun b hh => by
      rcases hh with ⟨y, hy, h⟩ | ⟨s, hs, h⟩
      · exact .inl ⟨y, List.mem_of_mem_take hy, h⟩
      · exact .inr ⟨s, List.mem_of_mem_take hs, h⟩
    have hself := hcut.self
    refine ⟨⟨some y.blk, n, l'.length, y.tid, l'.map B8, l'.length⟩, ⟨rfl, rfl, rfl, rfl⟩, ⟨hself.mem, hself.fr, hself.br, fun j x hx hf => ?_, hself.wr, hself.wz⟩, ⟨hB.os, hB.tape, hB.output, hB.size, hB.block, fun j x hx => hB.bx j x (hbx hx).2, fun j s b hs => hB.rw j s b (hrw hs), hB.ro, hB.le.ro, fun j x hx => ?_, fun j s hs => ?_⟩, ⟨hF.sz, hF.df, fun p hp hg => ?_, fun p hp hg => ?_⟩, ⟨fun x hx => ?_, ?_⟩⟩
    · exact List.mem_filter.2 ⟨HI.fz j x (hbx hx).2 hf, decide_eq_true (hbx hx).1⟩
    · obtain ⟨x', q1, q2⟩ := hB.le.bx j x hx
      refine ⟨x', ?_, q2⟩
      show (g.bx.take i)[j]? = _
      rw [List.getElem?_take, if_pos (Nat.lt_of_lt_of_le (List.getElem?_eq_some_iff.1 hx).1 hNi)]; exact q1
    · obtain ⟨x', q1, q2⟩ := hB.le.rw j s hs
      refine ⟨x', ?_, q2⟩
      show (g.rw.take st.rw.length)[j]? = _
      rw [List.getElem?_take, if_pos (by rw [← hrl]; exact (List.getElem?_eq_some_iff.1 q1).1)]; exact q1
    · rcases List.mem_cons.1 hp with rfl | hp
      · show RV _ (.v _) (a.tmps.getD d undef)
        rw [hvd, hA]; exact RV.v_of rfl
      · simp only [List.mem_filter] at hp
        simp only [keepT, List.all_eq_true, Bool.or_eq_true, Bool.not_eq_true'] at h1
        have hl : low i st.rw.length 4 p.2.2 = true := by
          rcases h1 p hp.1 with h | h
          · rw [h] at hp; cases hp.2
          · exact h
        exact (hF.t p hp.1 hg).low_ (d := 3) hl
    · rcases List.mem_cons.1 hp with rfl | hp
      · exact absurd trivial hg
      · simp only [List.mem_filter] at hp; exact hF.u p hp.1 hg
    · rcases List.mem_append.1 hx with hx | hx
      · have h := hX.ok x hx
        exact ⟨h.le, h.nil, fun b hb => ⟨fun hh => (h.own b hb).1 (hhas b hh), (h.own b hb).2⟩⟩
      · simp only [List.mem_singleton] at hx
        subst hx
        refine ⟨⟨hn, hm⟩, fun hA => (by cases hA), fun b hb => ?_⟩
        injection hb with hb
        subst hb
        refine ⟨fun hh => ?_, ?_, by rw [← hcells.1]; exact hblk, fun o u ho hu => ?_⟩
        · rcases hh with ⟨z, hz, hzo, he⟩ | ⟨s, hs, he⟩
          · obtain ⟨j, hj⟩ := List.getElem?_of_mem hz
            have := HI.mem.bb j i z y (hbx hj).2 hy hzo hyo he
            have := (hbx hj).1
            omega
          · obtain ⟨j, hj⟩ := List.getElem?_of_mem hs
            exact HI.mem.rb i j y s hy (hrw hj) hyo he
        · rcases hB.bx i y hy hyo with h | ⟨s, h, _⟩
          · omega
          · have := (List.getElem?_eq_some_iff.1 h).1; omega
        · rcases hr with h | ⟨b, o', hb, hj⟩
          · subst h; simp at hu
          · rw [hA] at hb
            injection hb with hb
            injection hb with hb1 hb2
            have hol : o < l'.length := ho
            have := hj o hol
            rw [← hb1, ← hb2, Nat.zero_add] at this
            have hu : (l'.map B8)[o]? = some u := hu
            rw [List.getElem?_map, List.getElem?_eq_getElem hol] at hu
            show g.ro y.blk o = some u
            rw [this]; exact hu
    · unfold XApart
      rw [List.pairwise_append]
      refine ⟨hX.un, List.pairwise_singleton _ _, fun x hx z hz => ?_⟩
      simp only [List.mem_singleton] at hz
      subst hz
      cases hb : x.A with
      | none => exact .inl rfl
      | some b =>
        refine .inr fun e => ?_
        injection e with e
        exact ((hX.ok x hx).own b hb).1 (.inl ⟨y, List.mem_of_getElem? hy, hyo, e.symm⟩)
/-- Rows on their own are seen as bytes. -/
inductive SeeX (X : List XR) : AV → AV → Prop
  | refl (x : AV) : SeeX X x x
  | pub (x : XR) (l : List UInt8) (h : x ∈ X) (hk : l.length ≤ x.k) (hn : x.n = l.length) (hc : x.cells.take l.length = l.map B8) : SeeX X (.v x.v) (.bs l none)
  | pubc (x : XR) (full : List UInt8) (h : x ∈ X) (hk : full.length ≤ x.k) (hc : x.c = full.length) (hs : x.cells = full.map B8) : SeeX X (.v x.v) (.bc full x.n none)
  | bs (l : List UInt8) (tok : Option Nat) : SeeX X (.bs l tok) (.bs l none)
  | bc (full l : List UInt8) (n : Nat) (tok : Option Nat) (h : full.take n = l) : SeeX X (.bc full n tok) (.bs l none)
  | nil : SeeX X (.v (.slice none 0 0)) (.bs [] none)
  | st {fs fs' : List AV} (hl : fs.length = fs'.length) (h : ∀ i (h1 : i < fs.length) (h2 : i < fs'.length), SeeX X fs[i] fs'[i]) : SeeX X (.st fs) (.st fs')
  | sl {T : Ty} {es es' : List AV} {tok : Option Nat} (hl : es.length = es'.length) (h : ∀ i (h1 : i < es.length) (h2 : i < es'.length), SeeX X es[i] es'[i]) : SeeX X (.sl T es tok) (.sl T es' none)
  | slc {T : Ty} {es es' : List AV} {n : Nat} (hl : es.length = es'.length) (h : ∀ i (h1 : i < es.length) (h2 : i < es'.length), SeeX X es[i] es'[i]) : SeeX X (.slc T es n) (.slc T es' n)
theorem RC.seeX {x y : AV} (hX : Xs lo N w0 X) (hs : SeeX X x y) : ∀ {g : Gh} {T : Ty} {cs : List Value}, (∀ b o u, N.ro b o = some u → g.ro b o = some u) → RC g T x cs → RC g T y cs := by
  induction hs with
  | refl x => intro g T cs _ h; exact h
  | pub x l hx hk hn hc =>
    intro g T cs hro h
    obtain ⟨rfl, rfl⟩ := h.v_inv
    have ho := hX.ok x hx
    unfold XR.v
    rw [hn]
    refine .bs (by have := ho.le.1; omega) ho.le.2 ?_ fun i hi => by cases hi
    cases hA : x.A with
    | none => left; have := ho.nil hA; have := ho.le.1; exact List.length_eq_zero_iff.1 (by omega)
    | some b =>
      right
      refine ⟨b, 0, rfl, fun j hj => ?_⟩
      rw [Nat.zero_add]
      refine hro _ _ _ ((ho.own b hA).2.2.2 j _ (by omega) ?_)
      have : (x.cells.take l.length)[j]? = some (B8 l[j]) := by rw [hc, List.getElem?_map, List.getElem?_eq_getElem hj]; rfl
      rwa [List.getElem?_take, if_pos hj] at this
  | pubc x full hx hk hc hs =>
    intro g T cs hro h
    obtain ⟨rfl, rfl⟩ := h.v_inv
    have ho := hX.ok x hx
    unfold XR.v
    rw [hc]
    refine .bc (by have := ho.le.1; omega) (by have := ho.le.2; omega) ?_ fun i hi => by cases hi
    cases hA : x.A with
    | none => left; have := ho.nil hA; exact List.length_eq_zero_iff.1 (by omega)
    | some b =>
      right
      refine ⟨b, 0, rfl, fun j hj => ?_⟩
      rw [Nat.zero_add]
      refine hro _ _ _ ((ho.own b hA).2.2.2 j _ (by omega) ?_)
      rw [hs, List.getElem?_map, List.getElem?_eq_getElem hj]; rfl
  | bs l tok => intro g T cs _ h; cases h with | bs hc hm hr ht => exact .bs hc hm hr fun i hi => by cases hi
  | bc full l n tok hl =>
    intro g T cs _ h
    cases h with
    | bc hn hm hr ht =>
      rename_i A
      have hll : l.length = n := by rw [← hl, List.length_take]; omega
      rw [← hll]
      refine .bs (by omega) hm ?_ fun i hi => by cases hi
      rcases hr with h | ⟨b, o, hb, hj⟩
      · left; rw [← hl, h]; simp
      · refine .inr ⟨b, o, hb, fun j hj2 => ?_⟩
        have := hj j (by omega)
        subst hl
        simpa using this
  | nil => intro g T cs _ h; obtain ⟨rfl, rfl⟩ := h.v_inv; exact RC.nil1 rfl
  | @st fs fs' hl hsub ih =>
    intro g T cs hro h
    induction T generalizing cs fs fs' with
    | cn T Ts _ ihs =>
      cases h with
      | cn h hs =>
        cases fs' with
        | nil => cases hl
        | cons b m =>
          refine .cn (ih 0 (by simp) (by simp) hro h) (ihs (by simpa using hl) (fun i h1 h2 => hsub (i + 1) (by simpa using h1) (by simpa using h2)) (fun i h1 h2 => ?_) hs)
          intro g T cs hro h
          exact ih (i + 1) (by simpa using h1) (by simpa using h2) hro (by simpa using h)
    | nl => cases h; cases fs' with | nil => exact .nl | cons _ _ => cases hl
    | _ => cases h
  | @sl T es es' tok hl _ ih =>
    intro g T2 cs hro h
    cases h with
    | @sl _ _ _ _ A c hc hm F hr hv ht =>
      rw [hl] at hc ⊢
      refine .sl hc hm F ?_ (fun k hk => ih k (by rw [hl]; exact hk) hk (fun b o u hu => hro b o u hu) (hv k (by rw [hl]; exact hk))) fun i hi => by cases hi
      rcases hr with h | ⟨b, o, hA, hj⟩
      · left; subst h; exact List.length_eq_zero_iff.1 hl.symm
      · exact .inr ⟨b, o, hA, fun k hk => hj k (by rw [hl]; exact hk)⟩
  | @slc T es es' n hl _ ih =>
    intro g T2 cs hro h
    cases h with
    | @slc _ _ _ _ A hn hm F hr hv =>
      rw [hl] at hn hm ⊢
      refine .slc hn hm F ?_ (fun k hk => ih k (by rw [hl]; exact hk) hk (fun b o u hu => hro b o u hu) (hv k (by rw [hl]; exact hk)))
      rcases hr with h | ⟨b, o, hA, hj⟩
      · left; subst h; exact List.length_eq_zero_iff.1 hl.symm
      · exact .inr ⟨b, o, hA, fun k hk => hj k (by rw [hl]; exact hk)⟩
theorem SeeX.not {x y : AV} (h : SeeX X x y) : (x = .any → y = .any) ∧ (∀ az, x = .tup az → y = .tup az) := by
  cases h <;> exact ⟨fun e => (by first | exact e | cases e), fun az e => (by first | exact e | cases e)⟩
theorem RV.seeX {x y : AV} (hX : Xs lo N w0 X) (hs : SeeX X x y) (hro : ∀ b o u, N.ro b o = some u → g.ro b o = some u) {v : Value} (h : RV g x v) : RV g y v := by
  by_cases h1 : x = .any
  · rw [hs.not.1 h1]; trivial
  by_cases h2 : ∃ az, x = .tup az
  · obtain ⟨az, h2⟩ := h2
    rw [hs.not.2 az h2]; rw [h2] at h; exact h
  have h3 : RV1 g x v := by
    cases x with
    | any => exact absurd rfl h1
    | tup az => exact absurd ⟨az, rfl⟩ h2
    | _ => exact h
  rcases h3 with ⟨T, cs, e1, e2, e3⟩ | h3
  · exact RV1.rv (.inl ⟨T, cs, e1, e2.seeX hX hs hro, e3⟩)
  · exact RV1.rv (.inr (h3.seeX hX hs hro))
theorem v_seeX (hX : Xs lo N w0 X) (H : Rel P w0 N nt st a w) (d : Nat) {x : AV} (y : AV) (hs : SeeX X x y) (hd : find d st.t = some (none, x)) : Rel P w0 N nt ⟨nilT d y st.t, st.bx, st.fz, st.rw⟩ a w := by
  obtain ⟨g, HI, hF⟩ := H
  refine ⟨g, HI, hF.sz, hF.df, fun p hp hg => ?_, fun p hp hg => by rcases nilT_mem hp with h | h; (subst h; exact absurd trivial hg); exact hF.u p h hg⟩
  rcases nilT_mem hp with h | h
  · subst h; exact (hF.t _ (find_mem hd) trivial).seeX hX hs fun b o u hu => HI.fr.le.ro b o u hu
  · exact hF.t p h hg
/-- A contract that hands out rows on their own. -/
def PostX (P : Program) (w0 : World) (N : Gh) (R : List XR → List (Ty × AV) → List (TypeId × Nat) → AV → Prop) (e : Ending) (w' : World) : Prop :=
  ∃ X bx' rw' res g v, R X bx' rw' res ∧ e = .returned v ∧ Inv P w0 N g bx' [] rw' w' ∧ RV g res v ∧ Xs w0.heap.size g w' X
def VE (P : Program) (f : FuncId) (args : List AV) (R : List XR → List (Ty × AV) → List (TypeId × Nat) → AV → Prop) : Prop :=
  Fok P f ∧ ∀ (w : World) (N : Gh) (vs : List Value), Inv P w N N [] [] [] w → vs.length = args.length → (∀ (i : Nat) x v, args[i]? = some x → vs[i]? = some v → RV N x v) → Calls P f vs.toArray w (PostX P w N R)
theorem v_enterE {f : FuncId} {fn : Func} {c : Code} {args : List AV} {R : List XR → List (Ty × AV) → List (TypeId × Nat) → AV → Prop} (hf : P.funcs[f]? = some fn) (hb : fn.body = some c) (hnm : (fn.name == "runtime.NumGoroutine") = false) (hn : args.length ≤ fn.ntmps)
    (h : ∀ (N : Gh) (w0 : World) (a : Act) (w : World), N.bx.length ≤ 0 → N.rw.length ≤ 0 → Rel P w0 N fn.ntmps ⟨slots 0 args, [], [], []⟩ a w → c.wp P (bodyPost P fn (PostX P w0 N R)) a w) : VE P f args R := by
  refine ⟨⟨fn, hf, hnm, by rw [hb]; rfl⟩, ?_⟩
  intro w N vs hI hl hv
  refine calls_of_wp hf hb (h N w _ w (by rw [hI.br.len]; exact Nat.le_refl _) (by have := hI.wr; rw [List.map_eq_nil_iff] at this; rw [this]; exact Nat.le_refl _) ⟨N, hI, ?_, rfl, fun p hp _ => ?_, fun p hp hg => absurd (by obtain ⟨_, _, h2, _⟩ := slots_mem hp; rw [h2]; trivial) hg⟩)
  · simp only [Array.size_append, List.size_toArray, Array.size_replicate, hl]; omega
  · obtain ⟨i, h1, h2, h3⟩ := slots_mem hp
    have hi : i < vs.length := by rw [hl]; exact (List.getElem?_eq_some_iff.1 h3).1
    have := hv i p.2.2 vs[i] h3 (List.getElem?_eq_getElem hi)
    rw [h1, Nat.zero_add]
    have e : (vs.toArray ++ Array.replicate (fn.ntmps - vs.toArray.size) undef).getD i undef = vs[i] := by
      rw [Array.getD_eq_getD_getElem?, Array.getElem?_append_left (by simpa using hi)]; simp [hi]
    exact e ▸ this
theorem v_endG {fn : Func} {rs : List ResultVar} {nb nr : Nat} (js ks : List Nat) (hτ : τ.ok P) (hM : N.bx.length ≤ nb ∧ N.rw.length ≤ nr) (hr : fn.results = rs.toArray) (HI : Inv P w0 N g st.bx st.fz st.rw w) (hF : FR g nt st a)
    (hchk : (okSel js st.bx.length && okSel ks st.rw.length && usesB js st.bx && preOk js nb && preOk ks nr && rs.all (fun x => argOk js (resv τ st x))) = true)
    {bx' : List (Ty × AV)} {fz' : List Nat} {rw' : List (TypeId × Nat)} {ress : List AV} {res : AV} (hf : fzOk js st.fz fz' 0 = true) (hb : bxs (pickB js ks st.bx) bx') (hw : ks.filterMap (st.rw[·]?) = rw')
    (he : allP (sub 4) (rs.map fun x => ren (idx? js) (idx? ks) 4 (resv τ st x)) ress) (ht : tupOf ress = res) :
    a.defers = [] ∧ ∃ v, (results fn a.tmps).run P w = .ok v w ∧ Inv P w0 N (g.pick js ks) bx' fz' rw' w ∧ RV (g.pick js ks) res v := by
  subst ht
  simp only [Bool.and_eq_true] at hchk
  obtain ⟨⟨⟨⟨⟨c1, c2⟩, c3⟩, c4⟩, c5⟩, c6⟩ := hchk
  obtain ⟨hj, nj⟩ := okSel_ok c1
  obtain ⟨hk, nk⟩ := okSel_ok c2
  have hlr : g.rw.length = st.rw.length := by rw [← HI.wr, List.length_map]
  have hj' : ∀ j ∈ js, j < g.bx.length := fun j hm => by rw [HI.br.len]; exact hj j hm
  have hk' : ∀ k ∈ ks, k < g.rw.length := fun k hm => by rw [hlr]; exact hk k hm
  have p1 := fun j hj => preOk_ok c4 j (Nat.lt_of_lt_of_le hj hM.1)
  have p2 := fun j hj => preOk_ok c5 j (Nat.lt_of_lt_of_le hj hM.2)
  have hfr : Fr w0 N (g.pick js ks) w := by
    refine ⟨HI.fr.kept, fun i x hx hxo => ?_, fun i r k hr hrk => ?_, HI.fr.ro, ⟨HI.fr.le.ro, fun i x hx => ?_, fun i r hr => ?_⟩⟩
    · have hx' : (js.filterMap (g.bx[·]?))[i]? = some x := hx
      rw [pick_get hj'] at hx'
      obtain ⟨j, h1, h2⟩ := Option.bind_eq_some_iff.1 hx'
      rcases HI.fr.bx j x h2 hxo with h3 | ⟨y, h3, h4⟩
      · exact .inl h3
      · have := nodup_get nj h1 (p1 j (List.getElem?_eq_some_iff.1 h3).1); subst this
        exact .inr ⟨y, h3, h4⟩
    · have hx' : (ks.filterMap (g.rw[·]?))[i]? = some r := hr
      rw [pick_get hk'] at hx'
      obtain ⟨j, h1, h2⟩ := Option.bind_eq_some_iff.1 hx'
      rcases HI.fr.rw j r k h2 hrk with h3 | ⟨y, h3, h4⟩
      · exact .inl h3
      · have := nodup_get nk h1 (p2 j (List.getElem?_eq_some_iff.1 h3).1); subst this
        exact .inr ⟨y, h3, h4⟩
    · obtain ⟨x', h1, h2⟩ := HI.fr.le.bx i x hx
      refine ⟨x', ?_, h2⟩
      show (js.filterMap (g.bx[·]?))[i]? = _
      rw [pick_get hj', p1 i (List.getElem?_eq_some_iff.1 hx).1]; exact h1
    · obtain ⟨x', h1, h2⟩ := HI.fr.le.rw i r hr
      refine ⟨x', ?_, h2⟩
      show (ks.filterMap (g.rw[·]?))[i]? = _
      rw [pick_get hk', p2 i (List.getElem?_eq_some_iff.1 hr).1]; exact h1
  have HP : Inv P w0 N (g.pick js ks) bx' fz' rw' w := HI.pick js ks hj hk nj nk (usesB_ok c3) hb (fun i j hi hm => by simpa using fzOk_ok hf i j hi hm) hw hfr
  have key : ∀ (l : List ResultVar) (ress : List AV), l.all (fun x => argOk js (resv τ st x)) = true → allP (sub 4) (l.map fun x => ren (idx? js) (idx? ks) 4 (resv τ st x)) ress → ∃ vs : List Value, (l.mapM fun x : ResultVar => (match x with
      | .tmp t => pure (a.tmps.getD t undef)
      | .cell p t => (do loadVar t (← asAddr (a.tmps.getD p undef))) : Sem Value)).run P w = .ok vs w ∧ vs.length = l.length ∧ vs.length = ress.length ∧ ∀ (i : Nat) x v, ress[i]? = some x → vs[i]? = some v → RV1 (g.pick js ks) x v := by
    intro l
    induction l with
    | nil => intro ress _ he; cases ress with
      | nil => exact ⟨[], rfl, rfl, rfl, fun i x v h => by simp at h⟩
      | cons _ _ => exact he.elim
    | cons x l ih =>
      intro ress hp he
      cases ress with
      | nil => exact he.elim
      | cons y ress =>
      simp only [List.all_cons, Bool.and_eq_true] at hp
      obtain ⟨vs, h1, h2, h2', h3⟩ := ih ress hp.2 he.2
      have hc := hp.1
      simp only [argOk, Bool.and_eq_true, Bool.not_eq_true'] at hc
      obtain ⟨v, h4, h5⟩ := resv_sound (P := P) hτ HI hF x hc.1.2
      have ht : ∀ az, resv τ st x ≠ .tup az := fun az e => by rw [e] at hc; simp at hc
      have h6 := ((h5.pick_ (d := 3) hj' hk' hc.1.1).rv1 (ren_any hc.1.2) (ren_tup ht)).sub_ he.1
      refine ⟨v :: vs, ?_, by simp [h2], by simp [h2'], fun i z u hz hu => ?_⟩
      · rw [List.mapM_cons]
        cases x <;> (dsimp only at h4 ⊢; simp only [Sem.run_bind, h4, Result.andThen_ok, h1, Sem.run_pure])
      · cases i with
        | zero =>
          simp only [List.getElem?_cons_zero, Option.some.injEq] at hz hu
          subst hz hu; exact h6
        | succ i => exact h3 i z u (by simpa using hz) (by simpa using hu)
  obtain ⟨vs, h1, h2, h2', h3⟩ := key rs ress c6 he
  have hres : (results fn a.tmps).run P w = .ok (if h : vs.length = 1 then vs[0] else .tuple vs.toArray) w := by
    have e : results fn a.tmps = (do
        let vs ← rs.toArray.mapM fun x : ResultVar => (match x with
          | .tmp t => pure (a.tmps.getD t undef)
          | .cell p t => (do loadVar t (← asAddr (a.tmps.getD p undef))) : Sem Value)
        pure (if h : vs.size = 1 then vs[0] else .tuple vs)) := by unfold results; rw [hr]; rfl
    rw [e]
    simp only [Sem.run_bind, Array.mapM_eq_mapM_toList, Sem.run_map]
    rw [h1]
    simp
  refine ⟨hF.df, _, hres, HP, ?_⟩
  by_cases hl : vs.length = 1
  · rw [dif_pos hl]
    obtain ⟨x, rfl⟩ : ∃ x, ress = [x] := by
      match ress, h2' with
      | [x], _ => exact ⟨x, rfl⟩
      | [], h => simp at h; rw [h] at hl; cases hl
      | x :: y :: l, h => simp at h; omega
    exact (h3 0 _ _ rfl (List.getElem?_eq_getElem (by omega))).rv
  · rw [dif_neg hl]
    have htu : tupOf ress = .tup ress := by
      match ress, h2' with
      | [x], h => simp at h; exact absurd h hl
      | [], h => rfl
      | x :: y :: l, h => rfl
    rw [htu]
    exact ⟨vs, rfl, h2', fun i x u hx hu => h3 i x u hx hu⟩

theorem pick_has {js ks : List Nat} {b : Nat} (h : (g.pick js ks).has b) : g.has b := by
  rcases h with ⟨y, hy, h⟩ | ⟨s, hs, h⟩
  · obtain ⟨j, _, hj⟩ := List.mem_filterMap.1 hy; exact .inl ⟨y, List.mem_of_getElem? hj, h⟩
  · obtain ⟨j, _, hj⟩ := List.mem_filterMap.1 hs; exact .inr ⟨s, List.mem_of_getElem? hj, h⟩
theorem v_endE {fn : Func} {rs : List ResultVar} {nb nr : Nat} {R : List XR → List (Ty × AV) → List (TypeId × Nat) → AV → Prop} (js ks : List Nat) (hτ : τ.ok P) (hM : N.bx.length ≤ nb ∧ N.rw.length ≤ nr) (hr : fn.results = rs.toArray) (H : RelX w0.heap.size P w0 N nt st X a w)
    (hchk : (okSel js st.bx.length && okSel ks st.rw.length && usesB js st.bx && preOk js nb && preOk ks nr && rs.all (fun x => argOk js (resv τ st x))) = true)
    {bx' : List (Ty × AV)} {rw' : List (TypeId × Nat)} {ress : List AV} {res : AV} (hf : fzOk js st.fz [] 0 = true) (hb : bxs (pickB js ks st.bx) bx') (hw : ks.filterMap (st.rw[·]?) = rw')
    (he : allP (sub 4) (rs.map fun x => ren (idx? js) (idx? ks) 4 (resv τ st x)) ress) (ht : tupOf ress = res) (hR : R X bx' rw' res) :
    a.defers = [] ∧ ∃ v, (results fn a.tmps).run P w = .ok v w ∧ PostX P w0 N R (.returned v) w := by
  obtain ⟨g, HI, hB, hF, hX⟩ := H
  have HI0 : Inv P w0 N g st.bx st.fz st.rw w := ⟨HI.mem, hB.fr (Nat.le_refl _), HI.br, HI.fz, HI.wr, HI.wz⟩
  obtain ⟨h1, v, h2, h3, h4⟩ := v_endG js ks hτ hM hr HI0 hF hchk hf hb hw he ht
  exact ⟨h1, v, h2, X, bx', rw', res, _, v, hR, rfl, h3, h4, ⟨fun x hx => ⟨(hX.ok x hx).le, (hX.ok x hx).nil, fun b hb => ⟨fun hh => ((hX.ok x hx).own b hb).1 (pick_has hh), ((hX.ok x hx).own b hb).2⟩⟩, hX.un⟩⟩
/-- A call of such a contract: a new base. -/
theorem v_callE {ops : Array Oper} {Q : Exit → Act → World → Prop} {rest : List Oper} {o : Oper} {f : FuncId} {xs : List Operand} {ats : Array TypeId} {args : List AV} {R : List XR → List (Ty × AV) → List (TypeId × Nat) → AV → Prop}
    (hc : VE P f args R) (hB : FrX lo w0 N N1 w1) (hlo : lo ≤ w0.heap.size) (hX : Xs lo N1 w1 X) (H : Rel P w1 N1 nt st a w)
    (hRu : ∀ Y bx' rw' res, R Y bx' rw' res → uses some 4 res = true ∧ bx'.all (fun x => uses some 4 x.2) = true)
    (k : ∀ Y bx' rw' res a w, R Y bx' rw' res → RelX lo P w0 N nt ((⟨st.t, mergeL st.bx [] (renB [] [] st.bx.length st.rw.length bx'), st.fz, mergeL st.rw [] rw'⟩ : St).put o.dst none (ren (fun k => some (nth [] st.bx.length k)) (fun k => some (nth [] st.rw.length k)) 4 res)) (X ++ Y) a w → wpList P ops Q rest a w)
    (hgd : o.guard = none := by rfl) (ho : o.op = .call ⟨.value (.func f), xs.toArray, ats⟩ := by rfl) (hchk : (xs.all (fun x => argOk [] (st.ev none x)) && okDst nt none o.dst) = true := by rfl) (ha : allP (sub 4) (cargs st [] [] xs) args := by exact caX) : wpList P ops Q (o :: rest) a w := by
  obtain ⟨hfok, hcall⟩ := hc
  obtain ⟨g, HI, hF⟩ := H
  simp only [Bool.and_eq_true] at hchk
  obtain ⟨c5, c8⟩ := hchk
  obtain ⟨h1, h2⟩ := cargs_ok HI hF (js := []) (ks := []) (fun j hj => by cases hj) (fun j hj => by cases hj) c5 ha
  refine wpList_plain hgd fun K hK => ?_
  unfold Oper.wp
  rw [run_callF hfok xs ats ho w, Oper.upon_enter]
  have HP : Inv P w (g.pick [] []) (g.pick [] []) [] [] [] w := HI.pick (bx2 := []) (fz2 := []) (rw2 := []) [] [] (fun j hj => by cases hj) (fun j hj => by cases hj) List.nodup_nil List.nodup_nil (fun j hj => by cases hj) trivial (fun i j hi => by simp at hi) rfl
    ⟨Kept.refl _ _, fun i x hx hxo => .inr ⟨x, hx, hxo, rfl⟩, fun i r k hr hrk => .inr ⟨r, hr, hrk⟩, fun _ _ _ _ => rfl, Gh.le.refl _⟩
  refine (hcall w (g.pick [] []) (xs.map a.eval) HP (by simp [h1]) h2).mono fun e w' hp => ?_
  obtain ⟨Y, bx', rw', res, g1, v, hRR, rfl, HI1, hv, hY⟩ := hp
  obtain ⟨c6, c7⟩ := hRu _ _ _ _ hRR
  obtain ⟨k1, k2, k3, k4⟩ := HI.call HI1 (fun j hj => by cases hj) (fun j hj => by cases hj) List.nodup_nil List.nodup_nil (fun x hx => List.all_eq_true.1 c7 x hx)
  have hv' := hv.ren_ (g1 := g1) (g2 := ⟨g1.ro, mergeL g.bx [] g1.bx, mergeL g.rw [] g1.rw⟩) (fb := fun k => some (nth [] st.bx.length k)) (fr := fun k => some (nth [] st.rw.length k)) (d := 3) rfl (fun i j x hij hx => by injection hij with hij; subst hij; exact k3 i x hx) (fun i j x hij hx => by injection hij with hij; subst hij; exact k4 i x hx) (uses_some c6)
  have hX' : Xs lo (⟨g1.ro, mergeL g.bx [] g1.bx, mergeL g.rw [] g1.rw⟩ : Gh) w' X := hX.step k2
  have hsz : w.heap.size ≤ w'.heap.size := HI1.fr.kept.size
  have hws : w1.heap.size ≤ w.heap.size := HI.fr.kept.size
  have hY' : ∀ y ∈ Y, XOk lo (⟨g1.ro, mergeL g.bx [] g1.bx, mergeL g.rw [] g1.rw⟩ : Gh) w' y := fun y hy => by
    have h := hY.ok y hy
    refine ⟨h.le, h.nil, fun b hb => ?_⟩
    obtain ⟨q1, q2, q3⟩ := h.own b hb
    refine ⟨fun hh => ?_, by have := hB.size; omega, q3⟩
    have hm : ∀ {α : Type} {l m : List α} {x : α}, x ∈ mergeL l [] m → x ∈ l ∨ x ∈ m := fun {α l m x} h => by
      unfold mergeL at h
      rw [show setAll l [] m = l by cases m <;> rfl] at h
      simpa using h
    rcases hh with ⟨z, hz, hzo, he⟩ | ⟨s, hs, he⟩
    · rcases hm hz with hz | hz
      · obtain ⟨i, hi⟩ := List.getElem?_of_mem hz
        have := (HI.mem.bx i z hi hzo).lt; omega
      · exact q1 (.inl ⟨z, hz, hzo, he⟩)
    · rcases hm hs with hs | hs
      · obtain ⟨i, hi⟩ := List.getElem?_of_mem hs
        have := (HI.mem.rw i s hi).lt he; omega
      · exact q1 (.inr ⟨s, hs, he⟩)
  have hun : XApart (X ++ Y) := by
    unfold XApart
    rw [List.pairwise_append]
    refine ⟨hX.un, hY.un, fun x hx y hy => ?_⟩
    cases hb : x.A with
    | none => exact .inl rfl
    | some b =>
      refine .inr fun e => ?_
      have h1 := (hX.ok x hx).lt hb
      have h2 := ((hY.ok y hy).own b e.symm).2.1
      omega
  refine hK _ _ (k Y bx' rw' res _ _ hRR ⟨_, ?_, ?_, (hF.mono k1).put c8 (fun _ => hv') rfl (fun h => absurd trivial h), ⟨fun x hx => (List.mem_append.1 hx).elim (hX'.ok x) (hY' x), hun⟩⟩)
  · have := k2.self
    cases o.dst <;> simpa [St.put] using this
  · exact hB.trans (.of k2.fr lo)
/-- A loop, by a family of what holds. -/
theorem v_loopI {ι : Type} {c : Code} {Q : Exit → Act → World → Prop} (F : ι → Act → World → Prop) (C : ι → Prop) (μ : ι → Nat) (i0 : ι) (h0 : C i0) (H : F i0 a w)
    (round : ∀ i a w, C i → F i a w → c.wp P (Exit.then (fun a' w' => ∃ i', C i' ∧ μ i' < μ i ∧ F i' a' w') Q) a w) : (Code.loop c).wp P Q a w := by
  have hp : ∀ a w, (∃ i, C i ∧ F i a w) → ∃ m, (∃ i, (C i ∧ F i a w) ∧ μ i = m) ∧ ∀ k, (∃ i, (C i ∧ F i a w) ∧ μ i = k) → m ≤ k := fun a w ⟨i, hi⟩ => min_ex ⟨_, i, hi, rfl⟩
  obtain ⟨m, hm⟩ : ∃ m : Act → World → Nat, ∀ a w, (∃ i, C i ∧ F i a w) → (∃ i, (C i ∧ F i a w) ∧ μ i = m a w) ∧ ∀ k, (∃ i, (C i ∧ F i a w) ∧ μ i = k) → m a w ≤ k := by
    classical
    refine ⟨fun a w => if h : ∃ i, C i ∧ F i a w then Classical.choose (hp a w h) else 0, fun a w h => ?_⟩
    have := Classical.choose_spec (hp a w h)
    simp only [dif_pos h]
    exact this
  refine wp_loop (fun a w => ∃ i, C i ∧ F i a w) m ⟨i0, h0, H⟩ fun a w hi => ?_
  obtain ⟨⟨i, hi', hmi⟩, _⟩ := hm a w hi
  refine Code.wp_mono (fun e a' w' q => ?_) (round i a w hi'.1 hi'.2)
  cases e with
  | normal => obtain ⟨i', h1, h2, h3⟩ := q; exact ⟨⟨i', h1, h3⟩, by have := (hm a' w' ⟨i', h1, h3⟩).2 _ ⟨i', ⟨h1, h3⟩, rfl⟩; omega⟩
  | _ => exact q
end
end Go.Proofs.Ytgffimanhmpohaa
/- A region that draws its order, in which one loud operation (new memory) may come up before or behind another one (a call): both are walked. -/
namespace Go.Proofs.Ytgffimanhmpohaa
open Go
section
variable {P : Program} {ops : Array Oper} {Q : Exit → Act → World → Prop} {S : World → Prop} {L A : List Nat} {c f : Nat}
/-- Which operations are listed: those below k; f besides. -/
def Upto (n : Nat) (k : Nat) (x : Bool) (f : Nat) (listed : Array Bool) : Prop := listed.size = n ∧ ∀ i, i < n → ∀ d, listed.getD i d = (decide (i < k) || (x && i == f))
theorem Upto.set {n k f : Nat} {x : Bool} {listed : Array Bool} (h : Upto n k x f listed) (hk : k < n) : Upto n (k + 1) x f (listed.setIfInBounds k true) := by
  refine ⟨by simpa using h.1, fun i hi d => ?_⟩
  by_cases hik : k = i
  · subst hik; simp [h.1, hk]
  · rw [getD_set_ne d hik, h.2 i hi d]
    congr 1
    simp; omega
theorem Upto.down {n k f : Nat} {x : Bool} {listed : Array Bool} (hn : n = ops.size) (h : Upto n k x f listed) (he : ∀ (j : Nat) (o : Oper), ops[j]? = some o → ∀ e ∈ o.after, Region.binds .any e = true → e.on < j)
    (hfe : x = true → ∀ o, ops[f]? = some o → ∀ e ∈ o.after, Region.binds .any e = true → e.on < k) : Down ops listed := by
  intro j o hj hl e hm hb
  have hjlt := (Array.getElem?_eq_some_iff.1 hj).1
  rw [h.2 j (by omega) false] at hl
  have h1 := he j o hj e hm hb
  rw [h.2 e.on (by omega) false]
  simp only [Bool.or_eq_true, decide_eq_true_eq, Bool.and_eq_true, beq_iff_eq] at hl ⊢
  rcases hl with hl | ⟨hx, rfl⟩
  · exact .inl (by omega)
  · exact .inl (hfe hx o hj e hm hb)
end
section
variable {P : Program} {τ : Tab} {w0 w : World} {N : Gh} {g gS : Gh} {st st' sq sq' : St} {nt : Nat} {a : Act}
/-- A slot seen as something that says less. -/
theorem v_sub (H : Rel P w0 N nt st a w) (d : Nat) {x y : AV} (hs : sub 4 x y) (hx : isAny x = false) (ht : ∀ az, x ≠ .tup az) (hd : find d st.t = some (none, x)) : Rel P w0 N nt ⟨nilT d y st.t, st.bx, st.fz, st.rw⟩ a w := by
  obtain ⟨g, HI, hF⟩ := H
  refine ⟨g, HI, hF.sz, hF.df, fun p hp hg => ?_, fun p hp hg => by rcases nilT_mem hp with h | h; (subst h; exact absurd trivial hg); exact hF.u p h hg⟩
  rcases nilT_mem hp with h | h
  · subst h
    have h1 : RV g x (a.tmps.getD d undef) := hF.t _ (find_mem hd) trivial
    exact ((h1.rv1 hx ht).sub_ hs).rv
  · exact hF.t p h hg
end
end Go.Proofs.Ytgffimanhmpohaa
/- Values seen as others: a nil slice inside a box as a row that is none yet; an empty window as no bytes. -/
namespace Go.Proofs.Ytgffimanhmpohaa
open Go Go.RowKit
section
variable {P : Program} {τ : Tab} {w0 w w' : World} {N : Gh} {g g1 g2 : Gh} {st st' : St} {nt : Nat} {a : Act}
end
end Go.Proofs.Ytgffimanhmpohaa
/- Nodes: what is read. -/
namespace Go.Proofs.Ytgffimanhmpohaa
open Go Go.RowKit
def Nd.one (a b : List UInt8) : Nd := ⟨1, a, b, z32, z32⟩
def Nd.two (a b : List UInt8) : Nd := ⟨2, z32, z32, a, b⟩
def decOk (l : List UInt8) : Prop := l = [0] ∨ (l.length = 65 ∧ (l.getD 0 0 = 1 ∨ l.getD 0 0 = 2))
instance (l : List UInt8) : Decidable (decOk l) := inferInstanceAs (Decidable (_ ∨ _))
def dec (l : List UInt8) : Nd := if l.length = 65 ∧ l.getD 0 0 = 1 then .one ((l.drop 1).take 32) (l.drop 33) else if l.length = 65 ∧ l.getD 0 0 = 2 then .two ((l.drop 1).take 32) (l.drop 33) else .zero
end Go.Proofs.Ytgffimanhmpohaa
/- Digests of a byte and parts: the program's. -/
namespace Go.Proofs.Ytgffimanhmpohaa
open Go Go.RowKit
end Go.Proofs.Ytgffimanhmpohaa
/- Proofs as bytes: what may be, how it is told. -/
namespace Go.Proofs.Ytgffimanhmpohaa
open Go Go.RowKit
structure Pf where
  s : List (List UInt8)
  e : Nd
  deriving DecidableEq
structure Pf.wf (p : Pf) : Prop where
  s : ∀ h ∈ p.s, h.length = 32
  e : p.e.wf
def Pf.chk (p : Pf) : Int := if 256 < p.s.length then 4 else if p.e.ok ∧ p.e.k ≠ 2 then 0 else 2
/-- The digest of nothing. -/
def E0 : List UInt8 := sum [0]
def hidesB (s : List (List UInt8)) (t : Nat) : Bool := match s[t]? with | some h => h != E0 | none => false
def Pf.bits (p : Pf) : List UInt8 := bitsB p.s.length (hidesB p.s)
def hashes (s : List (List UInt8)) : List UInt8 := (s.filter (· != E0)).flatten
def Pf.text (p : Pf) : List UInt8 := [UInt8.ofNat (p.s.length / 256), UInt8.ofNat p.s.length] ++ (p.bits ++ (hashes p.s ++ p.e.text))
end Go.Proofs.Ytgffimanhmpohaa
/- slices.Reverse of slices, in memory that may be written. -/
namespace Go.Proofs.Ytgffimanhmpohaa
open Go Go.RowKit
def vas (us : List Value) : List AV := us.map .v
theorem vas_len (us : List Value) : (vas us).length = us.length := by simp [vas]
end Go.Proofs.Ytgffimanhmpohaa
/- A list of slices written out into what grows; do lists share memory that are on their own? -/
namespace Go.Proofs.Ytgffimanhmpohaa
open Go Go.RowKit
section
variable {P : Program} {τ : Tab} {w0 w w1 w2 : World} {N N1 N2 : Gh} {g g1 gS : Gh} {st st' sq sq' : St} {nt : Nat} {a : Act} {lo : Nat} {X Y : List XR}
/-- Bytes, with their room. -/
def XW (x : XR) : Prop := ∃ l sp : List UInt8, x.cells = (l ++ sp).map B8 ∧ x.n = l.length ∧ x.c = l.length + sp.length
theorem XOk.own_ {lo : Nat} {g : Gh} {w : World} {x : XR} (h : XOk lo g w x) (hw : XW x) : ∃ (sv : SV) (l sp : List UInt8) (t : TypeId), x.v = sv.v ∧ Own (byteT t) w 0 x.v l sp := by
  obtain ⟨l, sp, h1, h2, h3⟩ := hw
  refine ⟨(x.A.map fun b => ⟨b, 0, none⟩, x.n, x.c), l, sp, x.tid, rfl, ?_⟩
  cases hA : x.A with
  | none =>
    have h0 := h.nil hA
    have e1 : l = [] := List.length_eq_zero_iff.1 (by omega)
    have e2 : sp = [] := List.length_eq_zero_iff.1 (by omega)
    subst e1 e2
    exact .inl ⟨by unfold XR.v; rw [hA, h2, h3]; rfl, rfl, rfl⟩
  | some b =>
    obtain ⟨_, _, q3, _⟩ := h.own b hA
    refine .inr ⟨b, Nat.zero_le _, by unfold XR.v; rw [hA, h2, h3]; rfl, ?_, by have := h.le.2; omega⟩
    show Blk w b x.tid _
    rw [byteT_all, ← h1]; exact q3
/-- What ApartBytes says of a vec box of slices that are on their own, or none. -/
theorem apartX_calls {x : Operand} {us : List Value} (hZ' : Xs lo g w X) (HI : Inv Try.prog w0 N g st.bx st.fz st.rw w) (hF : FR g nt st a) (i γ e : Nat) (hx : st.ev none x = .vw i γ us.length) (hb : st.bx[i]? = some (.vc e .sc, .vc γ (vas us)))
    (ix : List (Option Nat)) (hix : ix.length = us.length) (hval : ∀ k (h1 : k < ix.length) (h2 : k < us.length), (ix[k] = none ∧ us[k] = .slice none 0 0) ∨ ∃ j x, ix[k] = some j ∧ X[j]? = some x ∧ us[k] = x.v ∧ XW x) (hun : ix.Pairwise fun p q => p = none ∨ p ≠ q) (h0 : 0 < us.length) (hl : us.length ≤ 1000000) :
    Calls Try.prog 17 ([x].map a.eval).toArray w fun e w2 => e = .returned (.bool true) ∧ Below w.heap.size w w2 := by
  obtain ⟨y, hy, hyT, hbc⟩ := HI.br.at_ i _ _ hb
  obtain ⟨T2, F, sp, ⟨e2, he2, htid⟩, hmp, hgen, hp0, hcm, hcs, hcl, hsp, hFk⟩ := hbc.vc_inv
  injection he2 with he20 he2; subst he20 he2
  have hxv := ev_sound hF (c := none) trivial x
  rw [hx] at hxv
  obtain ⟨_, y', e3, T3, A, c, hval2, hy', hty', hle, hnc, hm, hxx⟩ := hxv.vw_inv.vw_inv
  rw [hy] at hy'; injection hy' with hy'; subst hy'
  injection hval2 with hval2
  obtain ⟨hcc, hA⟩ := hxx hgen
  have hA2 : y.off = false ∧ A = some ⟨y.blk, 0, none⟩ := by
    rcases hA with ⟨ho, _⟩ | h
    · have := hcm.2 ho; omega
    · exact h
  obtain ⟨hoff, rfl⟩ := hA2
  have hblk := (HI.mem.bx i y hy hoff).c hmp
  have hcell : ∀ k (hk : k < us.length), w.cell? ⟨y.blk, k, none⟩ = some us[k] := fun k hk => by
    rw [hblk.cell, hcs]
    have hk' : k < (vas us).length := by rw [vas_len]; exact hk
    have hr := hFk k hk'
    have hvk : (vas us)[k] = .v us[k] := by simp [vas]
    rw [hvk] at hr
    obtain ⟨_, hc1⟩ := hr.v_inv
    have := flat_at (sp := sp) hFk hk' (j := 0) (u := us[k]) (by rw [hc1]; rfl)
    simp only [Ty.size, Nat.mul_one, Nat.add_zero] at this
    rw [List.getElem?_toArray]; exact this
  have hrow : ∀ k (hk : k < us.length), ∃ r : ARow, r.1.v = us[k] ∧ Own (byteT r.2.2.2) w 0 r.1.v r.2.1 r.2.2.1 := fun k hk => by
    rcases hval k (by omega) hk with ⟨_, h⟩ | ⟨j, x, _, h1, h2, hW⟩
    · refine ⟨((none, 0, 0), [], [], 5), h.symm, .inl ⟨rfl, rfl, rfl⟩⟩
    · have hm := List.mem_of_getElem? h1
      obtain ⟨sv, l, sp, t, q1, q2⟩ := (hZ'.ok x hm).own_ hW
      exact ⟨(sv, l, sp, t), by rw [h2]; exact q1.symm, by rw [← q1]; exact q2⟩
  obtain ⟨L, hL, hLr⟩ : ∃ L : List ARow, L.length = us.length ∧ ∀ k (h1 : k < L.length) (h2 : k < us.length), L[k].1.v = us[k] ∧ Own (byteT L[k].2.2.2) w 0 L[k].1.v L[k].2.1 L[k].2.2.1 := by
    classical
    refine ⟨(List.range us.length).map fun k => if h : k < us.length then Classical.choose (hrow k h) else ((none, 0, 0), [], [], 0), by simp, fun k h1 h2 => ?_⟩
    have := Classical.choose_spec (hrow k h2)
    simp only [List.getElem_map, List.getElem_range, dif_pos h2]
    exact this
  have hev : ([x].map a.eval).toArray = #[Value.slice (some ⟨y.blk, 0, none⟩) L.length c] := by rw [hL, ← hval2]; rfl
  rw [hev]
  have hown : ∀ k (h1 : k < L.length) (h2 : k < us.length), L[k].1.v.ownBlock = us[k].ownBlock := fun k h1 h2 => by rw [(hLr k h1 h2).1]
  have hP : Apart w 0 L := ⟨fun k hk => (hLr k hk (by omega)).2, fun p q hp hq hpq => by
    rw [hown p hp (by omega), hown q hq (by omega)]
    have key : ∀ p q (hp : p < us.length) (hq : q < us.length), p < q → us[p].ownBlock = none ∨ us[q].ownBlock = none ∨ us[p].ownBlock ≠ us[q].ownBlock := fun p q hp hq hlt => by
      rcases hval p (by omega) hp with ⟨_, h⟩ | ⟨j1, x1, a1, a2, a3, _⟩
      · left; rw [h]; rfl
      · rcases hval q (by omega) hq with ⟨_, h⟩ | ⟨j2, x2, b1, b2, b3, _⟩
        · right; left; rw [h]; rfl
        · have hne : j1 ≠ j2 := fun e => by
            rw [List.pairwise_iff_getElem] at hun
            rcases hun p q (by omega) (by omega) hlt with h | h
            · rw [a1] at h; cases h
            · rw [a1, b1, e] at h; exact h rfl
          rw [a3, b3, XR.own, XR.own]
          have hu := hZ'.un
          unfold XApart at hu
          rw [List.pairwise_iff_getElem] at hu
          obtain ⟨l1, g1⟩ := List.getElem?_eq_some_iff.1 a2
          obtain ⟨l2, g2⟩ := List.getElem?_eq_some_iff.1 b2
          rcases Nat.lt_or_gt_of_ne hne with h | h
          · have := hu j1 j2 l1 l2 h
            rw [g1, g2] at this
            rcases this with h | h
            · exact .inl h
            · exact .inr (.inr h)
          · have := hu j2 j1 l2 l1 h
            rw [g1, g2] at this
            rcases this with h | h
            · exact .inr (.inl h)
            · exact .inr (.inr fun e => h e.symm)
    rcases Nat.lt_or_gt_of_ne hpq with h | h
    · rcases key p q (by omega) (by omega) h with h | h | h
      · exact .inl h
      · cases hh : us[p].ownBlock with
        | none => exact .inl rfl
        | some b => exact .inr (by rw [h]; simp)
      · exact .inr h
    · rcases key q p (by omega) (by omega) h with h | h | h
      · cases hh : us[p].ownBlock with
        | none => exact .inl rfl
        | some b => exact .inr (by rw [h]; simp)
      · exact .inl h
      · exact .inr fun e => h e.symm⟩
  exact apart_any L y.blk 0 c 0 w (fun k hk => by rw [Nat.zero_add, hcell k (by omega), (hLr k hk (by omega)).1]) hblk.lt hP (by omega) (by omega)
/-- No slices that are on their own share memory: ApartBytes of a list of them (or of none). -/
theorem v_apartX {ops : Array Oper} {Q : Exit → Act → World → Prop} {rest : List Oper} {o : Oper} {x : Operand} {us : List Value} {ats : Array TypeId} (hZ : Xs lo N w0 X) (H : Rel Try.prog w0 N nt st a w) (i γ e : Nat) (hx : st.ev none x = .vw i γ us.length) (hb : st.bx[i]? = some (.vc e .sc, .vc γ (vas us)))
    (ix : List (Option Nat)) (hix : ix.length = us.length) (hval : ∀ k (h1 : k < ix.length) (h2 : k < us.length), (ix[k] = none ∧ us[k] = .slice none 0 0) ∨ ∃ j x, ix[k] = some j ∧ X[j]? = some x ∧ us[k] = x.v ∧ XW x) (hun : ix.Pairwise fun p q => p = none ∨ p ≠ q) (h0 : 0 < us.length) (hl : us.length ≤ 1000000)
    (k : ∀ a w, Rel Try.prog w0 N nt (st.put o.dst none (.v (.bool true))) a w → wpList Try.prog ops Q rest a w)
    (hgd : o.guard = none := by rfl) (ho : o.op = .call ⟨.value (.func 17), #[x], ats⟩ := by rfl) (hd2 : okDst nt none o.dst = true := by rfl) : wpList Try.prog ops Q (o :: rest) a w := by
  obtain ⟨g, HI, hF⟩ := H
  refine wpList_plain hgd fun K hK => ?_
  have hfok : Fok Try.prog 17 := ⟨_, Try.func17, by kernel_rfl, by kernel_rfl⟩
  unfold Oper.wp
  rw [run_callF hfok [x] ats ho, Oper.upon_enter]
  refine (apartX_calls (hZ.step HI) HI hF i γ e hx hb ix hix hval hun h0 hl).mono fun e w2 hp => ?_
  obtain ⟨rfl, hb2⟩ := hp
  have hI2 := HI.keep (fun k hk => hb2.block k hk) hb2.size hb2.os hb2.tape hb2.output
  refine hK _ _ (k _ _ ⟨g, ?_, ?_⟩)
  · rw [(put_bx _ _ _ _).1, (put_bx _ _ _ _).2.1, (put_bx _ _ _ _).2.2]; exact hI2
  · exact hF.put (st := st) (st' := st) hd2 (fun _ => RV.v_of rfl) rfl (fun h => absurd trivial h)
end
end Go.Proofs.Ytgffimanhmpohaa
/- A growing array that a field points to is turned to stay as it is. -/
namespace Go.Proofs.Ytgffimanhmpohaa
open Go Go.RowKit
section
variable {P : Program} {w0 w : World} {N : Gh} {g : Gh} {st : St} {nt : Nat} {a : Act}
end
end Go.Proofs.Ytgffimanhmpohaa
/- Slices on their own, in regions that draw their order. -/
namespace Go.Proofs.Ytgffimanhmpohaa
open Go Go.RowKit
theorem nfX {P : Program} {w0 w : World} {N : Gh} {nt lo : Nat} {st s2 : St} {X : List XR} {a : Act} (H : RelX lo P w0 N nt st X a w) (h : st = s2 := by exact nfs) : RelX lo P w0 N nt s2 X a w := h ▸ H
theorem FrX.refl (lo : Nat) (w : World) (N : Gh) : FrX lo w N N w := .of ⟨Kept.refl _ _, fun i x hx hxo => .inr ⟨x, hx, hxo, rfl⟩, fun i r k hr hrk => .inr ⟨r, hr, hrk⟩, fun _ _ _ _ => rfl, Gh.le.refl _⟩ lo
theorem Xs.nil (lo : Nat) (N : Gh) (w : World) : Xs lo N w [] := ⟨fun x hx => (by cases hx), List.Pairwise.nil⟩
/-- A slice on its own that holds bytes. -/
def XB (x : XR) (l : List UInt8) : Prop := x.n = l.length ∧ x.tid = 5 ∧ x.k = l.length ∧ ∃ m, x.c = l.length + m ∧ x.cells = l.map B8 ++ (List.replicate m (zeroOf Try.prog 5)).flatten
def XL (X : List XR) (ls : List (List UInt8)) : Prop := X.length = ls.length ∧ ∀ i (h1 : i < X.length) (h2 : i < ls.length), XB X[i] ls[i]
theorem XL.snoc {X : List XR} {ls : List (List UInt8)} {x : XR} {l : List UInt8} (h : XL X ls) (hx : XB x l) : XL (X ++ [x]) (ls ++ [l]) := by
  refine ⟨by simp [h.1], fun i h1 h2 => ?_⟩
  rw [List.length_append, List.length_singleton] at h1 h2
  by_cases hi : i < X.length
  · rw [List.getElem_append_left hi, List.getElem_append_left (by rw [← h.1]; exact hi)]; exact h.2 i hi (by rw [← h.1]; exact hi)
  · have e1 : i = X.length := by omega
    have e2 : i = ls.length := by rw [← h.1]; exact e1
    rw [List.getElem_append_right (by omega), List.getElem_append_right (by omega)]
    simp only [List.getElem_singleton]
    exact hx
theorem XL.last {X : List XR} {ls : List (List UInt8)} {x : XR} {l : List UInt8} (h : XL (X ++ [x]) (ls ++ [l])) : XL X ls ∧ XB x l := by
  have hl : X.length = ls.length := by have := h.1; simpa using this
  refine ⟨⟨hl, fun i h1 h2 => ?_⟩, ?_⟩
  · have := h.2 i (by simp; omega) (by simp; omega)
    rwa [List.getElem_append_left h1, List.getElem_append_left h2] at this
  · have := h.2 X.length (by simp) (by simp [hl])
    rw [List.getElem_append_right (Nat.le_refl _), List.getElem_append_right (by omega)] at this
    simpa using this
theorem XL.nil : XL [] [] := ⟨rfl, fun i h => (by cases h)⟩
theorem XB.see {X : List XR} {x : XR} {l : List UInt8} (h : XB x l) (hx : x ∈ X) : SeeX X (.v x.v) (.bs l none) := by
  obtain ⟨h1, _, h3, m, _, h4⟩ := h
  refine .pub x l hx (by omega) h1 ?_
  rw [h4, List.take_append_of_le_length (by simp), List.take_of_length_le (by simp)]
theorem XB.w {x : XR} {l : List UInt8} (h : XB x l) : XW x := by
  obtain ⟨h1, _, _, m, h3, h4⟩ := h
  refine ⟨l, List.replicate m 0, ?_, h1, by rw [List.length_replicate]; exact h3⟩
  rw [h4, zero_u8, flat_z, List.map_append]
theorem VE.mono {P : Program} {f : FuncId} {args : List AV} {R R2 : List XR → List (Ty × AV) → List (TypeId × Nat) → AV → Prop} (h : VE P f args R) (hR : ∀ X bx rw res, R X bx rw res → R2 X bx rw res) : VE P f args R2 :=
  ⟨h.1, fun w N vs a b c => (h.2 w N vs a b c).mono fun e w' hp => by
    obtain ⟨X, bx', rw', res, g, v, h1, h2⟩ := hp
    exact ⟨X, bx', rw', res, g, v, hR _ _ _ _ h1, h2⟩⟩
theorem RelX.rel {P : Program} {w0 w : World} {N : Gh} {nt : Nat} {st : St} {X : List XR} {a : Act} (H : RelX w0.heap.size P w0 N nt st X a w) : Rel P w0 N nt st a w := by
  obtain ⟨g, HI, hB, hF, _⟩ := H
  exact ⟨g, ⟨HI.mem, hB.fr (Nat.le_refl _), HI.br, HI.fz, HI.wr, HI.wz⟩, hF⟩
section
variable {P : Program} {τ : Tab} {w0 w w1 w2 : World} {N N1 N2 : Gh} {g g1 gS : Gh} {st st' sq sq' : St} {nt : Nat} {a : Act} {lo : Nat} {X Y : List XR}
def RelXT (lo : Nat) (P : Program) (w0 : World) (N : Gh) (nt : Nat) (gS : Gh) (sq st : St) (X : List XR) (a : Act) (w : World) : Prop :=
  Mem gS w ∧ gS.rw = [] ∧ FR gS nt sq a ∧ BR gS sq.bx ∧ ∃ g, Inv P w g g st.bx st.fz st.rw w ∧ FrX lo w0 N g w ∧ FR g nt st a ∧ gS.le g ∧ Bs gS g ∧ Xs lo g w X
theorem RelXT.open_ (H : RelXT lo P w0 N nt gS sq st X a w) : ∃ N1, FrX lo w0 N N1 w ∧ Xs lo N1 w X ∧ RelT P w N1 nt gS sq st a w ∧ N1.bx.length = st.bx.length ∧ N1.rw.length = st.rw.length := by
  obtain ⟨hM, hrw, hFq, hBq, g, HI, hB, hF, hle, hbs, hX⟩ := H
  exact ⟨g, hB, hX, ⟨hM, hrw, hFq, hBq, g, HI, hF, hle, hbs⟩, HI.br.len, by rw [← HI.wr, List.length_map]⟩
theorem RelXT.close (hB : FrX lo w0 N N1 w1) (hX : Xs lo N1 w1 X) (H : RelT P w1 N1 nt gS sq st a w) : RelXT lo P w0 N nt gS sq st X a w := by
  obtain ⟨hM, hrw, hFq, hBq, g, HI, hF, hle, hbs⟩ := H
  exact ⟨hM, hrw, hFq, hBq, g, HI.self, hB.trans (.of HI.fr lo), hF, hle, hbs, hX.step HI⟩
theorem nfXT {s2 sq2 : St} (H : RelXT lo P w0 N nt gS sq st X a w) (h : st = s2 := by exact nfs) (h2 : sq = sq2 := by exact nfs) : RelXT lo P w0 N nt gS sq2 s2 X a w := h ▸ h2 ▸ H
theorem cut_keep {i k : Nat} (hrw : gS.rw = []) (hle : gS.le g) (hbs : Bs gS g) (hn : gS.bx.length ≤ i) : gS.le (g.cut i k) ∧ Bs gS (g.cut i k) := by
  have get : ∀ {j : Nat} {x y : Bx}, gS.bx[j]? = some x → g.bx[j]? = some y → (g.cut i k).bx[j]? = some y := fun {j x y} h1 h2 => by
    show (g.bx.take i)[j]? = _
    rw [List.getElem?_take, if_pos (Nat.lt_of_lt_of_le (List.getElem?_eq_some_iff.1 h1).1 hn)]; exact h2
  refine ⟨⟨hle.ro, fun j x hx => ?_, fun j r hr => by rw [hrw] at hr; simp at hr⟩, fun j x hx => ?_⟩
  · obtain ⟨y, h1, h2⟩ := hle.bx j x hx
    exact ⟨y, get hx h1, h2⟩
  · obtain ⟨y, h1, h2⟩ := hbs j x hx
    exact ⟨y, get hx h1, h2⟩
theorem v_pubT (H : RelXT lo P w0 N nt gS sq st X a w) (hlo : lo ≤ w0.heap.size) (ks : List Nat) (d k e : Nat) {l : List UInt8} (hk : st.rw.length = k + 1) (hNk : N.rw.length ≤ k) (hd : find d st.t = some (none, .bs l (some k))) (hrow : st.rw[k]? = some (e, l.length)) (hq : sq.bx.length ≤ st.bx.length)
    (h1 : keepT ks st.bx.length k st.t = true) (h2 : (st.bx.take st.bx.length).all (fun x => low st.bx.length k 4 x.2) = true) :
    ∃ x : XR, (x.n = l.length ∧ x.tid = e ∧ x.k = l.length ∧ ∃ m, x.c = l.length + m ∧ x.cells = l.map B8 ++ (List.replicate m (zeroOf P e)).flatten) ∧ RelXT lo P w0 N nt gS sq ⟨(d, none, .v x.v) :: st.t.filter (fun p => ks.contains p.1), st.bx.take st.bx.length, st.fz, st.rw.take k⟩ (X ++ [x]) a w := by
  obtain ⟨hM, hrw, hFq, hBq, g, HI, hB, hF, hle, hbs, hX⟩ := H
  obtain ⟨x, h, q1, q2, q3, q4⟩ := v_pub0 HI hB hF hX hlo ks d k e hk hNk hd hrow h1 h2
  obtain ⟨c1, c2⟩ := cut_keep (i := st.bx.length) (k := k) hrw hle hbs (by rw [hBq.len]; exact hq)
  exact ⟨x, h, hM, hrw, hFq, hBq, _, q1, q2, q3, c1, c2, q4⟩
/-- A call of a contract that hands out slices on their own, in such a region. -/
theorem v_callET {ops : Array Oper} {Q : Exit → Act → World → Prop} {rest : List Oper} {o : Oper} {f : FuncId} {xs : List Operand} {ats : Array TypeId} {args : List AV} {R : List XR → List (Ty × AV) → List (TypeId × Nat) → AV → Prop} {L A : List Nat} {q : Nat}
    (hc : VE P f args R) (hB : FrX lo w0 N N1 w1) (hlo : lo ≤ w0.heap.size) (hX : Xs lo N1 w1 X) (H : RelT P w1 N1 nt gS sq st a w)
    (hRu : ∀ Y bx' rw' res, R Y bx' rw' res → uses some 4 res = true ∧ bx'.all (fun x => uses some 4 x.2) = true)
    (k : ∀ Y bx' rw' res a w, R Y bx' rw' res → RelXT lo P w0 N nt gS (sq.lose o.dst) ((⟨st.t, mergeL st.bx [] (renB [] [] st.bx.length st.rw.length bx'), st.fz, mergeL st.rw [] rw'⟩ : St).put o.dst none (ren (fun k => some (nth [] st.bx.length k)) (fun k => some (nth [] st.rw.length k)) 4 res)) (X ++ Y) a w → wpT P ops Q (Mem gS) L A rest (q + 1) a w)
    (hL : L.contains q = true := by rfl) (hgd : o.guard = none := by rfl) (ho : o.op = .call ⟨.value (.func f), xs.toArray, ats⟩ := by rfl) (hchk : (xs.all (fun x => argOk [] (st.ev none x)) && okDst nt none o.dst) = true := by rfl) (ha : allP (sub 4) (cargs st [] [] xs) args := by exact caX) : wpT P ops Q (Mem gS) L A (o :: rest) q a w := by
  obtain ⟨hfok, hcall⟩ := hc
  obtain ⟨hM, hrw, hFq, hBq, g, HI, hF, hle, hbs⟩ := H
  simp only [Bool.and_eq_true] at hchk
  obtain ⟨c5, c8⟩ := hchk
  obtain ⟨h1, h2⟩ := cargs_ok HI hF (js := []) (ks := []) (fun j hj => by cases hj) (fun j hj => by cases hj) c5 ha
  unfold wpT
  rw [if_pos (by simp [Region.wanted, hgd]), if_pos hL]
  unfold Oper.wp
  rw [run_callF hfok xs ats ho w, Oper.upon_enter]
  have HP : Inv P w (g.pick [] []) (g.pick [] []) [] [] [] w := HI.pick (bx2 := []) (fz2 := []) (rw2 := []) [] [] (fun j hj => by cases hj) (fun j hj => by cases hj) List.nodup_nil List.nodup_nil (fun j hj => by cases hj) trivial (fun i j hi => by simp at hi) rfl
    ⟨Kept.refl _ _, fun i x hx hxo => .inr ⟨x, hx, hxo, rfl⟩, fun i r k hr hrk => .inr ⟨r, hr, hrk⟩, fun _ _ _ _ => rfl, Gh.le.refl _⟩
  refine (hcall w (g.pick [] []) (xs.map a.eval) HP (by simp [h1]) h2).mono fun e w' hp => ?_
  obtain ⟨Y, bx', rw', res, g1, v, hRR, rfl, HI1, hv, hY⟩ := hp
  obtain ⟨c6, c7⟩ := hRu _ _ _ _ hRR
  obtain ⟨k1, k2, k3, k4⟩ := HI.call HI1 (fun j hj => by cases hj) (fun j hj => by cases hj) List.nodup_nil List.nodup_nil (fun x hx => List.all_eq_true.1 c7 x hx)
  have hv' := hv.ren_ (g1 := g1) (g2 := ⟨g1.ro, mergeL g.bx [] g1.bx, mergeL g.rw [] g1.rw⟩) (fb := fun k => some (nth [] st.bx.length k)) (fr := fun k => some (nth [] st.rw.length k)) (d := 3) rfl (fun i j x hij hx => by injection hij with hij; subst hij; exact k3 i x hx) (fun i j x hij hx => by injection hij with hij; subst hij; exact k4 i x hx) (uses_some c6)
  have hX' : Xs lo (⟨g1.ro, mergeL g.bx [] g1.bx, mergeL g.rw [] g1.rw⟩ : Gh) w' X := hX.step k2
  have hsz : w.heap.size ≤ w'.heap.size := HI1.fr.kept.size
  have hws : w1.heap.size ≤ w.heap.size := HI.fr.kept.size
  have hY' : ∀ y ∈ Y, XOk lo (⟨g1.ro, mergeL g.bx [] g1.bx, mergeL g.rw [] g1.rw⟩ : Gh) w' y := fun y hy => by
    have h := hY.ok y hy
    refine ⟨h.le, h.nil, fun b hb => ?_⟩
    obtain ⟨q1, q2, q3⟩ := h.own b hb
    refine ⟨fun hh => ?_, by have := hB.size; omega, q3⟩
    have hm : ∀ {α : Type} {l m : List α} {x : α}, x ∈ mergeL l [] m → x ∈ l ∨ x ∈ m := fun {α l m x} h => by
      unfold mergeL at h
      rw [show setAll l [] m = l by cases m <;> rfl] at h
      simpa using h
    rcases hh with ⟨z, hz, hzo, he⟩ | ⟨s, hs, he⟩
    · rcases hm hz with hz | hz
      · obtain ⟨i, hi⟩ := List.getElem?_of_mem hz
        have := (HI.mem.bx i z hi hzo).lt; omega
      · exact q1 (.inl ⟨z, hz, hzo, he⟩)
    · rcases hm hs with hs | hs
      · obtain ⟨i, hi⟩ := List.getElem?_of_mem hs
        have := (HI.mem.rw i s hi).lt he; omega
      · exact q1 (.inr ⟨s, hs, he⟩)
  have hun : XApart (X ++ Y) := by
    unfold XApart
    rw [List.pairwise_append]
    refine ⟨hX.un, hY.un, fun x hx y hy => ?_⟩
    cases hb : x.A with
    | none => exact .inl rfl
    | some b =>
      refine .inr fun e => ?_
      have h1 := (hX.ok x hx).lt hb
      have h2 := ((hY.ok y hy).own b e.symm).2.1
      omega
  have hbs' : Bs gS (⟨g1.ro, mergeL g.bx [] g1.bx, mergeL g.rw [] g1.rw⟩ : Gh) := fun i x hx => by
    obtain ⟨y, h3, h4⟩ := hbs i x hx
    exact ⟨y, merge_old (fun hm => by cases hm) h3, h4⟩
  have hM' := MemS (st := ⟨st.t, mergeL st.bx [] (renB [] [] st.bx.length st.rw.length bx'), st.fz ++ ([] : List Nat).map (nth [] st.bx.length), mergeL st.rw [] rw'⟩) hM hrw k2 (hle.trans k1) hbs'
  refine ⟨hM', k Y bx' rw' res _ _ hRR ⟨hM', hrw, hFq.lose v, by rw [lose_bx]; exact hBq, _, ?_, hB.trans (.of k2.fr lo), (hF.mono k1).put c8 (fun _ => hv') rfl (fun h => absurd trivial h), hle.trans k1, hbs', ⟨fun x hx => (List.mem_append.1 hx).elim (hX'.ok x) (hY' x), hun⟩⟩⟩
  have := k2.self
  cases o.dst <;> simpa [St.put] using this
/-- Bytes handed out with memory of their own. -/
theorem VE.ofC {f : FuncId} {args : List AV} {full l' : List UInt8} {n m : Nat} {fz : List Nat} (h : VX P f [] [] [] args [(.ba m, .ba l')] fz [] (.bc full n (some 0))) :
    VE P f args (fun X bx rw res => bx = [] ∧ rw = [] ∧ ∃ x : XR, X = [x] ∧ res = .v x.v ∧ x.n = n ∧ x.c = full.length ∧ x.k = full.length ∧ x.cells = full.map B8) := by
  refine ⟨h.1, fun w N vs hI hl hv => (h.2 w N vs hI hl hv).mono fun e w' hp => ?_⟩
  obtain ⟨g, v, rfl, HI, hr⟩ := hp
  have hNb : N.bx.length = 0 := hI.br.len
  have hNr : N.rw.length = 0 := by have := hI.wr; rw [List.map_eq_nil_iff] at this; rw [this]; rfl
  have hF : FR g 1 ⟨[(0, none, .bc full n (some 0))], [(.ba m, .ba l')], fz, []⟩ ⟨#[v], []⟩ :=
    ⟨rfl, rfl, fun p hp _ => by obtain rfl := List.mem_singleton.1 hp; exact hr, fun p hp hg => by obtain rfl := List.mem_singleton.1 hp; exact absurd trivial hg⟩
  obtain ⟨x, q, q1, q2, q3, q4⟩ := v_pubC0 (st := ⟨[(0, none, .bc full n (some 0))], [(.ba m, .ba l')], fz, []⟩) (X := []) HI.self (FrX.of HI.fr w.heap.size) hF (Xs.nil _ _ _) (Nat.le_refl _) [] 0 0 rfl (Nat.le_of_eq hNb) rfl rfl rfl rfl
  refine ⟨[x], [], [], .v x.v, _, v, ⟨rfl, rfl, x, rfl, rfl, q⟩, rfl, ⟨q1.mem, q2.fr (Nat.le_refl _), q1.br, fun i y hy => ?_, q1.wr, q1.wz⟩, ?_, by simpa using q4⟩
  · have := q1.br.len
    have hi := (List.getElem?_eq_some_iff.1 hy).1
    rw [this] at hi; simp at hi
  · exact q3.t _ List.mem_cons_self trivial
/-- What changes in the view alone keeps slices on their own. -/
theorem RelX.ghost (H : RelX w0.heap.size P w0 N nt st X a w) (hbl : st'.bx.length = st.bx.length) (hrw : st'.rw = st.rw)
    (k : ∀ g, Inv P w0 N g st.bx st.fz st.rw w → FR g nt st a → ∃ g', g.lex g' ∧ Inv P w0 N g' st'.bx st'.fz st'.rw w ∧ FR g' nt st' a) : RelX w0.heap.size P w0 N nt st' X a w := by
  obtain ⟨g, HI, hB, hF, hX⟩ := H
  obtain ⟨g', hl, I1, F1⟩ := k g ⟨HI.mem, hB.fr (Nat.le_refl _), HI.br, HI.fz, HI.wr, HI.wz⟩ hF
  refine ⟨g', I1.self, .of I1.fr _, F1, ⟨fun x hx => ?_, hX.un⟩⟩
  have h := hX.ok x hx
  refine ⟨h.le, h.nil, fun b hb => ?_⟩
  obtain ⟨h1, h2, h3, h4⟩ := h.own b hb
  refine ⟨fun hh => h1 ?_, h2, h3, fun o u ho hu => hl.1.ro _ _ _ (h4 o u ho hu)⟩
  rcases hh with ⟨y, hy, hyo, he⟩ | ⟨s, hs, he⟩
  · obtain ⟨i, hi⟩ := List.getElem?_of_mem hy
    have hil := (List.getElem?_eq_some_iff.1 hi).1
    rw [I1.br.len, hbl, ← HI.br.len] at hil
    obtain ⟨y', hy', q⟩ := hl.2 i g.bx[i] (List.getElem?_eq_getElem hil)
    rw [hi] at hy'; injection hy' with hy'; subst hy'
    exact .inl ⟨g.bx[i], List.getElem_mem hil, by first | exact q.2.2.2.1.symm.trans hyo | exact (q.2.2.2.1).trans hyo | simp_all, by first | exact q.1.symm.trans he | simp_all⟩
  · obtain ⟨i, hi⟩ := List.getElem?_of_mem hs
    have hw : g'.rw.map (fun r => (r.tid, r.n)) = g.rw.map (fun r => (r.tid, r.n)) := by rw [I1.wr, HI.wr, hrw]
    have hil := (List.getElem?_eq_some_iff.1 hi).1
    have hll : g'.rw.length = g.rw.length := by have := congrArg List.length hw; simpa using this
    rw [hll] at hil
    obtain ⟨r', hr', _, _, _, _, q⟩ := hl.1.rw i g.rw[i] (List.getElem?_eq_getElem hil)
    rw [hi] at hr'; injection hr' with hr'; subst hr'
    have hn := congrArg (fun l => l[i]?) hw
    simp only [List.getElem?_map, hi, List.getElem?_eq_getElem hil, Option.map_some, Option.some.injEq, Prod.mk.injEq] at hn
    have := q hn.2
    exact .inr ⟨g.rw[i], List.getElem_mem hil, by rw [← this]; exact he⟩
/-- Slots, boxes and rows are forgotten. -/
theorem RelX.to (H : RelX w0.heap.size P w0 N nt st X a w) (nb nr : Nat) (hM : N.bx.length ≤ nb ∧ N.rw.length ≤ nr) {t2 : List (Nat × Gd × AV)} {bx2 : List (Ty × AV)} {rw2 : List (TypeId × Nat)} {fz2 : List Nat} (hs : SubT t2 st.t) (hb : st.bx.take nb = bx2) (hr : st.rw.take nr = rw2) (hf : st.fz = fz2) (h1 : t2.all (fun p => low nb nr 4 p.2.2) = true) (h2 : bx2.all (fun x => low nb nr 4 x.2) = true) :
    RelX w0.heap.size P w0 N nt ⟨t2, bx2, fz2, rw2⟩ X a w := by
  subst hb hr hf
  obtain ⟨g, HI, hB, hF, hX⟩ := H
  have HI0 : Inv P w0 N g st.bx st.fz st.rw w := ⟨HI.mem, hB.fr (Nat.le_refl _), HI.br, HI.fz, HI.wr, HI.wz⟩
  have I1 := HI0.cut hM.1 hM.2 h2
  refine ⟨g.cut nb nr, I1.self, .of I1.fr _, ⟨hF.sz, hF.df, fun p hp hg => (hF.t p (hs.mem hp) hg).low_ (d := 3) (List.all_eq_true.1 h1 p hp), fun p hp hg => hF.u p (hs.mem hp) hg⟩, ⟨fun x hx => ?_, hX.un⟩⟩
  have h := hX.ok x hx
  refine ⟨h.le, h.nil, fun b hb => ⟨fun hh => (h.own b hb).1 ?_, (h.own b hb).2⟩⟩
  rcases hh with ⟨y, hy, h⟩ | ⟨s, hs, h⟩
  · exact .inl ⟨y, List.mem_of_mem_take hy, h⟩
  · exact .inr ⟨s, List.mem_of_mem_take hs, h⟩
end
end Go.Proofs.Ytgffimanhmpohaa
/- batch.last: writes, each key's last one, by rising key. -/
namespace Go.Proofs.Ytgffimanhmpohaa
open Go Go.RowKit
theorem cutW {B R : Act → World → Prop} {G : Prop} (h : (∀ a w, R a w → B a w) → G) (k : ∀ a w, R a w → B a w) : G := h k
theorem wrA_get (l : List Wr) (k : Nat) (h : k < l.length) : (l.map wrA).getD k .any = .st [.ba l[k].1, .v (.bool l[k].2.1), .bs l[k].2.2 none] := by simp [wrA, List.getD_eq_getElem?_getD, h]
def ixW (m : Nat) : List AV := (List.range m).map fun k : Nat => .v (.int .i64 (k : Int))
theorem ixW_get {m j : Nat} {v : AV} (h : (ixW m)[j]? = some v) : j < m ∧ v = .v (.int .i64 (j : Int)) := by
  unfold ixW at h
  rw [List.getElem?_map] at h
  obtain ⟨x, hx, rfl⟩ := Option.map_eq_some_iff.1 h
  obtain ⟨h1, h2⟩ := List.getElem?_eq_some_iff.1 hx
  simp at h1 h2
  exact ⟨h1, by rw [h2]⟩
abbrev lsB (out : List Wr) : List (Ty × AV) := [(.mp (.ba 32) .sc, .mp ((keyW out).map .ba) (ixW out.length)), (.vc 37 wrT, .vc out.length (out.map wrA))]
set_option maxRecDepth 20000 in
set_option maxHeartbeats 4000000 in
theorem last_b (ws : List Wr) (hk : K32W ws) (hl : ws.length ≤ 1000000) : VX Try.prog 35 [] [] [] [.sl wrT (ws.map wrA) none] [(.vc 37 wrT, .vc (lstW ws).length ((srtW (lstW ws)).map wrA))] [] [] (.vw 0 (lstW ws).length (lstW ws).length) := by
  have hlm : (ws.map wrA).length = ws.length := List.length_map ..
  refine mE Try.func35 ?_; intro N w0 a w hN hR H
  have hX := @hlm
  refine mW ?_; clear H; intro a w H
  refine mS ?_
  (try refine wp_region_lit ?_)
  refine v_mkMap (.ba 32) .sc H ?_; clear H; intro a w H
  replace H := nf H
  refine mW ?_; clear H; intro a w H
  replace H := v_nilV tab_ok H 4 37 (j := ti37) rfl (by decide) rfl
  simp only [nilT, reduceIte, Nat.reduceEqDiff] at H
  refine v_loop (fun k : Nat => ⟨[(12, none, .v (.int .i64 (k : Int))), (11, none, .v (.int .i64 (ws.length : Int))), (10, none, .sl wrT (ws.map wrA) none), (4, none, .vw 1 (lstW (ws.take k)).length (lstW (ws.take k)).length), (3, none, .mr 0), (2, none, .v (.slice none 0 0)), (0, none, .sl wrT (ws.map wrA) none)],
    lsB (lstW (ws.take k)), [], []⟩) (fun k => k ≤ ws.length) (fun k => ws.length - k) 0 (Nat.zero_le _) (H.to 2 0 ⟨Nat.le_trans hN (by decide), hR⟩ ⟨rfl, rfl, rfl, rfl, rfl, rfl, rfl, trivial⟩ rfl rfl rfl rfl rfl) ?_
  clear H
  rintro k a w hk1 H
  refine mW ?_; clear H; intro a w H
  refine mC H (fun hb => ?_) (fun hb => ?_)
  · have hlt : k < ws.length := by simpa using hb
    clear hb
    have hg := wrA_get ws k hlt
    have hp32 := hk _ (List.getElem_mem hlt)
    have hst : lstW (ws.take (k + 1)) = putW (lstW (ws.take k)) (nzW ws[k]) := by rw [List.take_succ_eq_append_getElem hlt, lstW_snoc]
    have hdi := lstW_dis (ws.take k)
    have hol : (lstW (ws.take k)).length ≤ k := Nat.le_trans (lstW_len _) (by rw [List.length_take]; omega)
    obtain ⟨out', ho'⟩ : ∃ o, lstW (ws.take (k + 1)) = o := ⟨_, rfl⟩
    rw [ho'] at hst
    generalize lstW (ws.take k) = out at *
    obtain ⟨p, hpp⟩ : ∃ p, p = ws[k] := ⟨_, rfl⟩
    rw [← hpp] at hg hp32 hst
    obtain ⟨kb, gb, vb⟩ := p
    dsimp only at hg hp32 hst
    have hom : (out.map wrA).length = out.length := List.length_map ..
    refine mS ?_
    clear hX; have hX := And.intro @hlm (@hg)
    (try refine wp_region_lit ?_); refine mN 3 hN H ?_; clear H; intro a w H
    refine mW ?_; clear H; intro a w H
    revert a w
    apply cutW (R := fun a w => ∃ nv, SeeX [] nv (.bs (if gb then [] else vb) none) ∧ Rel Try.prog w0 N Try.f35.ntmps ⟨[(6, none, .ptr 2 []), (12, none, .v (.int .i64 (k : Int))), (11, none, .v (.int .i64 (ws.length : Int))), (10, none, .sl wrT (ws.map wrA) none), (4, none, .vw 1 out.length out.length), (3, none, .mr 0), (2, none, .v (.slice none 0 0)), (0, none, .sl wrT (ws.map wrA) none)],
      [(.mp (.ba 32) .sc, .mp ((keyW out).map .ba) (ixW out.length)), (.vc 37 wrT, .vc out.length (out.map wrA)), (wrT, .st [.ba kb, .v (.bool gb), nv])], [], []⟩ a w)
    · intro key1 a w H
      refine mC H (fun hb => ?_) (fun hb => ?_)
      · refine mS ?_
        (try refine wp_region_lit ?_); refine mN 2 hN H ?_; clear H; intro a w H
        (try refine wpList_nil ?_)
        refine mS ?_
        refine key1 _ _ ⟨_, ?_, H.to 3 0 ⟨Nat.le_trans hN (by decide), hR⟩ ⟨rfl, rfl, rfl, rfl, rfl, rfl, rfl, rfl, trivial⟩ rfl rfl rfl rfl rfl⟩
        rw [if_pos hb]; exact .nil
      · refine mS ?_
        refine key1 _ _ ⟨_, ?_, H.to 3 0 ⟨Nat.le_trans hN (by decide), hR⟩ ⟨rfl, rfl, rfl, rfl, rfl, rfl, rfl, rfl, trivial⟩ rfl rfl rfl rfl rfl⟩
        rw [hb, if_neg (by decide)]; exact .refl _
    rintro a w ⟨nv, hnv, H⟩
    refine mS ?_
    clear hX; have hX := @hlm
    (try refine wp_region_lit ?_); refine mN 3 hN H ?_; clear H; intro a w H
    have hnz : nzW (kb, gb, vb) = (kb, gb, if gb then [] else vb) := rfl
    rw [hnz] at hst
    clear hnz
    generalize (if gb then [] else vb) = nb at *
    have hk1 : out'.length = if kb ∈ keyW out then out.length else out.length + 1 := by
      have e := congrArg List.length (putW_key out (kb, gb, nb))
      rw [← hst] at e
      unfold keyW at e ⊢
      rw [List.length_map] at e
      split at e <;> (rename_i hh; first | rw [if_pos hh] | rw [if_neg hh]) <;> simpa using e
    have hk2 := putW_key out (kb, gb, nb)
    rw [← hst] at hk2
    have hse : SeeX [] (.st [.ba kb, .v (.bool gb), nv]) (wrA (kb, gb, nb)) := .st rfl fun i q1 q2 => by
      match i, q1 with
      | 0, _ => exact .refl _
      | 1, _ => exact .refl _
      | 2, _ => exact hnv
    have hwe : wrA (kb, gb, nb) = .st [.ba kb, .v (.bool gb), .bs nb none] := rfl
    have htk : (out.map wrA).take out.length = out.map wrA := List.take_of_length_le (by rw [hom]; exact Nat.le_refl _)
    refine v_look2 ktW H Try.underlying86 Try.zeroValue3 (z := .v (.int .i64 0)) (fun g => .inr (.v rfl)) hp32 ?_ ?_
    · intro hnm
      clear H; intro a w H
      replace H := nf H
      rw [if_neg hnm] at hk1 hk2
      rw [putW_new _ _ hnm] at hst
      refine mW ?_; clear H; intro a w H
      refine mC H (fun hb => ?_) (fun hb => ?_)
      · cases hb
      · refine mS ?_
        (try refine wp_region_lit ?_); refine mN 5 hN H ?_; clear H; intro a w H
        refine v_mapNew ktW H Try.underlying86 hp32 hnm ?_; clear H; intro a w H
        replace H := nf H
        (try refine wpList_nil ?_)
        refine mS ?_
        (try refine wp_region_lit ?_); refine mN 2 hN H ?_; clear H; intro a w H
        replace H := v_seeX (Xs.nil 0 N w0) H 37 _ hse rfl
        simp only [nilT, reduceIte, Nat.reduceEqDiff] at H
        rw [hwe] at H
        clear hX; have hX := And.intro @hom (@htk)
        refine mW ?_; clear H; intro a w H
        rw [show (k : Int) + 1 = ((k + 1 : Nat) : Int) by omega] at H
        have e1 : (keyW out).map AV.ba ++ [.ba kb] = (keyW out').map .ba := by rw [hk2, List.map_append]; rfl
        have e2 : ixW out.length ++ [.v (.int .i64 (out.length : Int))] = ixW out'.length := by rw [hk1]; unfold ixW; rw [List.range_succ, List.map_append]; rfl
        have e3 : out.map wrA ++ [.st [.ba kb, .v (.bool gb), .bs nb none]] = out'.map wrA := by rw [hst, List.map_append]; rfl
        rw [e1, e2, e3, ← hk1] at H
        refine ⟨k + 1, hlt, by omega, ?_⟩
        rw [ho']
        exact H.to 2 0 ⟨Nat.le_trans hN (by decide), hR⟩ ⟨rfl, rfl, rfl, rfl, rfl, rfl, rfl, trivial⟩ rfl rfl rfl rfl rfl
    · intro j v hj hvj
      clear H; intro a w H
      obtain ⟨hjl, hve⟩ := ixW_get hvj
      subst hve
      rw [if_pos (List.mem_of_getElem? hj)] at hk1 hk2
      rw [putW_set _ _ _ hdi hj] at hst
      clear hX; have hX := And.intro @hom (@htk)
      replace H := nf H
      refine mW ?_; clear H; intro a w H
      refine mC H (fun hb => ?_) (fun hb => ?_)
      · refine mS ?_
        (try refine wp_region_lit ?_); refine mN 3 hN H ?_; clear H; intro a w H
        replace H := v_seeX (Xs.nil 0 N w0) H 29 _ hse rfl
        simp only [nilT, reduceIte, Nat.reduceEqDiff] at H
        rw [hwe] at H
        clear hX; have hX := @hom
        refine mW ?_; clear H; intro a w H
        rw [show (k : Int) + 1 = ((k + 1 : Nat) : Int) by omega] at H
        have e4 : (out.map wrA).set j (.st [.ba kb, .v (.bool gb), .bs nb none]) = out'.map wrA := by rw [hst, List.map_set]; rfl
        rw [e4, ← hk2, ← hk1] at H
        refine ⟨k + 1, hlt, by omega, ?_⟩
        rw [ho']
        exact H.to 2 0 ⟨Nat.le_trans hN (by decide), hR⟩ ⟨rfl, rfl, rfl, rfl, rfl, rfl, rfl, trivial⟩ rfl rfl rfl rfl rfl
      · cases hb
  · have hke : k = ws.length := by simp at hb; omega
    clear hb
    subst hke
    rw [List.take_length] at H
    have hdi := lstW_dis ws
    have hll := lstW_len ws
    generalize lstW ws = out at *
    have hs := sortW_v out out.length hdi (by omega)
    have hsl : (srtW out).length = out.length := (srtW_perm out).length_eq
    refine mS ?_
    clear hX
    (try refine wp_region_lit ?_); refine mN 1 hN H ?_; clear H; intro a w H
    refine mCall [1] [] (hs) H ?_; clear H; intro a w H; try refine wpList_nil ?_
    refine mW ?_; clear H; intro a w H
    refine wp_ret ?_; exact mEnd [1] [] [.tmp 2] [_] hN hR H
set_option maxRecDepth 20000 in
set_option maxHeartbeats 4000000 in
theorem wkeys_v (ws : List Wr) (hk : K32W ws) (hl : ws.length ≤ 1000000) : VC Try.prog 12 [.sl wrT (ws.map wrA) none] [] (.v (.int .i64 ((lstW ws).length : Int))) := by
  have hs := last_b ws hk hl
  generalize (srtW (lstW ws)).map wrA = es at *
  generalize (lstW ws).length = m at *
  refine mE Try.func12 ?_; intro N w0 a w hN hR H
  refine mW ?_; clear H; intro a w H
  refine mCall [] [] (hs) H ?_; clear H; intro a w H; try refine wpList_nil ?_
  refine mW ?_; clear H; intro a w H
  refine wp_ret ?_; exact mEnd [] [] [.tmp 2] [_] hN hR H
end Go.Proofs.Ytgffimanhmpohaa
/- What the statements share: bytes that are lent, and kept. -/
namespace Go.Proofs.Ytgffimanhmpohaa
open Go Go.RowKit
/-- The marks in the spare room. -/
def marks (n : Nat) : Nat → List UInt8
  | 0 => []
  | k + 1 => marks n k ++ [UInt8.ofNat (200 + (n + k) % 50)]
theorem marks_len (n k : Nat) : (marks n k).length = k := by
  induction k with
  | zero => rfl
  | succ k ih => simp [marks, ih]
theorem set_end (pre : List UInt8) (m : Nat) (z x : UInt8) (hm : 0 < m) : (pre ++ List.replicate m z).set pre.length x = pre ++ [x] ++ List.replicate (m - 1) z := by
  obtain ⟨m, rfl⟩ : ∃ k, m = k + 1 := ⟨m - 1, by omega⟩
  rw [List.set_append_right _ _ (Nat.le_refl _), Nat.sub_self, List.replicate_succ]
  simp
def lentOf (l : List UInt8) : List UInt8 := l ++ marks l.length 5
theorem lent_len (l : List UInt8) : (lentOf l).length = l.length + 5 := by simp [lentOf, marks_len]
theorem lent_v (l : List UInt8) (hl : l.length ≤ 34359738000) : VX Try.prog 34 [] [] [] [.bs l none] [(.ba (l.length + 5), .ba (lentOf l))] [0] [] (.bc (lentOf l) l.length (some 0)) := by
  have hml := fun k => marks_len l.length k
  refine mE Try.func34 ?_; intro N w0 a w hN hR H
  have h5 : ((l.length : Int) + 5).toNat = l.length + 5 := by omega
  have ht : List.take (l.length + 5) l = l := List.take_of_length_le (by omega)
  have hd : List.drop l.length (List.replicate (l.length + 5) (0 : UInt8)) = List.replicate 5 0 := by rw [List.drop_replicate]; congr 1; omega
  have hX := And.intro @h5 (And.intro @ht (@hd))
  refine mW ?_; clear H; intro a w H
  refine v_loop (fun k : Nat => ⟨[(0, none, .bs l none), (3, none, .win 0 [] 0 (l.length + 5)), (4, none, .v (.int .i64 ((l.length + k : Nat) : Int)))], [(.ba (l.length + 5), .ba (l ++ marks l.length k ++ List.replicate (5 - k) 0))], [], []⟩) (fun k => k ≤ 5) (fun k => 5 - k) 0 (by decide) (H.to 1 0 ⟨Nat.le_trans hN (by decide), hR⟩ ⟨rfl, rfl, rfl, trivial⟩ (by simp [marks]) rfl rfl rfl rfl) ?_
  clear H
  intro k a w hk H
  clear hX
  refine mW ?_; clear H; intro a w H
  refine mC H (fun hb => ?_) (fun hb => ?_)
  · have hlt : k < 5 := by simp at hb; omega
    have hpl : (l ++ marks l.length k).length = l.length + k := by rw [List.length_append, hml]
    have hs := set_end (l ++ marks l.length k) (5 - k) 0 (UInt8.ofNat (200 + (l.length + k) % 50)) (by omega)
    rw [hpl] at hs
    have hx : UInt8.ofNat ((200 + ((l.length + k : Nat) : Int) % 50) % 256).toNat = UInt8.ofNat (200 + (l.length + k) % 50) := by congr 1; omega
    refine mW ?_; clear H; intro a w H
    rw [hx, hs] at H
    exact ⟨k + 1, by omega, by omega, H.to 1 0 ⟨Nat.le_trans hN (by decide), hR⟩ ⟨rfl, rfl, by simp only [find]; rfl, trivial⟩ (by simp only [List.take_succ_cons, List.take_zero, marks, List.append_assoc, Nat.sub_sub]) rfl rfl rfl rfl⟩
  · have : k = 5 := by simp at hb; omega
    subst this
    rw [Nat.sub_self, List.replicate_zero, List.append_nil] at H
    refine mW ?_; clear H; intro a w H
    have H := v_bc H 2 0 hN rfl (by omega) rfl
    simp only [nilT, reduceIte, Nat.reduceEqDiff] at H
    have hX := @lentOf.eq_1
    refine wp_ret ?_; exact mEnd [0] [] [.tmp 2] [_] hN hR H
end Go.Proofs.Ytgffimanhmpohaa
/- Bytes that were lent are as they were. -/
namespace Go.Proofs.Ytgffimanhmpohaa
open Go Go.RowKit
set_option maxRecDepth 20000 in
theorem kept_v (l : List UInt8) (hl : l.length ≤ 34359738000) : VC Try.prog 37 [.bc (lentOf l) l.length none, .bs l none] [] (.v (.bool true)) := by
  have hll := lent_len l
  have e1 := lent_v l hl
  have h5 : ((l.length : Int) + 5).toNat = l.length + 5 := by omega
  have hT : (lentOf l).take (l.length + 5) = lentOf l := List.take_of_length_le (by omega)
  refine mE Try.func37 ?_; intro N w0 a w hN hR H
  refine mW ?_; clear H; intro a w H
  have hX := And.intro @h5 (And.intro @hT (And.intro @strOf_list (@beq_self_eq_true.{0})))
  refine mS ?_; refine mD 0 [6] [0, 1, 2, 3, 4, 7, 8, 9] H ?_; clear H; intro gS H; refine mT ?_; clear H; intro a w H
  refine mCallT [] [] (e1) H ?_; clear H; intro a w H
  refine mT ?_; clear H; intro a w H
  refine v_drawNil H ?_; clear H; intro H
  refine mW ?_; clear H; intro a w H
  refine wp_ret ?_; exact mEnd [] [] [.tmp 4] [_] hN hR H
end Go.Proofs.Ytgffimanhmpohaa
/- Lent bytes that are on their own. -/
namespace Go.Proofs.Ytgffimanhmpohaa
open Go Go.RowKit
theorem lentX_see {X : List XR} {x : XR} {b : List UInt8} (hx : x ∈ X) (h : x.n = b.length ∧ x.c = (lentOf b).length ∧ x.k = (lentOf b).length ∧ x.cells = (lentOf b).map B8) : SeeX X (.v x.v) (.bs b none) := by
  obtain ⟨h1, _, h3, h4⟩ := h
  refine .pub x b hx (by rw [h3, lent_len]; omega) h1 ?_
  rw [h4, ← List.map_take, show (lentOf b).take b.length = b by simp [lentOf]]
theorem lentX_seeC {X : List XR} {x : XR} {b : List UInt8} (hx : x ∈ X) (h : x.n = b.length ∧ x.c = (lentOf b).length ∧ x.k = (lentOf b).length ∧ x.cells = (lentOf b).map B8) : SeeX X (.v x.v) (.bc (lentOf b) b.length none) := by
  obtain ⟨h1, h2, h3, h4⟩ := h
  have := SeeX.pubc (X := X) x (lentOf b) hx (by omega) h2 h4
  rwa [h1] at this
theorem lentX_w {x : XR} {b : List UInt8} (h : x.n = b.length ∧ x.c = (lentOf b).length ∧ x.k = (lentOf b).length ∧ x.cells = (lentOf b).map B8) : XW x := by
  obtain ⟨h1, h2, h3, h4⟩ := h
  refine ⟨b, marks b.length 5, by rw [h4]; rfl, h1, ?_⟩
  rw [h2]; unfold lentOf; rw [List.length_append]
/-- Lent bytes, on their own. -/
def XT (x : XR) (b : List UInt8) : Prop := x.n = b.length ∧ x.c = (lentOf b).length ∧ x.k = (lentOf b).length ∧ x.cells = (lentOf b).map B8
theorem lent_E (l : List UInt8) (hl : l.length ≤ 34359738000) : VE Try.prog 34 [.bs l none] (fun X bx rw res => bx = [] ∧ rw = [] ∧ ∃ x : XR, X = [x] ∧ res = .v x.v ∧ XT x l) := VE.ofC (lent_v l hl)
def XTL (X : List XR) (ls : List (List UInt8)) : Prop := X.length = ls.length ∧ ∀ i (h1 : i < X.length) (h2 : i < ls.length), XT X[i] ls[i]
theorem XTL.nil : XTL [] [] := ⟨rfl, fun i h => (by cases h)⟩
theorem XTL.snoc {X : List XR} {ls : List (List UInt8)} {x : XR} {l : List UInt8} (h : XTL X ls) (hx : XT x l) : XTL (X ++ [x]) (ls ++ [l]) := by
  refine ⟨by simp [h.1], fun i h1 h2 => ?_⟩
  rw [List.length_append, List.length_singleton] at h1 h2
  by_cases hi : i < X.length
  · rw [List.getElem_append_left hi, List.getElem_append_left (by rw [← h.1]; exact hi)]; exact h.2 i hi (by rw [← h.1]; exact hi)
  · have e1 : i = X.length := by omega
    have e2 : i = ls.length := by rw [← h.1]; exact e1
    rw [List.getElem_append_right (by omega), List.getElem_append_right (by omega)]
    simp only [List.getElem_singleton]
    exact hx
theorem XTL.see {X Y : List XR} {ls : List (List UInt8)} (h : XTL X ls) (hY : ∀ x ∈ X, x ∈ Y) {T : Ty} {tok : Option Nat} : SeeX Y (.sl T (vas (X.map XR.v)) tok) (.sl T (bss ls) none) := by
  refine .sl (by rw [vas_len, List.length_map, bss_len]; exact h.1) fun i h1 h2 => ?_
  rw [vas_len, List.length_map] at h1
  rw [bss_len] at h2
  have := lentX_see (hY _ (List.getElem_mem h1)) (h.2 i h1 h2)
  simpa [vas, bss] using this
end Go.Proofs.Ytgffimanhmpohaa
/- Keys from a depth on: path.First, path.Last, path.Flip. -/
namespace Go.Proofs.Ytgffimanhmpohaa
open Go Go.RowKit
end Go.Proofs.Ytgffimanhmpohaa
/- Rows of slices turned round in place; regions in every order of their loud operations. -/
namespace Go.Proofs.Ytgffimanhmpohaa
open Go Go.RowKit
abbrev OneV := { v : Value // v.oneCell' = true }
instance : Inhabited OneV := ⟨⟨.bool false, rfl⟩⟩
end Go.Proofs.Ytgffimanhmpohaa
namespace Go.Proofs.Ytgffimanhmpohaa
open Go Go.RowKit
/-- Values that lean on no cell but bytes. -/
def leafA : AV → Bool
  | .v _ => true
  | .ba _ => true
  | .bs _ none => true
  | .bc _ _ none => true
  | .ptr _ _ => true
  | .pti _ _ _ => true
  | .win _ _ _ _ => true
  | .vw _ _ _ => true
  | .pv _ _ _ _ => true
  | .mr _ => true
  | .ref (.ba _) (.ba _) => true
  | .any => true
  | _ => false
def plainA : Nat → AV → Bool
  | d + 1, .st fs => fs.all (plainA d)
  | d + 1, .tup fs => fs.all (plainA d)
  | _, a => leafA a
theorem RC.plain {g g2 : Gh} (hro : ∀ b o c, g.ro b o = some (B8 c) → g2.ro b o = some (B8 c)) (hbx : g2.bx = g.bx) : ∀ {d : Nat} {T : Ty} {a : AV} {cs : List Value}, RC g T a cs → plainA d a = true → RC g2 T a cs := by
  intro d
  have leaf : ∀ {T : Ty} {a : AV} {cs : List Value}, RC g T a cs → leafA a = true → RC g2 T a cs := by
    intro T a cs h hp
    cases h with
    | v h => exact .v h
    | ba h => exact .ba h
    | nl => simp [leafA] at hp
    | cn h hs => simp [leafA] at hp
    | bs hc hm hr ht =>
      rename_i l tok A c
      cases tok with
      | some j => simp [leafA] at hp
      | none =>
        refine .bs hc hm ?_ fun i hi => by cases hi
        rcases hr with h | ⟨b, o, hA, hj⟩
        · exact .inl h
        · exact .inr ⟨b, o, hA, fun j hj' => hro _ _ _ (hj j hj')⟩
    | sl hc hm F hr hv ht => simp [leafA] at hp
    | ptr h ho => exact .ptr (by rw [hbx]; exact h) ho
    | pti h ho hk => exact .pti (by rw [hbx]; exact h) ho hk
    | win h ho hn hc hm hA => exact .win (by rw [hbx]; exact h) ho hn hc hm hA
    | vw h hT hg hn hm hx => exact .vw (by rw [hbx]; exact h) hT hg hn hm hx
    | pv h hT hg ho hx => exact .pv (by rw [hbx]; exact h) hT hg ho hx
    | mr h hT => exact .mr (by rw [hbx]; exact h) hT
    | slc hn hm F hr hv => simp [leafA] at hp
    | vwc h hk => simp [leafA] at hp
    | bc hn hm hr ht =>
      rename_i l n tok A
      cases tok with
      | some j => simp [leafA] at hp
      | none =>
        refine .bc hn hm ?_ fun i hi => by cases hi
        rcases hr with h | ⟨b, o, hA, hj⟩
        · exact .inl h
        · exact .inr ⟨b, o, hA, fun j hj' => hro _ _ _ (hj j hj')⟩
    | ref cs h hr =>
      cases h with
      | ba h =>
        rename_i n l
        refine .ref (l.map B8) (.ba h) fun j u hu => ?_
        have := hr j u hu
        simp only [List.getElem?_map, Option.map_eq_some_iff] at hu
        obtain ⟨c, _, rfl⟩ := hu
        exact hro _ _ _ this
      | _ => simp [leafA] at hp
  induction d with
  | zero => exact fun {T a cs} h hp => leaf h (by cases a <;> exact hp)
  | succ d ih =>
    intro T a cs h hp
    have key : ∀ {T : Ty} {cs : List Value} {fs : List AV}, RC g T (.st fs) cs → fs.all (plainA d) = true → RC g2 T (.st fs) cs := by
      intro T
      induction T with
      | cn T Ts _ ihs =>
        intro cs fs h hp
        cases h with
        | cn h hs =>
          simp only [List.all_cons, Bool.and_eq_true] at hp
          exact .cn (ih h hp.1) (ihs hs hp.2)
      | nl => intro cs fs h hp; cases h; exact .nl
      | _ => intro cs fs h hp; cases h
    cases a with
    | st fs => exact key h hp
    | tup fs => cases h
    | _ =>
      exact leaf h hp
theorem BC.plain {g g2 : Gh} (hro : ∀ b o c, g.ro b o = some (B8 c) → g2.ro b o = some (B8 c)) (hbx : g2.bx = g.bx) {d : Nat} {T : Ty} {a : AV} {x : Bx} (h : BC g T a x) (hp : plainA d a = true) : BC g2 T a x := by
  obtain ⟨h1, h2, h3⟩ := h.rc_of (fun _ _ e => by subst e; cases d <;> simp [plainA, leafA] at hp) (fun _ _ e => by subst e; cases d <;> simp [plainA, leafA] at hp) (fun _ _ e => by subst e; cases d <;> simp [plainA, leafA] at hp)
  exact .pl (h3.plain hro hbx hp) h1 h2
theorem RV.plain {g g2 : Gh} (hro : ∀ b o c, g.ro b o = some (B8 c) → g2.ro b o = some (B8 c)) (hbx : g2.bx = g.bx) {d : Nat} {a : AV} {u : Value} (h : RV g a u) (hp : plainA (d + 1) a = true) : RV g2 a u := by
  have one : ∀ {d : Nat} {a : AV} {u : Value}, RV1 g a u → plainA d a = true → RV1 g2 a u := fun {d a u} h hp => by
    rcases h with ⟨T, cs, h1, h2, h3⟩ | h
    · exact .inl ⟨T, cs, h1, h2.plain hro hbx hp, h3⟩
    · exact .inr (h.plain hro hbx hp)
  cases a with
  | any => trivial
  | tup az =>
    obtain ⟨vs, h1, h2, h3⟩ := h
    exact ⟨vs, h1, h2, fun i a u ha hu => one (h3 i a u ha hu) (List.all_eq_true.1 hp a (List.mem_of_getElem? ha))⟩
  | _ => exact (one (show RV1 g _ u from h) hp).rv
def Rw.turn (r : Rw) : Rw := { r with cx := r.cx.reverse }
def Gh.turn (g : Gh) (i k : Nat) (r : Rw) : Gh := ⟨fun b o => if b = k then r.cx.reverse[o]? else g.ro b o, g.bx, g.rw.set i r.turn⟩
theorem set_get {α : Type} {l : List α} {i j : Nat} {x y : α} (h : (l.set i x)[j]? = some y) : (j = i ∧ y = x) ∨ (j ≠ i ∧ l[j]? = some y) := by
  rw [List.getElem?_set] at h
  split at h
  · rename_i e
    split at h
    · injection h with h; exact .inl ⟨e.symm, h.symm⟩
    · cases h
  · rename_i e; exact .inr ⟨fun x => e x.symm, h⟩
theorem Inv.turn {P : Program} {w0 w w' : World} {N g : Gh} {bx : List (Ty × AV)} {fz : List Nat} {rw_ : List (TypeId × Nat)} (H : Inv P w0 N g bx fz rw_ w) {i k : Nat} {r : Rw} (hi : g.rw[i]? = some r) (he : r.es = 1) (hv : r.v.ownBlock = some k) (hNi : N.rw.length ≤ i)
    (hNb : ∀ b o u, N.ro b o = some u → b < w0.heap.size) (hcx : ∀ u ∈ r.cx, ∀ c, u ≠ B8 c) (hbx : bx.all (fun x => plainA 4 x.2) = true)
    (hk : Blk w' k r.tid (r.cx.reverse ++ noughts r).toArray) (ho : ∀ j, j ≠ k → w'.heap[j]? = w.heap[j]?) (hs : w'.heap.size = w.heap.size) (h1 : w'.os = w.os) (h2 : w'.tape = w.tape) (h3 : w'.output = w.output) :
    Inv P w0 N (g.turn i k r) bx fz rw_ w' ∧ (∀ b o c, g.ro b o = some (B8 c) → (g.turn i k r).ro b o = some (B8 c)) := by
  have hM := H.mem
  have hR := hM.rw i r hi
  have hlen : r.cx.length = r.n := by have := hR.len; rw [he, Nat.mul_one] at this; exact this
  have hil : i < g.rw.length := (List.getElem?_eq_some_iff.1 hi).1
  have hk0 : w0.heap.size ≤ k := by
    rcases H.fr.rw i r k hi hv with h | ⟨s, hs, _⟩
    · exact h
    · exact absurd (List.getElem?_eq_some_iff.1 hs).1 (by omega)
  have hro8 : ∀ b o c, g.ro b o = some (B8 c) → b ≠ k := fun b o c h e => by
    subst e
    rcases Nat.lt_or_ge o r.cx.length with hl | hg
    · have := hM.rwo i r b hi hv o r.cx[o] (List.getElem?_eq_getElem hl)
      rw [this] at h
      injection h with h
      exact hcx _ (List.getElem_mem hl) c h
    · have := hM.rro i r b hi hv o (by rw [he, Nat.mul_one]; omega)
      rw [this] at h; cases h
  have hro : ∀ b o, b ≠ k → (g.turn i k r).ro b o = g.ro b o := fun b o h => by simp [Gh.turn, h]
  have hrok : ∀ o, (g.turn i k r).ro k o = r.cx.reverse[o]? := fun o => by simp [Gh.turn]
  have hbk : ∀ (j : Nat) (x : Bx), g.bx[j]? = some x → x.off = false → x.blk ≠ k := fun j x hx hxo e => hM.rb j i x r hx hi hxo (by rw [e]; exact hv)
  have hcell : ∀ b o, b ≠ k → w'.cell? ⟨b, o, none⟩ = w.cell? ⟨b, o, none⟩ := fun b o h => by simp only [World.cell?, ho b h]
  have hblk : ∀ {b : Nat} {t : TypeId} {cs : Array Value}, Blk w b t cs → b ≠ k → Blk w' b t cs := fun {b t cs} h hb => (ho b hb).trans h
  have hown : ∀ (j : Nat) (s : Rw) (b : Nat), (g.turn i k r).rw[j]? = some s → s.v.ownBlock = some b → (j = i ∧ s = r.turn ∧ b = k) ∨ (j ≠ i ∧ g.rw[j]? = some s ∧ b ≠ k) := fun j s b hj hb => by
    rcases set_get hj with ⟨rfl, rfl⟩ | ⟨hne, hj'⟩
    · exact .inl ⟨rfl, rfl, by have : r.v.ownBlock = some b := hb; rw [hv] at this; injection this with this; exact this.symm⟩
    · exact .inr ⟨hne, hj', fun e => hne (hM.rr j i s r k hj' hi (by rw [← e]; exact hb) hv)⟩
  refine ⟨⟨⟨fun b o u hu => ?_, fun j x hx hxo => (hM.bx j x hx hxo).keep (ho _ (hbk j x hx hxo)), hM.offc, hM.mpc, fun j s hj => ?_, fun j x hx hf o u hu => ?_, fun j x hx hxo hf o => ?_, hM.bb, fun j s b hj hb o hle => ?_, fun j s b hj hb o u hu => ?_, fun j m x s hx hm hxo => ?_, fun j m s t b hj hm hb hb' => ?_⟩, ⟨?_, H.fr.bx, fun j s b hj hb => ?_, fun b hb hn o => ?_, ?_⟩, ⟨H.br.len, fun j T a hj => ?_⟩, H.fz, ?_, ?_⟩, fun b o c h => ?_⟩
  · by_cases hb : b = k
    · subst hb
      rw [hrok] at hu
      rw [hk.cell, List.getElem?_toArray, List.getElem?_append_left (List.getElem?_eq_some_iff.1 hu).1]
      exact hu
    · rw [hro b o hb] at hu
      rw [hcell b o hb]
      exact hM.ro b o u hu
  · rcases set_get hj with ⟨rfl, rfl⟩ | ⟨hne, hj'⟩
    · refine ⟨hR.pos, hR.zl, fun u hu => hR.one u (by
        rcases List.mem_append.1 hu with h | h
        · exact List.mem_append_left _ (List.mem_reverse.1 h)
        · exact List.mem_append_right _ h), by show r.cx.reverse.length = _; rw [List.length_reverse]; exact hR.len, ?_⟩
      rcases hR.at_ with h | ⟨k', h4, h5, h6⟩
      · exact .inl h
      · refine .inr ⟨k', h4, ?_, h6⟩
        have : k' = k := by rw [h4] at hv; simp [Value.ownBlock] at hv; exact hv
        subst this
        exact hk
    · have hS := hM.rw j s hj'
      refine ⟨hS.pos, hS.zl, hS.one, hS.len, ?_⟩
      rcases hS.at_ with h | ⟨k', h4, h5, h6⟩
      · exact .inl h
      · have hk' : k' ≠ k := fun e => hne (hM.rr j i s r k hj' hi (by rw [h4, ← e]; rfl) hv)
        exact .inr ⟨k', h4, hblk h5 hk', h6⟩
  · have hxo : x.off = false := by cases e : x.off with | false => rfl | true => rw [hM.offc j x hx e] at hu; simp at hu
    rw [hro _ _ (hbk j x hx hxo)]; exact hM.fro j x hx hf o u hu
  · rw [hro _ _ (hbk j x hx hxo)]; exact hM.bro j x hx hxo hf o
  · rcases hown j s b hj hb with ⟨rfl, rfl, rfl⟩ | ⟨_, hj', hbk'⟩
    · rw [hrok]
      refine List.getElem?_eq_none ?_
      rw [List.length_reverse, hlen]
      have : r.n * r.es ≤ o := hle
      rw [he, Nat.mul_one] at this; exact this
    · rw [hro _ _ hbk']; exact hM.rro j s b hj' hb o hle
  · rcases hown j s b hj hb with ⟨rfl, rfl, rfl⟩ | ⟨_, hj', hbk'⟩
    · rw [hrok]; exact hu
    · rw [hro _ _ hbk']; exact hM.rwo j s b hj' hb o u hu
  · rcases set_get hm with ⟨rfl, rfl⟩ | ⟨hne, hm'⟩
    · exact hM.rb j m x r hx hi hxo
    · exact hM.rb j m x s hx hm' hxo
  · rcases hown j s b hj hb with ⟨rfl, rfl, rfl⟩ | ⟨n1, hj', hb1⟩
    · rcases hown m t b hm hb' with ⟨rfl, _, _⟩ | ⟨_, _, hb2⟩
      · rfl
      · exact absurd rfl hb2
    · rcases hown m t b hm hb' with ⟨rfl, _, rfl⟩ | ⟨_, hm', _⟩
      · exact absurd rfl hb1
      · exact hM.rr j m s t b hj' hm' hb hb'
  · have hK := H.fr.kept
    exact ⟨h1.trans hK.os, h2.trans hK.tape, h3.trans hK.output, by rw [hs]; exact hK.size, fun j hj hn => (ho j (by omega)).trans (hK.block j hj hn)⟩
  · rcases set_get hj with ⟨rfl, rfl⟩ | ⟨hne, hj'⟩
    · exact H.fr.rw j r b hi hb
    · exact H.fr.rw j s b hj' hb
  · rw [hro b o (by omega)]; exact H.fr.ro b hb hn o
  · have hl := H.fr.le
    refine ⟨fun b o u hu => ?_, hl.bx, fun j s hj => ?_⟩
    · rw [hro b o (by have := hNb b o u hu; omega)]; exact hl.ro b o u hu
    · obtain ⟨s', hs', h⟩ := hl.rw j s hj
      refine ⟨s', ?_, h⟩
      show (g.rw.set i r.turn)[j]? = some s'
      have hj2 : j < N.rw.length := (List.getElem?_eq_some_iff.1 hj).1
      rw [List.getElem?_set_ne (by omega)]; exact hs'
  · obtain ⟨x, h4, h5, h6⟩ := H.br.at_ j T a hj
    refine ⟨x, h4, h5, BC.plain (g := g) (g2 := g.turn i k r) (d := 4) (fun b o c h => by rw [hro b o (hro8 b o c h)]; exact h) rfl h6 ?_⟩
    exact List.all_eq_true.1 hbx _ (List.mem_of_getElem? hj)
  · rw [← H.wr]
    show (g.rw.set i r.turn).map _ = _
    rw [List.map_set]
    apply List.ext_getElem?
    intro j
    rw [List.getElem?_set]
    split
    · rename_i e; subst e
      rw [if_pos (by simpa using hil), List.getElem?_map, hi]; rfl
    · rfl
  · intro s hs'
    rcases List.mem_or_eq_of_mem_set hs' with h | rfl
    · exact H.wz s h
    · exact H.wz r (List.mem_of_getElem? hi)
  · rw [hro b o (hro8 b o c h)]; exact h
end Go.Proofs.Ytgffimanhmpohaa
namespace Go.Proofs.Ytgffimanhmpohaa
open Go
section
variable {P : Program} {ops : Array Oper} {Q : Exit → Act → World → Prop} {S : World → Prop} {L A : List Nat}
/-- Where an operation stands in an order of one's own. -/
def rk (ord : List Nat) (i : Nat) : Nat := ord.idxOf i
structure OrdOk (ops : Array Oper) (ord : List Nat) : Prop where
  len : ord.length = ops.size
  lt : ∀ i ∈ ord, i < ops.size
  mem : ∀ i, i < ops.size → i ∈ ord
  pos : ∀ p (h : p < ord.length), rk ord ord[p] = p
  edge : ∀ j o, ops[j]? = some o → ∀ e ∈ o.after, Region.binds .any e = true → rk ord e.on < rk ord j
theorem OrdOk.inj {ops : Array Oper} {ord : List Nat} (h : OrdOk ops ord) {i j : Nat} (hi : i < ops.size) (hj : j < ops.size) (e : rk ord i = rk ord j) : i = j := by
  have h1 := List.getElem_idxOf (List.idxOf_lt_length_of_mem (h.mem i hi))
  have h2 := List.getElem_idxOf (List.idxOf_lt_length_of_mem (h.mem j hj))
  unfold rk at e
  rw [← h1, ← h2]
  simp only [e]
end
section
variable {P : Program} {w0 w : World} {N : Gh} {st : St} {nt : Nat} {a : Act}
end
end Go.Proofs.Ytgffimanhmpohaa
/- path.Flip; span.right. -/
namespace Go.Proofs.Ytgffimanhmpohaa
open Go Go.RowKit
end Go.Proofs.Ytgffimanhmpohaa
/- A stretch of keys: what it touches, what it has; parts that are clean. -/
namespace Go.Proofs.Ytgffimanhmpohaa
open Go Go.RowKit
end Go.Proofs.Ytgffimanhmpohaa
/- The document's digests and nodes. -/
namespace Go.Proofs.Ytgffimanhmpohaa
open Go Go.RowKit
end Go.Proofs.Ytgffimanhmpohaa
