/- Operations without effect: the rest, and all together. -/
import Derived.Test.YtpeefeioccglcaaQuiet
import Derived.Deep.Slices
set_option linter.unusedSimpArgs false
set_option linter.unusedVariables false
namespace Go.Proofs.Ytpeefeioccglcaa
open Go Go.RowKit
section
variable {g : Gh} {P : Program} {τ : Tab}
theorem indexA_sound (hτ : τ.ok P) {bx : List (Ty × AV)} (hB : BR g bx) {t : Nat} {x ix r : AV} {c : Prop} (h : indexA τ bx t x ix = some (r, c)) (hc : c) {u v : Value} (hx : RV g x u) (hv : RV g ix v) :
    ∃ z, RV g r z ∧ ∀ w, (Instr.indexAt t u v).run P w = .ok z w := by
  unfold indexA at h
  split at h
  · rename_i k n
    have e := hv.v_inv; subst e
    split at h
    · cases h
    · rename_i i hi
      have hok := Tab.get_ok hτ hi
      have hd := hok.d
      split at h
      · rename_i e l tok hid
        rw [hid] at hd
        split at h
        · rename_i ht
          obtain ⟨j, hj, hjT⟩ := tyIs_ok hτ ht
          obtain ⟨rfl, rfl⟩ := QR.inj h
          obtain ⟨hn0, hn1⟩ := hc
          obtain ⟨_, A, c, e1, hlc, hm, hr⟩ := hx.bs_inv.bs_inv
          injection e1 with e1; subst e1
          rcases hr with h | ⟨b, o, rfl, hcell⟩
          · subst h; simp at hn1; omega
          · obtain ⟨m, rfl⟩ := Int.eq_ofNat_of_zero_le hn0
            have hm' : m < l.length := by omega
            refine ⟨.pointer (some ⟨b, o + m, none⟩), (RC.ref [B8 l[m]] (by unfold elemB; simp only [Int.toNat_natCast, List.getD, List.getElem?_eq_getElem hm', Option.getD_some]; exact .v rfl) (fun j u hu => by
              cases j with
              | succ j => simp at hu
              | zero => simp at hu; subst hu; exact hcell m hm')).rv1, fun w => ?_⟩
            have hs := hj.sizeOf w
            rw [hjT] at hs; simp only [Ty.size] at hs
            have ha : (⟨b, o, none⟩ : Addr).add m = ⟨b, o + m, none⟩ := addr_add b o m
            simp [Instr.indexAt, asIntOf, run_underlying (show P.underlying t = _ from hd), hs, ha, hm']
        · cases h
      · rename_i e T es tok hid
        rw [hid] at hd
        split at h
        · rename_i ht
          obtain ⟨j, hj, hjT⟩ := tyIs_ok hτ ht
          obtain ⟨rfl, rfl⟩ := QR.inj h
          obtain ⟨hn0, hn1⟩ := hc
          obtain ⟨_, A, c, F, e1, hlc, hm, hr, hF⟩ := hx.sl_inv.sl_inv
          injection e1 with e1; subst e1
          rcases hr with h | ⟨b, o, rfl, hcell⟩
          · subst h; simp at hn1; omega
          · obtain ⟨m, rfl⟩ := Int.eq_ofNat_of_zero_le hn0
            have hm' : m < es.length := by omega
            refine ⟨.pointer (some ⟨b, o + m * T.size, none⟩), (RC.ref (F m) (by simp only [Int.toNat_natCast, List.getD, List.getElem?_eq_getElem hm', Option.getD_some]; exact hF m hm') (fun j u hu => hcell m hm' j u hu)).rv1, fun w => ?_⟩
            have hs := hj.sizeOf w
            rw [hjT] at hs
            have ha : (⟨b, o, none⟩ : Addr).add (m * T.size) = ⟨b, o + m * T.size, none⟩ := addr_add b o _
            simp [Instr.indexAt, asIntOf, run_underlying (show P.underlying t = _ from hd), hs, ha, hm']
        · cases h
      · rename_i e b path o m hid
        rw [hid] at hd
        split at h
        · rename_i ht
          obtain ⟨j, hj, hjT⟩ := tyIs_ok hτ ht
          obtain ⟨rfl, rfl⟩ := QR.inj h
          obtain ⟨hn0, hn1⟩ := hc
          obtain ⟨_, y, o2, n2, cc, A, e1, hy, hl, hon, hcc, hm, hA⟩ := hx.win_inv.win_inv
          injection e1 with e1; subst e1
          obtain ⟨q, rfl⟩ := Int.eq_ofNat_of_zero_le hn0
          rcases hA with h | rfl
          · subst h; simp at hn1; omega
          · have hq : q < m := by omega
            simp only [Int.toNat_natCast]
            refine ⟨.pointer (some ⟨y.blk, o2 + (o + q), none⟩), (RC.pti hy hl (by omega)).rv1, fun w => ?_⟩
            have hs := hj.sizeOf w
            rw [hjT] at hs; simp only [Ty.size] at hs
            have ha : (⟨y.blk, o2 + o, none⟩ : Addr).add q = ⟨y.blk, o2 + (o + q), none⟩ := by rw [addr_add, Nat.add_assoc]
            simp [Instr.indexAt, asIntOf, run_underlying (show P.underlying t = _ from hd), hs, ha, hq]
        · cases h
      · rename_i m e b path hid
        rw [hid] at hd
        split at h
        · rename_i T a0 hb
          split at h
          · rename_i o2 m2 hl2
            split at h
            · rename_i hcond
              obtain ⟨rfl, ht⟩ := hcond
              obtain ⟨j, hj, hjT⟩ := tyIs_ok hτ ht
              obtain ⟨rfl, rfl⟩ := QR.inj h
              obtain ⟨hn0, hn1⟩ := hc
              obtain ⟨_, y, o3, T3, hy, ho3, e⟩ := hx.ptr_inv.ptr_inv
              injection e with e; subst e
              obtain ⟨y', hy', hty, _⟩ := hB.get hb
              rw [hy] at hy'; injection hy' with hy'; subst hy'
              rw [hty, hl2] at ho3
              simp only [Option.some.injEq, Prod.mk.injEq] at ho3
              obtain ⟨rfl, rfl⟩ := ho3
              obtain ⟨q, rfl⟩ := Int.eq_ofNat_of_zero_le hn0
              simp only [Int.toNat_natCast]
              refine ⟨.pointer (some ⟨y.blk, o2 + q, none⟩), (RC.pti hy (by rw [hty]; exact hl2) (by omega)).rv1, fun w => ?_⟩
              have hs := hj.sizeOf w
              rw [hjT] at hs; simp only [Ty.size] at hs
              have ha : (⟨y.blk, o2, none⟩ : Addr).add q = ⟨y.blk, o2 + q, none⟩ := addr_add _ _ _
              have hq : q < m2 := by omega
              simp [Instr.indexAt, asIntOf, run_underlying (show P.underlying t = _ from hd.1), Instr.sureAddr, hs, ha, hq]
            · cases h
          · cases h
        · cases h
      · cases h
  · cases h
theorem lenq_sound (hτ : τ.ok P) {t : Nat} {x r : AV} {c : Prop} (h : lenq τ t x = some (r, c)) {u : Value} (hx : RV g x u) (ty : TypeId) :
    ∃ z, RV g r z ∧ ∀ w, (Builtin.len_ #[t] ty #[u]).run P w = .ok z w := by
  unfold lenq at h
  split at h
  · cases h
  · rename_i i hi
    have hok := Tab.get_ok hτ hi
    have hd := hok.d
    split at h
    · rename_i e l tok hid
      rw [hid] at hd
      obtain ⟨rfl, rfl⟩ := QR.inj h
      obtain ⟨_, A, c, e1, _⟩ := hx.bs_inv.bs_inv
      injection e1 with e1; subst e1
      exact ⟨_, RV.v_of rfl, fun w => by simp [Builtin.len_, run_underlying (show P.underlying t = _ from hd), goInt]⟩
    · rename_i e T es tok hid
      rw [hid] at hd
      obtain ⟨rfl, rfl⟩ := QR.inj h
      obtain ⟨_, A, c, F, e1, _⟩ := hx.sl_inv.sl_inv
      injection e1 with e1; subst e1
      exact ⟨_, RV.v_of rfl, fun w => by simp [Builtin.len_, run_underlying (show P.underlying t = _ from hd), goInt]⟩
    · rename_i e b path o n hid
      rw [hid] at hd
      obtain ⟨rfl, rfl⟩ := QR.inj h
      obtain ⟨_, y, o2, n2, cc, A, e1, _⟩ := hx.win_inv.win_inv
      injection e1 with e1; subst e1
      exact ⟨_, RV.v_of rfl, fun w => by simp [Builtin.len_, run_underlying (show P.underlying t = _ from hd), goInt]⟩
    · rename_i e l n tok hid
      rw [hid] at hd
      obtain ⟨rfl, rfl⟩ := QR.inj h
      obtain ⟨_, A, e1, _⟩ := hx.bc_inv.bc_inv
      injection e1 with e1; subst e1
      exact ⟨_, RV.v_of rfl, fun w => by simp [Builtin.len_, run_underlying (show P.underlying t = _ from hd), goInt]⟩
    · rename_i e hid
      rw [hid] at hd
      have e := hx.v_inv; subst e
      obtain ⟨rfl, rfl⟩ := QR.inj h
      exact ⟨_, RV.v_of rfl, fun w => by simp [Builtin.len_, run_underlying (show P.underlying t = _ from hd), goInt]⟩
    · rename_i s hid
      rw [hid] at hd
      have e := hx.v_inv; subst e
      obtain ⟨rfl, rfl⟩ := QR.inj h
      exact ⟨_, RV.v_of rfl, fun w => by simp [Builtin.len_, run_underlying (show P.underlying t = _ from hd), goInt]⟩
    · cases h
theorem capq_sound (hτ : τ.ok P) {t : Nat} {x r : AV} {c : Prop} (h : capq τ t x = some (r, c)) {u : Value} (hx : RV g x u) (ty : TypeId) :
    ∃ z, RV g r z ∧ ∀ w, (Builtin.cap_ #[t] ty #[u]).run P w = .ok z w := by
  unfold capq at h
  split at h
  · cases h
  · rename_i i hi
    have hok := Tab.get_ok hτ hi
    have hd := hok.d
    split at h
    · rename_i e l n tok hid
      rw [hid] at hd
      obtain ⟨rfl, rfl⟩ := QR.inj h
      obtain ⟨_, A, e1, _⟩ := hx.bc_inv.bc_inv
      injection e1 with e1; subst e1
      exact ⟨_, RV.v_of rfl, fun w => by simp [Builtin.cap_, run_underlying (show P.underlying t = _ from hd), goInt]⟩
    · rename_i e hid
      rw [hid] at hd
      have e := hx.v_inv; subst e
      obtain ⟨rfl, rfl⟩ := QR.inj h
      exact ⟨_, RV.v_of rfl, fun w => by simp [Builtin.cap_, run_underlying (show P.underlying t = _ from hd), goInt]⟩
    · cases h
/-- An optional bound. -/
def RO (g : Gh) : Option AV → Option Value → Prop
  | none, none => True
  | some a, some v => RV g a v
  | _, _ => False
theorem bnd_some {d n : Int} {a : Option AV} {v : Option Value} (h : bnd d a = some n) (hv : RO g a v) : (a = none ∧ v = none ∧ n = d) ∨ ∃ k, v = some (.int k n) := by
  cases a with
  | none => cases v with
    | none => simp only [bnd, Option.some.injEq] at h; exact .inl ⟨rfl, rfl, h.symm⟩
    | some v => exact hv.elim
  | some a => cases v with
    | none => exact hv.elim
    | some v =>
      unfold bnd at h
      split at h
      · rename_i e; cases e
      · rename_i e; injection e with e; subst e; injection h with h; subst h; have := RV.v_inv (show RV g (.v _) v from hv); subst this; exact .inr ⟨_, rfl⟩
      · cases h
theorem run_bounds {isS : Bool} {len cap : Nat} {lo hi : Option AV} {vlo vhi : Option Value} {a b : Int} (h1 : bnd 0 lo = some a) (h2 : bnd len hi = some b) (r1 : RO g lo vlo) (r2 : RO g hi vhi) (ha : 0 ≤ a) (hab : a ≤ b) (hb : b ≤ len) (hl : len ≤ cap) (w : World) :
    (Instr.sliceBounds isS len cap vlo vhi none).run P w = .ok (a.toNat, b.toNat, cap) w := by
  have hbc : b ≤ cap := by omega
  have hb0 : 0 ≤ b := by omega
  have e : ((b.toNat : Nat) : Int) = b := by omega
  rcases bnd_some h1 r1 with ⟨_, rfl, rfl⟩ | ⟨k1, rfl⟩ <;> rcases bnd_some h2 r2 with ⟨_, rfl, rfl⟩ | ⟨k2, rfl⟩
  · simp [Instr.sliceBounds]
  · simp [Instr.sliceBounds, Instr.sliceBound, asIntOf, hb0, hbc]
  · simp [Instr.sliceBounds, Instr.sliceBound, asIntOf, ha, hab]
  · simp [Instr.sliceBounds, Instr.sliceBound, asIntOf, ha, hb0, hbc, e, hab]
theorem run_boundsC {isS : Bool} {len cap : Nat} {lo hi : Option AV} {vlo vhi : Option Value} {a b : Int} (h1 : bnd 0 lo = some a) (h2 : bnd len hi = some b) (r1 : RO g lo vlo) (r2 : RO g hi vhi) (ha : 0 ≤ a) (hab : a ≤ b) (hb : b ≤ cap) (w : World) :
    (Instr.sliceBounds isS len cap vlo vhi none).run P w = .ok (a.toNat, b.toNat, cap) w := by
  have hb0 : 0 ≤ b := by omega
  have e : ((b.toNat : Nat) : Int) = b := by omega
  rcases bnd_some h1 r1 with ⟨_, rfl, rfl⟩ | ⟨k1, rfl⟩ <;> rcases bnd_some h2 r2 with ⟨_, rfl, rfl⟩ | ⟨k2, rfl⟩
  · simp [Instr.sliceBounds]
  · simp [Instr.sliceBounds, Instr.sliceBound, asIntOf, hb0, hb]
  · simp [Instr.sliceBounds, Instr.sliceBound, asIntOf, ha, hab]
  · simp [Instr.sliceBounds, Instr.sliceBound, asIntOf, ha, hb0, hb, e, hab]
theorem slq_sound (hτ : τ.ok P) {bx : List (Ty × AV)} (hB : BR g bx) {t : Nat} {x r : AV} {lo hi : Option AV} {c : Prop} (h : slq τ bx t x lo hi = some (r, c)) (hc : c) {u : Value} {vlo vhi : Option Value} (hx : RV g x u) (r1 : RO g lo vlo) (r2 : RO g hi vhi) :
    ∃ z, RV g r z ∧ ∀ w, (Instr.sliceAt t u vlo vhi none).run P w = .ok z w := by
  unfold slq at h
  split at h
  · cases h
  · rename_i i hi
    have hok := Tab.get_ok hτ hi
    have hd := hok.d
    split at h
    · rename_i e l tok hid
      rw [hid] at hd
      split at h
      · rename_i a b h1 h2
        split at h
        · rename_i ht
          obtain ⟨j, hj, hjT⟩ := tyIs_ok hτ ht
          obtain ⟨rfl, rfl⟩ := QR.inj h
          obtain ⟨c1, c2, c3⟩ := hc
          obtain ⟨_, A, c, e1, hlc, hm, hr⟩ := hx.bs_inv.bs_inv
          injection e1 with e1; subst e1
          have hlen : ((l.take b.toNat).drop a.toNat).length = b.toNat - a.toNat := by rw [List.length_drop, List.length_take]; omega
          refine ⟨.slice (if c = a.toNat then A else A.map (·.add a.toNat)) (b.toNat - a.toNat) (c - a.toNat), ?_, fun w => ?_⟩
          · have := RC.bs (g := g) (l := (l.take b.toNat).drop a.toNat) (tok := none) (A := if c = a.toNat then A else A.map (·.add a.toNat)) (c := c - a.toNat) (by rw [hlen]; omega) (by omega) ?_ (fun i hi => by cases hi)
            · rw [hlen] at this; exact this.rv1
            · by_cases hz : b.toNat - a.toNat = 0
              · exact .inl (List.length_eq_zero_iff.1 (by rw [hlen]; exact hz))
              · rcases hr with h | ⟨bb, o, rfl, hcell⟩
                · subst h; simp at c3; omega
                · refine .inr ⟨bb, o + a.toNat, ?_, fun j hj => ?_⟩
                  · rw [if_neg (by omega)]; simp [addr_add]
                  · rw [hlen] at hj
                    have := hcell (a.toNat + j) (by omega)
                    rw [Nat.add_assoc, this]
                    simp
          · have hs := hj.sizeOf w
            rw [hjT] at hs; simp only [Ty.size] at hs
            simp [Instr.sliceAt, Instr.slice, run_underlying (show P.underlying t = _ from hd), run_bounds h1 h2 r1 r2 c1 c2 c3 hlc, hs]
        · cases h
      · cases h
    · rename_i e T es tok hid
      rw [hid] at hd
      split at h
      · rename_i a b h1 h2
        split at h
        · rename_i ht
          obtain ⟨j, hj, hjT⟩ := tyIs_ok hτ ht
          obtain ⟨rfl, rfl⟩ := QR.inj h
          obtain ⟨c1, c2, c3⟩ := hc
          obtain ⟨_, A, c, F, e1, hlc, hm, hr, hF⟩ := hx.sl_inv.sl_inv
          injection e1 with e1; subst e1
          have hlen : ((es.take b.toNat).drop a.toNat).length = b.toNat - a.toNat := by rw [List.length_drop, List.length_take]; omega
          refine ⟨.slice (if c = a.toNat then A else A.map (·.add (a.toNat * T.size))) (b.toNat - a.toNat) (c - a.toNat), ?_, fun w => ?_⟩
          · have := RC.sl (g := g) (T := T) (es := (es.take b.toNat).drop a.toNat) (tok := none) (A := if c = a.toNat then A else A.map (·.add (a.toNat * T.size))) (c := c - a.toNat) (by rw [hlen]; omega) (by omega) (fun k => F (a.toNat + k)) ?_ ?_ (fun i hi => by cases hi)
            · rw [hlen] at this; exact this.rv1
            · by_cases hz : b.toNat - a.toNat = 0
              · exact .inl (List.length_eq_zero_iff.1 (by rw [hlen]; exact hz))
              · rcases hr with h | ⟨bb, o, rfl, hcell⟩
                · subst h; simp at c3; omega
                · refine .inr ⟨bb, o + a.toNat * T.size, ?_, fun k hk j u hu => ?_⟩
                  · rw [if_neg (by omega)]; simp [addr_add]
                  · rw [hlen] at hk
                    have := hcell (a.toNat + k) (by omega) j u hu
                    rw [Nat.add_mul, ← Nat.add_assoc] at this
                    exact this
            · intro k hk
              rw [hlen] at hk
              have := hF (a.toNat + k) (by omega)
              simpa using this
          · have hs := hj.sizeOf w
            rw [hjT] at hs
            simp [Instr.sliceAt, Instr.slice, run_underlying (show P.underlying t = _ from hd), run_bounds h1 h2 r1 r2 c1 c2 c3 hlc, hs]
        · cases h
      · cases h
    · rename_i e l n tok hid
      rw [hid] at hd
      split at h
      · rename_i a b h1 h2
        split at h
        · rename_i ht
          obtain ⟨j, hj, hjT⟩ := tyIs_ok hτ ht
          obtain ⟨rfl, rfl⟩ := QR.inj h
          obtain ⟨c1, c2, c3⟩ := hc
          obtain ⟨_, A, e1, hn, hm, hr, htk⟩ := hx.bc_inv.bc_inv
          injection e1 with e1; subst e1
          have hlen : (l.drop a.toNat).length = l.length - a.toNat := List.length_drop
          refine ⟨.slice (if l.length = a.toNat then A else A.map (·.add a.toNat)) (b.toNat - a.toNat) (l.length - a.toNat), ?_, fun w => ?_⟩
          · have := RC.bc (g := g) (l := l.drop a.toNat) (n := b.toNat - a.toNat) (tok := keepTok lo tok) (A := if l.length = a.toNat then A else A.map (·.add a.toNat)) (by rw [hlen]; omega) (by rw [hlen]; omega) ?_ (fun i hi => ?_)
            · rw [hlen] at this; exact this.rv1
            · by_cases hz : l.length = a.toNat
              · exact .inl (List.length_eq_zero_iff.1 (by rw [hlen]; omega))
              · rcases hr with h | ⟨bb, o, rfl, hcell⟩
                · subst h; exact absurd (by simp at c3 ⊢; omega) hz
                · refine .inr ⟨bb, o + a.toNat, ?_, fun j hj => ?_⟩
                  · rw [if_neg hz]; simp [addr_add]
                  · rw [hlen] at hj
                    have := hcell (a.toNat + j) (by omega)
                    rw [Nat.add_assoc, this]
                    simp
            · cases lo with
              | some q => cases hi
              | none =>
                obtain ⟨x, k1, k2, k3⟩ := htk i hi
                have ha0 : a = 0 := by simp only [bnd, Option.some.injEq] at h1; exact h1.symm
                subst ha0
                refine ⟨x, k1, ?_, by rw [hlen]; simpa using k3⟩
                rw [k2]; simp [addr_add]
          · have hs := hj.sizeOf w
            rw [hjT] at hs; simp only [Ty.size] at hs
            simp [Instr.sliceAt, Instr.slice, run_underlying (show P.underlying t = _ from hd), run_boundsC h1 h2 r1 r2 c1 c2 c3, hs]
        · cases h
      · cases h
    · rename_i e b0 path o m hid
      rw [hid] at hd
      split at h
      · rename_i a b h1 h2
        split at h
        · rename_i ht
          obtain ⟨j, hj, hjT⟩ := tyIs_ok hτ ht
          obtain ⟨rfl, rfl⟩ := QR.inj h
          obtain ⟨c1, c2, c3⟩ := hc
          obtain ⟨_, y, o2, n2, cc, A, e1, hy, hl, hon, hcc, hm, hA⟩ := hx.win_inv.win_inv
          injection e1 with e1; subst e1
          refine ⟨.slice (if cc = a.toNat then A else A.map (·.add a.toNat)) (b.toNat - a.toNat) (cc - a.toNat), ?_, fun w => ?_⟩
          · refine (RC.win hy hl (by omega) (by omega) (by omega) ?_).rv1
            by_cases hz : cc - a.toNat = 0
            · exact .inl hz
            · rcases hA with h | rfl
              · omega
              · right; rw [if_neg (by omega)]; simp [addr_add, Nat.add_assoc]
          · have hs := hj.sizeOf w
            rw [hjT] at hs; simp only [Ty.size] at hs
            simp [Instr.sliceAt, Instr.slice, run_underlying (show P.underlying t = _ from hd), run_bounds h1 h2 r1 r2 c1 c2 c3 hcc, hs]
        · cases h
      · cases h
    · rename_i m e b path hid
      rw [hid] at hd
      split at h
      · rename_i T a0 hb
        split at h
        · rename_i o2 m2 a b' hl2 h1 h2
          split at h
          · rename_i hcond
            obtain ⟨rfl, ht⟩ := hcond
            obtain ⟨j, hj, hjT⟩ := tyIs_ok hτ ht
            obtain ⟨rfl, rfl⟩ := QR.inj h
            obtain ⟨c1, c2, c3, c4⟩ := hc
            obtain ⟨_, y, o3, T3, hy, ho3, e⟩ := hx.ptr_inv.ptr_inv
            injection e with e; subst e
            obtain ⟨y', hy', hty, _⟩ := hB.get hb
            rw [hy] at hy'; injection hy' with hy'; subst hy'
            rw [hty, hl2] at ho3
            simp only [Option.some.injEq, Prod.mk.injEq] at ho3
            obtain ⟨rfl, rfl⟩ := ho3
            refine ⟨.slice (some (if m2 = a.toNat then ⟨y.blk, o2, none⟩ else (⟨y.blk, o2, none⟩ : Addr).add a.toNat)) (b'.toNat - a.toNat) (m2 - a.toNat), ?_, fun w => ?_⟩
            · refine (RC.win hy (by rw [hty]; exact hl2) (by omega) (by omega) (by simp only [maxLen]; omega) ?_).rv1
              by_cases hz : m2 - a.toNat = 0
              · exact .inl hz
              · right; rw [if_neg (by omega), addr_add]
            · have hs := hj.sizeOf w
              rw [hjT] at hs; simp only [Ty.size] at hs
              simp [Instr.sliceAt, run_underlying (show P.underlying t = _ from hd.1), Instr.sureAddr, run_bounds h1 h2 r1 r2 c1 c2 c3 (Nat.le_refl _), hs]
          · cases h
        · cases h
      · cases h
    · cases h
theorem s2a_sound (hτ : τ.ok P) {t : Nat} {x r : AV} {c : Prop} (h : s2a τ t x = some (r, c)) (hc : c) {u : Value} (hx : RV g x u) :
    ∃ z, RV g r z ∧ ∀ w, (Instr.arrayAt t u).run P w = .ok z w := by
  unfold s2a at h
  split at h
  · cases h
  · rename_i i hi
    have hok := Tab.get_ok hτ hi
    have hd := hok.d
    split at h
    · rename_i m e l tok hid
      rw [hid] at hd
      split at h
      · rename_i hcond
        obtain ⟨rfl, rfl⟩ := QR.inj h
        obtain ⟨c1, c2⟩ := hc
        obtain ⟨_, A, c, e1, hlc, hm, hr⟩ := hx.bs_inv.bs_inv
        injection e1 with e1; subst e1
        rcases hr with h | ⟨b, o, rfl, hcell⟩
        · subst h; simp at c2; omega
        · refine ⟨.pointer (some ⟨b, o, none⟩), (RC.ref ((l.take m).map B8) (.ba (by rw [List.length_take]; omega)) fun j u hu => ?_).rv1, fun w => ?_⟩
          · simp only [List.getElem?_map, Option.map_eq_some_iff] at hu
            obtain ⟨x0, hx0, rfl⟩ := hu
            obtain ⟨hj, hj2⟩ := List.getElem?_eq_some_iff.1 hx0
            rw [List.length_take] at hj
            rw [hcell j (by omega), ← hj2]
            simp
          · simp [Instr.arrayAt, run_underlying (show P.underlying t = _ from hd.1), Nat.not_lt.2 c2]
      · cases h
    · cases h
theorem idxq_sound (hτ : τ.ok P) {t : Nat} {x ix r : AV} {c : Prop} (h : idxq τ t x ix = some (r, c)) (hc : c) {u v : Value} (hx : RV g x u) (hi : RV g ix v) :
    ∃ z, RV g r z ∧ ∀ w, (Instr.index t u v).run P w = .ok z w := by
  unfold idxq at h
  split at h
  · rename_i i k n hit
    have hv := hi.v_inv; subst hv
    have hok := Tab.get_ok hτ hit
    have hd := hok.d
    split at h
    · rename_i m e l hid
      rw [hid] at hd
      split at h
      · rename_i hcond
        obtain ⟨hT, ht⟩ := hcond
        obtain ⟨j, hj, hjT⟩ := tyIs_ok hτ ht
        obtain ⟨rfl, rfl⟩ := QR.inj h
        obtain ⟨c1, c2, c3⟩ := hc
        obtain ⟨n, rfl⟩ := Int.eq_ofNat_of_zero_le c1
        have hu := hx.ba_inv; subst hu
        have hn : n < l.length := by omega
        refine ⟨B8 l[n], ?_, fun w => ?_⟩
        · have e : elemB l (n : Int) = .v (B8 l[n]) := by simp [elemB, hn, B8]
          rw [e]; exact RV.v_of rfl
        · have := run_part_byte (P := P) hj hjT l n hn w
          have hn2 : n < m := by omega
          simpa [Instr.index, asIntOf, run_underlying (show P.underlying t = _ from hd.1), hn2, hj.sizeOf w, hjT, Ty.size] using this
      · cases h
    · rename_i m e fs hid
      rw [hid] at hd
      split at h
      · rename_i o T f hl hf
        split at h
        · rename_i hcond
          obtain ⟨ht, hagg, hall⟩ := hcond
          obtain ⟨j, hj, hjT⟩ := tyIs_ok hτ ht
          obtain ⟨rfl, rfl⟩ := QR.inj h
          obtain ⟨⟨c1, c2⟩, hfit⟩ := hc
          obtain ⟨n, rfl⟩ := Int.eq_ofNat_of_zero_le c1
          have hn : n < m := by omega
          have hln := List.all_eq_true.1 hall n (List.mem_range.2 hn)
          simp only [beq_iff_eq] at hln
          obtain ⟨cs, hrc, rfl⟩ := hx.fit hfit
          obtain ⟨a'', ha'', pre, mid, post, hcs, hpre, hmid, _⟩ := hrc.lens hln
          have ha2 : a'' = f := by
            simp only [AV.loc, Int.toNat_natCast] at ha'' hf
            rw [hf] at ha''
            simpa using ha''.symm
          subst ha2
          rw [← hjT] at hmid
          have hTa : i.ty.agg = true := by have := hok.agg.2; rw [hd.1] at this; exact this.symm
          have hsz : j.ty.size = 1 := by rw [hjT]; cases T <;> simp [Ty.agg] at hagg; rfl
          refine ⟨_, hmid.rv.rv', fun w => ?_⟩
          have := run_part hj (xs := cs.toArray) (off := n) (pre := pre) (mid := mid) (post := post) (by simpa using hcs) (by omega) hmid w
          rw [mkV, if_pos hTa]
          simp [Instr.index, asIntOf, run_underlying (show P.underlying t = _ from hd.1), hn, hj.sizeOf w, hsz, this]
        · cases h
      · cases h
    · cases h
  · cases h
theorem fldq_sound (hτ : τ.ok P) {t f : Nat} {x r : AV} {c : Prop} (h : fldq τ t x f = some (r, c)) (hc : c) {u : Value} (hx : RV g x u) :
    ∃ z, RV g r z ∧ ∀ w, (Instr.field t u f).run P w = .ok z w := by
  unfold fldq at h
  split at h
  · cases h
  · rename_i i hi
    have hok := Tab.get_ok hτ hi
    have hd := hok.d
    split at h
    · rename_i fs o T' a hid hl ha
      rw [hid] at hd
      obtain ⟨F, hF, hfs, _⟩ := hd
      split at h
      · rename_i o' t' hf
        split at h
        · rename_i hcond
          obtain ⟨rfl, ht⟩ := hcond
          obtain ⟨j, hj, hjT⟩ := tyIs_ok hτ ht
          obtain ⟨rfl, rfl⟩ := QR.inj h
          subst hfs
          rw [List.getElem?_map] at hf
          obtain ⟨f0, hf0, hf1⟩ := Option.map_eq_some_iff.1 hf
          simp only [Prod.mk.injEq] at hf1
          obtain ⟨hf1, hf2⟩ := hf1
          have hFf : F[f]? = some f0 := by rw [← Array.getElem?_toList]; exact hf0
          obtain ⟨cs, hrc, rfl⟩ := hx.fit hc
          obtain ⟨a'', ha'', pre, mid, post, hcs, hpre, hmid, _⟩ := hrc.lens hl
          rw [ha] at ha''; injection ha'' with ha''; subst ha''
          rw [← hjT] at hmid
          have hT : i.ty.agg = true := by have := hok.agg.2; rw [hF] at this; exact this.symm
          refine ⟨_, hmid.rv.rv', fun w => ?_⟩
          have := run_part hj (xs := cs.toArray) (off := f0.offset) (pre := pre) (mid := mid) (post := post) (by simpa using hcs) (by omega) hmid w
          rw [mkV, if_pos hT]
          simp [Instr.field, run_underlying hF, hFf, asAgg, hf2, this]
        · cases h
      · cases h
    · cases h
end
end Go.Proofs.Ytpeefeioccglcaa
