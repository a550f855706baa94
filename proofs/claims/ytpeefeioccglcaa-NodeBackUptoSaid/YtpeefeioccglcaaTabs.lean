/- A type of the program, checked. -/
import Derived.Test.YtpeefeioccglcaaRun
set_option linter.unusedSimpArgs false
set_option linter.unusedVariables false
namespace Go.Proofs.Ytpeefeioccglcaa
open Go Go.RowKit
def chkD (P : Program) (t : TypeId) : D → Bool
  | .int k => (match P.underlying t with | some (.int k') => k == k' | _ => false)
  | .bool => (match P.underlying t with | some .bool => true | _ => false)
  | .str => (match P.underlying t with | some .string => true | _ => false)
  | .ptr e => (match P.underlying t with | some (.pointer e') => e == e' | _ => false)
  | .slc e => (match P.underlying t with | some (.slice e') => e == e' | _ => false)
  | .arr n e => (match P.underlying t with | some (.array n' e') => n == n' && e == e' && (P.info? e).isSome | _ => false)
  | .rcd fs => (match P.underlying t with | some (.struct F) => F.toList.map (fun f => (f.offset, f.type)) == fs && F.toList.all fun f => f.name != "_" && (P.info? f.type).isSome | _ => false)
  | .oth => true
theorem chkD_ok {P : Program} {t : TypeId} {d : D} (h : chkD P t d = true) : d.ok P t := by
  cases d with
  | arr n e =>
    simp only [chkD] at h
    split at h
    · rename_i n' e' hu
      simp only [Bool.and_eq_true, beq_iff_eq] at h
      obtain ⟨⟨rfl, rfl⟩, h3⟩ := h
      exact ⟨hu, h3⟩
    · cases h
  | rcd fs =>
    simp only [chkD] at h
    split at h
    · rename_i F hu
      simp only [Bool.and_eq_true, beq_iff_eq, List.all_eq_true, bne_iff_ne] at h
      exact ⟨F, hu, h.1, h.2⟩
    · cases h
  | oth => trivial
  | _ =>
    simp only [chkD] at h
    split at h
    · simp_all [D.ok]
    · cases h
def chkT (P : Program) (t : TypeId) (i : TI) : Bool :=
  (match P.info? t with | some inf => inf.size == i.ty.size && inf.bytes == i.bytes | none => false) && (P.underlying t).isSome && aggB (P.underlying t) == i.ty.agg && chkD P t i.d && (!i.ty.agg || (!P.eqGuardType P.depth t && !P.stoodInHeld t))
theorem ti_ok {P : Program} {t : TypeId} {i : TI} {zc : List Value} (h : chkT P t i = true) (hz : ((P.info? t).bind (·.zero)).map (·.cells.toList) = some zc) (hr : ∀ g, RC g i.ty i.zero zc) (hi : ∀ k, i.d = .int k → i.zero = .v (.int k 0)) : i.ok P t := by
  unfold chkT at h
  simp only [Bool.and_eq_true, beq_iff_eq, Bool.or_eq_true, Bool.not_eq_true'] at h
  obtain ⟨⟨⟨⟨h1, h2⟩, h3⟩, h4⟩, h5⟩ := h
  cases hinf : P.info? t with
  | none => rw [hinf] at h1; cases h1
  | some inf =>
    rw [hinf] at h1 hz
    simp only [Bool.and_eq_true, beq_iff_eq] at h1
    cases hzz : inf.zero with
    | none => simp [hzz] at hz
    | some z =>
      simp only [Option.bind_some, hzz, Option.map_some, Option.some.injEq] at hz
      exact ⟨⟨inf, z, hinf, h1.1, h1.2, hzz, fun g => by rw [hz]; exact hr g⟩, ⟨h2, h3⟩, chkD_ok h4, hi, fun hT => by rcases h5 with h | h; (rw [h] at hT; cases hT); exact h⟩
end Go.Proofs.Ytpeefeioccglcaa
