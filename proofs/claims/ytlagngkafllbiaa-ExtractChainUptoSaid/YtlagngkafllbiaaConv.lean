/- Contracts in memory made contracts in values: the block step of SHA-256, the document's sum. -/
import Derived.Test.YtlagngkafllbiaaA4
import Derived.Test.YtlagngkafllbiaaShaY
import Derived.Test.YtlagngkafllbiaaRSum
set_option linter.unusedSimpArgs false
set_option linter.unusedVariables false
namespace Go.Proofs.Ytlagngkafllbiaa
open Go Go.RowKit
section
variable {P : Program}
theorem VC.ofA {f : FuncId} {args : List AV} {res : AV} (hf : Fok P f)
    (h : ∀ (w : World) (N : Gh) (vs : List Value), Mem N w → vs.length = args.length → (∀ (i : Nat) x v, args[i]? = some x → vs[i]? = some v → RV N x v) →
      Calls P f vs.toArray w fun e w' => ∃ v, e = .returned v ∧ Below w.heap.size w w' ∧ RV N res v) : VC P f args [] res := by
  refine ⟨hf, fun w N vs hI hl hv => (h w N vs hI.mem hl hv).mono ?_⟩
  rintro e w' ⟨v, rfl, hb, hr⟩
  exact ⟨N, v, rfl, hI.keep (fun k hk => hb.block k hk) hb.size hb.os hb.tape hb.output, hr⟩
theorem two {args : List AV} {vs : List Value} {N : Gh} {x y : AV} (hl : vs.length = [x, y].length) (hv : ∀ (i : Nat) a v, [x, y][i]? = some a → vs[i]? = some v → RV N a v) : ∃ u v, vs = [u, v] ∧ RV N x u ∧ RV N y v := by
  match vs, hl with
  | [u, v], _ => exact ⟨u, v, rfl, hv 0 x u rfl rfl, hv 1 y v rfl rfl⟩
theorem one_ {vs : List Value} {N : Gh} {x : AV} (hl : vs.length = [x].length) (hv : ∀ (i : Nat) a v, [x][i]? = some a → vs[i]? = some v → RV N a v) : ∃ u, vs = [u] ∧ RV N x u := by
  match vs, hl with
  | [u], _ => exact ⟨u, rfl, hv 0 x u rfl rfl⟩
theorem RC.bs_rd {g : Gh} {w : World} (hM : Mem g w) {l : List UInt8} {u : Value} (h : RV g (.bs l none) u) : ∃ A c, u = .slice A l.length c ∧ Rd byteE w w.heap.size A l := by
  obtain ⟨_, A, c, e, _, _, hr⟩ := h.bs_inv.bs_inv
  injection e with e
  refine ⟨A, c, e, ?_⟩
  rcases hr with h | ⟨b, o, hA, hj⟩
  · exact .inl h
  · by_cases hl : l = []
    · exact .inl hl
    · refine .inr ⟨b, o, hA, ?_, fun j u hu => ?_⟩
      · have h0 : 0 < l.length := List.length_pos_iff.2 hl
        exact hM.lt (hj 0 h0)
      · rw [byteE_all, List.getElem?_map] at hu
        obtain ⟨x, hx, rfl⟩ := Option.map_eq_some_iff.1 hu
        obtain ⟨hjl, e⟩ := List.getElem?_eq_some_iff.1 hx
        exact hM.ro _ _ _ (by rw [← e]; exact hj j hjl)
/-- The eight words. -/
def s8v (s : S8) : AV := .st [.v (W32 s.a), .v (W32 s.b), .v (W32 s.c), .v (W32 s.d), .v (W32 s.e), .v (W32 s.f), .v (W32 s.g), .v (W32 s.h)]
def s8T : Ty := .cn .sc (.cn .sc (.cn .sc (.cn .sc (.cn .sc (.cn .sc (.cn .sc (.cn .sc .nl)))))))
theorem s8v_inv {g : Gh} {s : S8} {u : Value} (h : RV g (s8v s) u) : u = .agg s.arr := by
  obtain ⟨T, cs, _, hr, rfl⟩ := h.st_inv
  unfold s8v at *
  cases hr with | cn h1 hr => cases h1; cases hr with | cn h1 hr => cases h1; cases hr with | cn h1 hr => cases h1; cases hr with | cn h1 hr => cases h1; cases hr with | cn h1 hr => cases h1; cases hr with | cn h1 hr => cases h1; cases hr with | cn h1 hr => cases h1; cases hr with | cn h1 hr => cases h1; cases hr; rfl
theorem s8v_rc (g : Gh) (s : S8) : RC g s8T (s8v s) s.arr.toList := by
  show RC g s8T (s8v s) ([_] ++ ([_] ++ ([_] ++ ([_] ++ ([_] ++ ([_] ++ ([_] ++ ([_] ++ []))))))))
  exact .cn (.v rfl) (.cn (.v rfl) (.cn (.v rfl) (.cn (.v rfl) (.cn (.v rfl) (.cn (.v rfl) (.cn (.v rfl) (.cn (.v rfl) .nl)))))))
end
theorem step_v (s : S8) (b : List UInt8) (hb : b.length = 64) : VC Try.prog 58 [s8v s, .ba b] [] (s8v (step s b)) := by
  refine VC.ofA ⟨_, Try.func58, by kernel_rfl, by kernel_rfl⟩ fun w N vs hM hl hv => ?_
  obtain ⟨u, v, rfl, h1, h2⟩ := two (args := []) hl hv
  have e1 := s8v_inv h1; have e2 := h2.ba_inv
  subst e1 e2
  refine (step_any s b hb w).mono ?_
  rintro e w' ⟨rfl, hw⟩
  exact ⟨_, rfl, hw, (show RV1 N (s8v (step s b)) _ from .inl ⟨s8T, _, rfl, s8v_rc N _, rfl⟩).rv⟩
theorem sumR_v (l : List UInt8) (hl : l.length ≤ 140737488355000) : VC Try.prog 92 [.bs l none] [] (.ba (sum l)) := by
  refine VC.ofA ⟨_, Try.func92, by kernel_rfl, by kernel_rfl⟩ fun w N vs hM hn hv => ?_
  obtain ⟨u, rfl, h1⟩ := one_ hn hv
  obtain ⟨A, c, rfl, hr⟩ := RC.bs_rd hM h1
  refine (sumR_any l A c w hr hl).mono ?_
  rintro e w' ⟨rfl, hw⟩
  exact ⟨_, rfl, hw, (show RV1 N (.ba (sum l)) _ from .inl ⟨.ba 32, _, rfl, .ba (sum_length l), rfl⟩).rv⟩
end Go.Proofs.Ytlagngkafllbiaa
