/- The statement BatchOrdersUptoSaid: for all arguments that are together of bulk at most 1048576, BatchOrders returns true, and the arguments read as they did. -/
import Derived.Test.YtgffimanhmpohaaRows
import Derived.Test.YtgffimanhmpohaaA1
import Derived.Test.YtgffimanhmpohaaBatchOrdersAz
set_option linter.unusedSimpArgs false
set_option linter.unusedVariables false
namespace Go.Proofs.Ytgffimanhmpohaa.batchOrders
open Go Go.RowKit Go.ChangeShapes Go.ChangeAt
set_option maxRecDepth 100000 in
theorem contract (H : Type) (enc : TypeId × Value → H) (W : World) (base : Nat) (args : Array Value) (ds gs : List (DataW H)) (before : List MemPlace)
    (hval : ∀ (j : Nat) t v, Try.f3.params[j]? = some t → args[j]? = some v → Value.okWide Try.prog W .any base t v)
    (hW : DataW.Whole enc Try.prog Try.f3.params.toList Rows.batchOrdersSpec.vars false W args.toList ds gs before) (hk : Rows.uptoSmall H (ds ++ gs) = true) :
    Calls Try.prog 3 args W fun e W' => ∃ v, e = .returned v ∧ Rows.batchOrdersSpec.post enc Try.prog Try.f3 false true false false W args v W' := by
  obtain ⟨p, q, hA0, hV, _⟩ := id hW
  obtain ⟨rfl, rfl⟩ := trodVars_none hV
  rw [List.append_nil] at hk
  have hM : Rows.uptoBulkAll ds ≤ 1048576 := by simpa only [Rows.uptoSmall, decide_eq_true_eq] using hk
  have hA : DataW.TrodAll enc Try.prog W 0 (fun _ => true) true Try.f3.params.toList args.toList ds p := hA0
  refine (law_calls (M := 1048576) (d := 6) tab_ok (fn := Try.f3) (by decide +kernel) hA hval hM fun az h => batchOrders_az az h).mono fun e W' ⟨he, hb⟩ => ?_
  subst he
  refine ⟨_, rfl, post_true (bt := 4) facts.laid hW hb (by decide +kernel) rfl (by kernel_rfl) (by kernel_rfl) ?_⟩
  rw [Try.params3] at hA
  obtain ⟨v0, vs0, d0, ds0, p0, q0, _, rfl, _, _, r0⟩ := trodAll_cons hA
  obtain ⟨v1, vs1, d1, ds1, p1, q1, _, rfl, _, _, r1⟩ := trodAll_cons r0
  obtain ⟨_, rfl, _⟩ := trodAll_nil r1
  rfl
theorem small (H : Type) : Rows.uptoSmall H [.nil, .nil] = true := by
  have h : Rows.uptoBulkAll (H := H) [.nil, .nil] = 2 := by kernel_rfl
  unfold Rows.uptoSmall; rw [h]; decide
def inp : Input := ⟨#[], #[.slice none 0 0, .slice none 0 0], []⟩
set_option maxRecDepth 100000 in
theorem w1 (os : Os) : (World.plainHolding Try.prog os inp).variablesB Try.prog = true := by kernel_rfl
set_option maxRecDepth 100000 in
theorem w2 (os : Os) : ((World.plainHolding Try.prog os inp).heap.toList.drop Try.prog.globals.size).take ((begin Try.prog (fun _ _ => 0) default).world.heap.size - Try.prog.globals.size) =
    (begin Try.prog (fun _ _ => 0) default).world.heap.toList.drop Try.prog.globals.size := by kernel_rfl
set_option maxRecDepth 100000 in
theorem w3 (os : Os) : Input.okWideB Try.prog (World.plainHolding Try.prog os inp) 3 ⟨#[], inp.args, []⟩ = true := by kernel_rfl
set_option maxRecDepth 100000 in
theorem w4 (H : Type) (enc : TypeId × Value → H) (os : Os) : DataW.whole enc Try.prog (World.plainHolding Try.prog os inp).memory Try.f3.params.toList (Rows.OpenSpec.upto Rows.batchOrdersSpec).vars false inp.args.toList 8 = some ([.nil, .nil], [], []) := by kernel_rfl
set_option maxRecDepth 100000 in
theorem w5 (H : Type) (enc : TypeId × Value → H) (os : Os) : (Rows.OpenSpec.upto Rows.batchOrdersSpec).bare.sizedB enc Try.prog Try.f3 false (World.plainHolding Try.prog os inp).memory inp.args 8 = true := by kernel_rfl
set_option maxRecDepth 100000 in
theorem wit (H : Type) (enc : TypeId × Value → H) (os : Os) : ∃ (w : World) (tape : Tape) (i : Input), w.os = os ∧ (w.forCall tape i).Shaped Try.prog ∧ i.vars = [] ∧ Input.okWide Try.prog (w.forCall tape i) .any w.heap.size 3 i ∧
      (Rows.OpenSpec.upto Rows.batchOrdersSpec).pre6 enc Try.prog Try.f3 [] false (w.forCall tape i).memory i.args ∧ ({ modest := false } : Assume).holds Try.prog (lone (Frame.enter Try.prog 3 i.args .normal) [] (w.forCall tape i)) :=
  OpenSpec.witness (enc := enc) (C := Try.checked) (s := Rows.OpenSpec.upto Rows.batchOrdersSpec) (k := Rows.uptoSmall) rfl false inp 8 (w1 os) (w2 os) (w3 os) (w4 H enc os) rfl (small H) (w5 H enc os)
set_option maxRecDepth 100000 in
theorem lifted (os : Os) (started : os.Started) (H : Type) (enc : TypeId × Value → H) (F : Stop.Interp) :
    ReturnsInHanded {} Try.checked os 3 .any ((Rows.OpenSpec.upto Rows.batchOrdersSpec).pre6 enc Try.prog Try.f3 Rows.batchOrdersUptoRow.domain false) (((Rows.OpenSpec.upto Rows.batchOrdersSpec).at F).post enc Try.prog Try.f3 false true false false) := by
  refine returnsInHanded_of_cond (C := Try.checked) (s := Rows.OpenSpec.upto Rows.batchOrdersSpec) (k := Rows.uptoSmall) rfl facts.own started (by kernel_rfl) Try.func3 (wit H enc os) ?_
  intro W base args ds gs before hval hW _ hk _
  exact contract H enc W base args ds gs before hval hW hk
set_option maxRecDepth 100000 in
theorem g1 : Try.prog.inPlace 3 = Rows.batchOrdersUptoRow.inPlace := by kernel_rfl
set_option maxRecDepth 100000 in
theorem g2 : Try.prog.unfollowed 3 = Rows.batchOrdersUptoRow.unfollowed := by kernel_rfl
set_option maxRecDepth 100000 in
theorem g3 : Try.prog.recurses 3 = Rows.batchOrdersUptoRow.recurses := by kernel_rfl
set_option maxRecDepth 100000 in
theorem g4 : Try.prog.varsNamed 3 = Rows.batchOrdersUptoRow.named := by kernel_rfl
set_option maxRecDepth 100000 in
theorem g5 : Try.prog.plainKeys = Rows.batchOrdersUptoRow.plainKeys := by kernel_rfl
set_option maxRecDepth 100000 in
theorem closed : joinedFacts Try.prog 3 Try.f3 (Rows.OpenSpec.upto Rows.batchOrdersSpec).bare Rows.batchOrdersUptoRow = true := by
  unfold joinedFacts
  rw [facts.laid, facts.maps, facts.heard, facts.enter, g5, facts.lifts, facts.made, g1, g2, g3, g4]
  kernel_rfl
set_option maxRecDepth 100000 in
theorem over : Rows.batchOrdersUptoRow.holds Try.pinned (Rows.OpenSpec.upto Rows.batchOrdersSpec) :=
  OpenClaim.holds_of_cond 3 Try.f3 rfl rfl rfl rfl rfl rfl rfl ⟨rfl, rfl, rfl, rfl, rfl⟩ rfl rfl rfl rfl rfl (by kernel_rfl) Try.func3 closed
    (of_decide_eq_true (by kernel_rfl)) (by unfold Func.isWrapper; first | (rw [if_pos (by decide +kernel)]; kernel_rfl) | (rw [if_neg (by decide +kernel)]; exact ⟨rfl, rfl⟩))
    (fun os started H enc _ F => lifted os started H enc F)
theorem proved : Rows.BatchOrdersUptoSaid :=
  over
end Go.Proofs.Ytgffimanhmpohaa.batchOrders
