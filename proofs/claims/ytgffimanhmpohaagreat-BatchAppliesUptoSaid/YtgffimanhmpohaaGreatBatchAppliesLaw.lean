/- The statement BatchAppliesUptoSaid: for all arguments that are together of bulk at most 1048576, BatchApplies returns true, and the arguments read as they did. -/
import Derived.Test.YtgffimanhmpohaaGreatRows
import Derived.Test.YtgffimanhmpohaaGreatA1
import Derived.Test.YtgffimanhmpohaaGreatBatchAppliesAz
set_option linter.unusedSimpArgs false
set_option linter.unusedVariables false
namespace Go.Proofs.YtgffimanhmpohaaGreat.batchApplies
open Go Go.RowKit Go.ChangeShapes Go.ChangeAt
set_option maxRecDepth 100000 in
theorem contract (H : Type) (enc : TypeId × Value → H) (W : World) (base : Nat) (args : Array Value) (ds gs : List (DataW H)) (before : List MemPlace)
    (hval : ∀ (j : Nat) t v, Tryz.f4.params[j]? = some t → args[j]? = some v → Value.okWide Tryz.prog W .any base t v)
    (hW : DataW.Whole enc Tryz.prog Tryz.f4.params.toList Rows.batchAppliesSpec.vars false W args.toList ds gs before) (hk : Rows.uptoSmall H (ds ++ gs) = true) :
    Calls Tryz.prog 4 args W fun e W' => ∃ v, e = .returned v ∧ Rows.batchAppliesSpec.post enc Tryz.prog Tryz.f4 false true false false W args v W' := by
  obtain ⟨p, q, hA0, hV, _⟩ := id hW
  obtain ⟨rfl, rfl⟩ := trodVars_none hV
  rw [List.append_nil] at hk
  have hM : Rows.uptoBulkAll ds ≤ 1048576 := by simpa only [Rows.uptoSmall, decide_eq_true_eq] using hk
  have hA : DataW.TrodAll enc Tryz.prog W 0 (fun _ => true) true Tryz.f4.params.toList args.toList ds p := hA0
  refine (law_calls (M := 1048576) (d := 6) tab_ok (fn := Tryz.f4) (by decide +kernel) hA hval hM fun az h => batchApplies_az az h).mono fun e W' ⟨he, hb⟩ => ?_
  subst he
  refine ⟨_, rfl, post_true (bt := 4) facts.laid hW hb (by decide +kernel) rfl (by kernel_rfl) (by kernel_rfl) ?_⟩
  rw [Tryz.params4] at hA
  obtain ⟨v0, vs0, d0, ds0, p0, q0, _, rfl, _, _, r0⟩ := trodAll_cons hA
  obtain ⟨v1, vs1, d1, ds1, p1, q1, _, rfl, _, _, r1⟩ := trodAll_cons r0
  obtain ⟨v2, vs2, d2, ds2, p2, q2, _, rfl, _, _, r2⟩ := trodAll_cons r1
  obtain ⟨v3, vs3, d3, ds3, p3, q3, _, rfl, _, _, r3⟩ := trodAll_cons r2
  obtain ⟨_, rfl, _⟩ := trodAll_nil r3
  rfl
theorem small (H : Type) : Rows.uptoSmall H [.nil, .nil, .lit (.bool false), .lit (.int .i64 0)] = true := by
  have h : Rows.uptoBulkAll (H := H) [.nil, .nil, .lit (.bool false), .lit (.int .i64 0)] = 4 := by kernel_rfl
  unfold Rows.uptoSmall; rw [h]; decide
def inp : Input := ⟨#[], #[.slice none 0 0, .slice none 0 0, .bool false, .int .i64 0], []⟩
set_option maxRecDepth 100000 in
theorem w1 (os : Os) : (World.plainHolding Tryz.prog os inp).variablesB Tryz.prog = true := by kernel_rfl
set_option maxRecDepth 100000 in
theorem w2 (os : Os) : ((World.plainHolding Tryz.prog os inp).heap.toList.drop Tryz.prog.globals.size).take ((begin Tryz.prog (fun _ _ => 0) default).world.heap.size - Tryz.prog.globals.size) =
    (begin Tryz.prog (fun _ _ => 0) default).world.heap.toList.drop Tryz.prog.globals.size := by kernel_rfl
set_option maxRecDepth 100000 in
theorem w3 (os : Os) : Input.okWideB Tryz.prog (World.plainHolding Tryz.prog os inp) 4 ⟨#[], inp.args, []⟩ = true := by kernel_rfl
set_option maxRecDepth 100000 in
theorem w4 (H : Type) (enc : TypeId × Value → H) (os : Os) : DataW.whole enc Tryz.prog (World.plainHolding Tryz.prog os inp).memory Tryz.f4.params.toList (Rows.OpenSpec.upto Rows.batchAppliesSpec).vars false inp.args.toList 8 = some ([.nil, .nil, .lit (.bool false), .lit (.int .i64 0)], [], []) := by kernel_rfl
set_option maxRecDepth 100000 in
theorem w5 (H : Type) (enc : TypeId × Value → H) (os : Os) : (Rows.OpenSpec.upto Rows.batchAppliesSpec).bare.sizedB enc Tryz.prog Tryz.f4 false (World.plainHolding Tryz.prog os inp).memory inp.args 8 = true := by kernel_rfl
set_option maxRecDepth 100000 in
theorem wit (H : Type) (enc : TypeId × Value → H) (os : Os) : ∃ (w : World) (tape : Tape) (i : Input), w.os = os ∧ (w.forCall tape i).Shaped Tryz.prog ∧ i.vars = [] ∧ Input.okWide Tryz.prog (w.forCall tape i) .any w.heap.size 4 i ∧
      (Rows.OpenSpec.upto Rows.batchAppliesSpec).pre6 enc Tryz.prog Tryz.f4 [] false (w.forCall tape i).memory i.args ∧ ({ modest := false } : Assume).holds Tryz.prog (lone (Frame.enter Tryz.prog 4 i.args .normal) [] (w.forCall tape i)) :=
  OpenSpec.witness (enc := enc) (C := Tryz.checked) (s := Rows.OpenSpec.upto Rows.batchAppliesSpec) (k := Rows.uptoSmall) rfl false inp 8 (w1 os) (w2 os) (w3 os) (w4 H enc os) rfl (small H) (w5 H enc os)
set_option maxRecDepth 100000 in
theorem lifted (os : Os) (started : os.Started) (H : Type) (enc : TypeId × Value → H) (F : Stop.Interp) :
    ReturnsInHanded {} Tryz.checked os 4 .any ((Rows.OpenSpec.upto Rows.batchAppliesSpec).pre6 enc Tryz.prog Tryz.f4 Rows.batchAppliesUptoRow.domain false) (((Rows.OpenSpec.upto Rows.batchAppliesSpec).at F).post enc Tryz.prog Tryz.f4 false true false false) := by
  refine returnsInHanded_of_cond (C := Tryz.checked) (s := Rows.OpenSpec.upto Rows.batchAppliesSpec) (k := Rows.uptoSmall) rfl facts.own started (by kernel_rfl) Tryz.func4 (wit H enc os) ?_
  intro W base args ds gs before hval hW _ hk _
  exact contract H enc W base args ds gs before hval hW hk
set_option maxRecDepth 100000 in
theorem g1 : Tryz.prog.inPlace 4 = Rows.batchAppliesUptoRow.inPlace := by kernel_rfl
set_option maxRecDepth 100000 in
theorem g2 : Tryz.prog.unfollowed 4 = Rows.batchAppliesUptoRow.unfollowed := by kernel_rfl
set_option maxRecDepth 100000 in
theorem g3 : Tryz.prog.recurses 4 = Rows.batchAppliesUptoRow.recurses := by kernel_rfl
set_option maxRecDepth 100000 in
theorem g4 : Tryz.prog.varsNamed 4 = Rows.batchAppliesUptoRow.named := by kernel_rfl
set_option maxRecDepth 100000 in
theorem g5 : Tryz.prog.plainKeys = Rows.batchAppliesUptoRow.plainKeys := by kernel_rfl
set_option maxRecDepth 100000 in
theorem closed : joinedFacts Tryz.prog 4 Tryz.f4 (Rows.OpenSpec.upto Rows.batchAppliesSpec).bare Rows.batchAppliesUptoRow = true := by
  unfold joinedFacts
  rw [facts.laid, facts.maps, facts.heard, facts.enter, g5, facts.lifts, facts.made, g1, g2, g3, g4]
  kernel_rfl
set_option maxRecDepth 100000 in
theorem over : Rows.batchAppliesUptoRow.holds Tryz.pinned (Rows.OpenSpec.upto Rows.batchAppliesSpec) :=
  OpenClaim.holds_of_cond 4 Tryz.f4 rfl rfl rfl rfl rfl rfl rfl ⟨rfl, rfl, rfl, rfl, rfl⟩ rfl rfl rfl rfl rfl (by kernel_rfl) Tryz.func4 closed
    (of_decide_eq_true (by kernel_rfl)) (by unfold Func.isWrapper; first | (rw [if_pos (by decide +kernel)]; kernel_rfl) | (rw [if_neg (by decide +kernel)]; exact ⟨rfl, rfl⟩))
    (fun os started H enc _ F => lifted os started H enc F)
theorem proved : Rows.BatchAppliesUptoSaid :=
  over
end Go.Proofs.YtgffimanhmpohaaGreat.batchApplies
