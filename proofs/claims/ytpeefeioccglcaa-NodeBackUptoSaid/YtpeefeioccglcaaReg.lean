/- A region that draws its order, walked once in the order of its text: operations that only read (at worlds of a class S where a loud operation may come beside them), loud operations one behind the other. -/
import Derived.Orders
import Derived.Deep.Quiet
import Derived.Deep.Draws
import Derived.Tactics
import Derived.Tactics2
set_option linter.unusedSimpArgs false
set_option linter.unusedVariables false
namespace Go.Proofs.Ytpeefeioccglcaa
open Go

/-- No way out but the normal one. -/
def NoQ : Exit → Act → World → Prop := fun _ _ _ => False

section
variable {P : Program} {ops : Array Oper} {Q : Exit → Act → World → Prop} {S : World → Prop} {L A : List Nat}

/-- Operation o, in the frame a and the world w, yields v and leaves the world. -/
def Qr (P : Program) (o : Oper) (a : Act) (w : World) (v : Value) : Prop := o.quietAt P a (fun w' => w' = w) w v
/-- .. by itself, without a call. -/
def Vr (P : Program) (o : Oper) (a : Act) (w : World) (v : Value) : Prop := (execOp a.eval o).run P w = .ok (.value v) w

def tOp (P : Program) (ops : Array Oper) (S : World → Prop) (L A : List Nat) (i : Nat) (K : Act → World → Prop) (a : Act) (w : World) : Prop :=
  match ops[i]? with
  | none => K a w
  | some o => if Region.wanted o (yielded ops a.tmps) then
      (if L.contains i then o.wp P a w (fun a' w' => S w' ∧ K a' w') NoQ
       else ∃ v, Qr P o a w v ∧ (A.contains i = true → ∀ w', S w' → Vr P o a w' v) ∧ K (a.put o.dst v) w)
    else K (a.put o.dst undef) w

def tAny (P : Program) (ops : Array Oper) (Q : Exit → Act → World → Prop) (S : World → Prop) (L A : List Nat) : Nat → Array Bool → Act → World → Prop
  | 0, listed, a, w => Region.ready .any ops listed = [] ∧ Q .normal a w
  | fuel + 1, listed, a, w => (Region.ready .any ops listed = [] → Q .normal a w) ∧
      ∀ i ∈ Region.ready .any ops listed, tOp P ops S L A i (tAny P ops Q S L A fuel (listed.setIfInBounds i true)) a w

/-- The walk in the order of the text. -/
def wpT (P : Program) (ops : Array Oper) (Q : Exit → Act → World → Prop) (S : World → Prop) (L A : List Nat) : List Oper → Nat → Act → World → Prop
  | [], _, a, w => Q .normal a w
  | o :: l, k, a, w => if Region.wanted o (yielded ops a.tmps) then
      (if L.contains k then o.wp P a w (fun a' w' => S w' ∧ wpT P ops Q S L A l (k + 1) a' w') NoQ
       else ∃ v, Qr P o a w v ∧ (A.contains k = true → ∀ w', S w' → Vr P o a w' v) ∧ wpT P ops Q S L A l (k + 1) (a.put o.dst v) w)
    else wpT P ops Q S L A l (k + 1) (a.put o.dst undef) w

theorem wp_noQ {o : Oper} {a : Act} {w : World} {K : Act → World → Prop} (h : o.wp P a w K NoQ) : o.wp P a w K Q := by
  unfold Oper.wp at *
  generalize (execOp a.eval o).run P w = r at *
  cases r with
  | ok n w' =>
    cases n <;> simp only [Oper.upon] at h ⊢ <;> try exact h
    case enter f args =>
      refine Calls.mono h fun e w'' he => ?_
      cases e with
      | returned u => exact he
      | panicked c => exact he.elim
      | outgrown => obtain ⟨_, _, hf⟩ := he; exact hf.elim
  | halt x w' =>
    cases x <;> simp only [Oper.upon] at h ⊢
    case panic u => exact h.elim

/-- What an operation leaves: its own temporary, or its deferred call, beside what was there. -/
def Left (a : Act) (dst : Option Tmp) (a' : Act) : Prop := ∃ u, a' = a.put dst u ∨ ∃ d, a' = ({ a with defers := d :: a.defers } : Act).put dst u

theorem wp_left {o : Oper} {a : Act} {w : World} {K : Act → World → Prop} (h : o.wp P a w K NoQ) : o.wp P a w (fun a' w' => Left a o.dst a' ∧ K a' w') NoQ := by
  unfold Oper.wp at *
  generalize (execOp a.eval o).run P w = r at *
  cases r with
  | ok n w' =>
    cases n <;> simp only [Oper.upon] at h ⊢
    case value u => exact ⟨⟨u, .inl rfl⟩, h⟩
    case skip => exact ⟨⟨_, .inl rfl⟩, h⟩
    case defer d => exact ⟨⟨_, .inr ⟨d, rfl⟩⟩, h⟩
    case enter f args =>
      refine Calls.mono h fun e w'' he => ?_
      cases e with
      | returned u => exact ⟨⟨u, .inl rfl⟩, he⟩
      | panicked c => exact he
      | outgrown => exact he
    case row row args => exact Rows.mono h fun u w'' he => ⟨⟨u, .inl rfl⟩, he⟩
  | halt x w' =>
    cases x <;> simp only [Oper.upon] at h ⊢
    case panic u => exact h

theorem wp_some {o : Oper} {a : Act} {w : World} {K : Act → World → Prop} (h : o.wp P a w K NoQ) : ∃ a' w', K a' w' := by
  unfold Oper.wp at h
  generalize (execOp a.eval o).run P w = r at *
  cases r with
  | ok n w' =>
    cases n <;> simp only [Oper.upon] at h
    case value u => exact ⟨_, _, h⟩
    case skip => exact ⟨_, _, h⟩
    case defer d => exact ⟨_, _, h⟩
    case enter f args =>
      obtain ⟨e, w'', fr, he, _⟩ := h []
      cases e with
      | returned u => exact ⟨_, _, he⟩
      | panicked c => exact he.elim
      | outgrown => obtain ⟨_, _, hf⟩ := he; exact hf.elim
    case row row args =>
      obtain ⟨u, w'', he, _⟩ := h default []
      exact ⟨_, _, he⟩
  | halt x w' =>
    cases x <;> simp only [Oper.upon] at h
    case panic u => exact h.elim

theorem Oper.wp_mono' {o : Oper} {a : Act} {w : World} {K K' : Act → World → Prop} (h : ∀ a w, K a w → K' a w) (hh : o.wp P a w K Q) : o.wp P a w K' Q := Go.Oper.wp_mono h hh

/-- The frame: a temporary that the operation does not look at, set before. -/
theorem wp_frame {oi oj : Oper} {a : Act} {w : World} {v : Value} {K : Act → World → Prop} (hap : oi.apart ops oj = true) (hsj : ∀ cs b, oj.op ≠ .select cs b)
    (h : oj.wp P (a.put oi.dst v) w K NoQ) : oj.wp P a w (fun a' w' => Left a oj.dst a' ∧ K (a'.put oi.dst v) w') NoQ := by
  obtain ⟨h1, h2, h3⟩ := Oper.apart_spec hap
  unfold Oper.wp at *
  rw [execOp_put oj hsj a oi.dst v h1] at h
  generalize (execOp a.eval oj).run P w = r at *
  cases r with
  | ok n w' =>
    cases n <;> simp only [Oper.upon] at h ⊢
    case value u => exact ⟨⟨u, .inl rfl⟩, by rw [← Act.put_comm a v u h2]; exact h⟩
    case skip => exact ⟨⟨_, .inl rfl⟩, by rw [← Act.put_comm a v undef h2]; exact h⟩
    case defer d =>
      refine ⟨⟨_, .inr ⟨d, rfl⟩⟩, ?_⟩
      rw [← Act.put_comm _ v undef h2, ← Act.put_defers]
      exact h
    case enter f args =>
      refine Calls.mono h fun e w'' he => ?_
      cases e with
      | returned u => exact ⟨⟨u, .inl rfl⟩, by rw [← Act.put_comm a v u h2]; exact he⟩
      | panicked c => exact he
      | outgrown => exact he
    case row row args => exact Rows.mono h fun u w'' he => ⟨⟨u, .inl rfl⟩, by rw [← Act.put_comm a v u h2]; exact he⟩
  | halt x w' =>
    cases x <;> simp only [Oper.upon] at h ⊢
    case panic u => exact h

theorem wp_unframe {oi oj : Oper} {a : Act} {w : World} {v : Value} {K : Act → World → Prop} (hap : oi.apart ops oj = true) (hsj : ∀ cs b, oj.op ≠ .select cs b)
    (h : oj.wp P a w (fun a' w' => K (a'.put oi.dst v) w') NoQ) : oj.wp P (a.put oi.dst v) w K NoQ := by
  obtain ⟨h1, h2, h3⟩ := Oper.apart_spec hap
  unfold Oper.wp at *
  rw [execOp_put oj hsj a oi.dst v h1]
  generalize (execOp a.eval oj).run P w = r at *
  cases r with
  | ok n w' =>
    cases n <;> simp only [Oper.upon] at h ⊢
    case value u => rw [Act.put_comm a v u h2]; exact h
    case skip => rw [Act.put_comm a v undef h2]; exact h
    case defer d =>
      rw [Act.put_defers, Act.put_comm _ v undef h2]
      exact h
    case enter f args =>
      refine Calls.mono h fun e w'' he => ?_
      cases e with
      | returned u => show K _ _; rw [Act.put_comm a v u h2]; exact he
      | panicked c => exact he
      | outgrown => exact he
    case row row args => exact Rows.mono h fun u w'' he => by rw [Act.put_comm a v u h2]; exact he
  | halt x w' =>
    cases x <;> simp only [Oper.upon] at h ⊢
    case panic u => exact h

theorem tOp_mono {i : Nat} {K K' : Act → World → Prop} {a : Act} {w : World} (hS : S w) (h : ∀ a w, S w → K a w → K' a w) (hh : tOp P ops S L A i K a w) : tOp P ops S L A i K' a w := by
  unfold tOp at *
  split
  · rename_i ho; rw [ho] at hh; exact h _ _ hS hh
  · rename_i o ho
    rw [ho] at hh
    dsimp only at hh
    split
    · rename_i hw
      rw [if_pos hw] at hh
      split
      · rename_i hl; rw [if_pos hl] at hh; exact Go.Oper.wp_mono (fun a w h1 => ⟨h1.1, h _ _ h1.1 h1.2⟩) hh
      · rename_i hl; rw [if_neg hl] at hh
        obtain ⟨v, h1, h2, h3⟩ := hh
        exact ⟨v, h1, h2, h _ _ hS h3⟩
    · rename_i hw; rw [if_neg hw] at hh; exact h _ _ hS hh

theorem tOp_some {i : Nat} {K : Act → World → Prop} {a : Act} {w : World} (hh : tOp P ops S L A i K a w) : ∃ a' w', K a' w' := by
  unfold tOp at hh
  split at hh
  · exact ⟨_, _, hh⟩
  · split at hh
    · split at hh
      · obtain ⟨a', w', h⟩ := wp_some hh; exact ⟨a', w', h.2⟩
      · obtain ⟨v, _, _, h⟩ := hh; exact ⟨_, _, h⟩
    · exact ⟨_, _, hh⟩

theorem wpOp_of_tOp {i : Nat} {K : Act → World → Prop} {a : Act} {w : World} (hh : tOp P ops S L A i K a w) : wpOp P ops Q i K a w := by
  unfold tOp at hh
  unfold wpOp
  split
  · rename_i ho; rw [ho] at hh; exact hh
  · rename_i o ho
    rw [ho] at hh
    dsimp only at hh
    split
    · rename_i hw
      rw [if_pos hw] at hh
      refine .inl ?_
      split at hh
      · exact wp_noQ (Go.Oper.wp_mono (fun a w h1 => h1.2) hh)
      · obtain ⟨v, h1, _, h3⟩ := hh
        unfold Qr Oper.quietAt at h1
        unfold Oper.wp
        generalize (execOp a.eval o).run P w = r at *
        cases r with
        | ok n w' =>
          cases n <;> simp only [Oper.quietUpon] at h1 <;> simp only [Oper.upon]
          case value u => obtain ⟨rfl, rfl⟩ := h1; exact h3
          case skip => obtain ⟨rfl, rfl⟩ := h1; exact h3
          case enter f args =>
            obtain ⟨rfl, hc⟩ := h1
            exact hc.mono fun e w'' ⟨he, hw''⟩ => by subst he; subst hw''; exact h3
        | halt x w' => simp only [Oper.quietUpon] at h1
    · rename_i hw; rw [if_neg hw] at hh; exact hh

theorem wpAny_of_tAny : ∀ (fuel : Nat) (listed : Array Bool) (a : Act) (w : World), tAny P ops Q S L A fuel listed a w → wpAny P .any ops Q fuel listed a w
  | 0, _, _, _, h => h
  | fuel + 1, _, _, _, h => ⟨h.1, fun i hi => wpOp_mono (fun a w h => wpAny_of_tAny fuel _ a w h) (wpOp_of_tOp (h.2 i hi))⟩

theorem Left.exec {a a' : Act} {oi oj : Oper} (hl : Left a oi.dst a') (h1 : ∀ d, oi.dst = some d → d ∉ oj.looksAt ops) (hsj : ∀ cs b, oj.op ≠ .select cs b) :
    execOp a'.eval oj = execOp a.eval oj ∧ Region.wanted oj (yielded ops a'.tmps) = Region.wanted oj (yielded ops a.tmps) := by
  obtain ⟨u, rfl | ⟨d, rfl⟩⟩ := hl
  · exact ⟨execOp_put oj hsj a oi.dst u h1, wanted_put oj a oi.dst u h1⟩
  · exact ⟨(execOp_put oj hsj _ oi.dst u h1).trans rfl, (wanted_put oj _ oi.dst u h1).trans rfl⟩

theorem Qr.same {o : Oper} {a a' : Act} {w : World} {v : Value} (h : Qr P o a w v) (he : execOp a'.eval o = execOp a.eval o) : Qr P o a' w v := by
  unfold Qr Oper.quietAt at *; rw [he]; exact h
theorem Vr.same {o : Oper} {a a' : Act} {w : World} {v : Value} (h : Vr P o a w v) (he : execOp a'.eval o = execOp a.eval o) : Vr P o a' w v := by
  unfold Vr at *; rw [he]; exact h
theorem Vr.qr {o : Oper} {a : Act} {w : World} {v : Value} (h : Vr P o a w v) : Qr P o a w v := by
  unfold Vr at h; unfold Qr Oper.quietAt; rw [h]; exact ⟨rfl, rfl⟩
theorem Vr.uniq {o : Oper} {a : Act} {w : World} {v v' : Value} (h : Vr P o a w v) (h' : Vr P o a w v') : v = v' := by
  unfold Vr at h h'; rw [h] at h'; injection h' with h'; injection h'

/-- Two operations of which neither waits for the other change places. -/
theorem tOp_swap {i j : Nat} {oi oj : Oper} (hi : ops[i]? = some oi) (hj : ops[j]? = some oj) (hap : oi.apart ops oj = true) (hap' : oj.apart ops oi = true)
    (hsi : ∀ cs b, oi.op ≠ .select cs b) (hsj : ∀ cs b, oj.op ≠ .select cs b)
    (hLL : ¬ (L.contains i = true ∧ L.contains j = true)) (hA1 : L.contains j = true → A.contains i = true) (hA2 : L.contains i = true → A.contains j = true)
    {K : Act → World → Prop} {a : Act} {w : World} (hS : S w) (h : tOp P ops S L A i (tOp P ops S L A j K) a w) : tOp P ops S L A j (fun a' w' => S w' ∧ tOp P ops S L A i K a' w') a w := by
  obtain ⟨h1, h2, h3⟩ := Oper.apart_spec hap
  unfold tOp at h ⊢
  simp only [hi, hj] at h ⊢
  by_cases hli : Region.wanted oi (yielded ops a.tmps) = true ∧ L.contains i = true
  · -- i is loud
    obtain ⟨hwi, hl⟩ := hli
    rw [if_pos hwi, if_pos hl] at h
    have hlj : ¬ L.contains j = true := fun hh => hLL ⟨hl, hh⟩
    have hAj := hA2 hl
    have hleft := wp_left h
    by_cases hwj : Region.wanted oj (yielded ops a.tmps) = true
    · rw [if_pos hwj, if_neg hlj]
      obtain ⟨a1, w1, hl1, hS1, ht1⟩ := wp_some hleft
      obtain ⟨e1, e2⟩ := hl1.exec h1 hsj
      rw [e2, if_pos hwj, if_neg hlj] at ht1
      obtain ⟨u, _, hu2, _⟩ := ht1
      have hV : ∀ w', S w' → Vr P oj a w' u := fun w' hw' => (hu2 hAj w' hw').same e1.symm
      refine ⟨u, (hV w hS).qr, fun _ => hV, hS, ?_⟩
      rw [wanted_put oi a oj.dst u h3, if_pos hwi, if_pos hl]
      refine wp_unframe hap' hsi (Go.Oper.wp_mono ?_ hleft)
      rintro a2 w2 ⟨hl2, hS2, ht2⟩
      obtain ⟨e3, e4⟩ := hl2.exec h1 hsj
      rw [e4, if_pos hwj, if_neg hlj] at ht2
      obtain ⟨u', _, hu2', hK⟩ := ht2
      have : u' = u := (hu2' hAj w2 hS2).uniq ((hV w2 hS2).same e3)
      subst this
      exact ⟨hS2, hK⟩
    · rw [if_neg hwj]
      refine ⟨hS, ?_⟩
      rw [wanted_put oi a oj.dst undef h3, if_pos hwi, if_pos hl]
      refine wp_unframe hap' hsi (Go.Oper.wp_mono ?_ hleft)
      rintro a2 w2 ⟨hl2, hS2, ht2⟩
      obtain ⟨e3, e4⟩ := hl2.exec h1 hsj
      rw [e4, if_neg hwj] at ht2
      exact ⟨hS2, ht2⟩
  · -- i is quiet, or passed over: it leaves some v
    obtain ⟨v, hv, hr⟩ : ∃ v, ((Region.wanted oi (yielded ops a.tmps) = true ∧ ¬ L.contains i = true ∧ Qr P oi a w v ∧ (A.contains i = true → ∀ w', S w' → Vr P oi a w' v)) ∨
        (¬ Region.wanted oi (yielded ops a.tmps) = true ∧ v = undef)) ∧
        (if Region.wanted oj (yielded ops (a.put oi.dst v).tmps) = true then
          (if L.contains j = true then oj.wp P (a.put oi.dst v) w (fun a' w' => S w' ∧ K a' w') NoQ
           else ∃ u, Qr P oj (a.put oi.dst v) w u ∧ (A.contains j = true → ∀ w', S w' → Vr P oj (a.put oi.dst v) w' u) ∧ K ((a.put oi.dst v).put oj.dst u) w)
         else K ((a.put oi.dst v).put oj.dst undef) w) := by
      by_cases hwi : Region.wanted oi (yielded ops a.tmps) = true
      · have hl : ¬ L.contains i = true := fun hh => hli ⟨hwi, hh⟩
        rw [if_pos hwi, if_neg hl] at h
        obtain ⟨v, g1, g2, g3⟩ := h
        exact ⟨v, .inl ⟨hwi, hl, g1, g2⟩, g3⟩
      · rw [if_neg hwi] at h
        exact ⟨undef, .inr ⟨hwi, rfl⟩, h⟩
    have fin : ∀ (a' : Act) (w' : World), Left a oj.dst a' → (w' = w ∨ (S w' ∧ A.contains i = true)) → K (a'.put oi.dst v) w' →
        (if Region.wanted oi (yielded ops a'.tmps) = true then
          (if L.contains i = true then oi.wp P a' w' (fun a' w' => S w' ∧ K a' w') NoQ
           else ∃ v, Qr P oi a' w' v ∧ (A.contains i = true → ∀ w', S w' → Vr P oi a' w' v) ∧ K (a'.put oi.dst v) w')
         else K (a'.put oi.dst undef) w') := by
      intro a' w' hl' hw' hK
      obtain ⟨e1, e2⟩ := hl'.exec h3 hsi
      rw [e2]
      rcases hv with ⟨hwi, hl, g1, g2⟩ | ⟨hwi, rfl⟩
      · rw [if_pos hwi, if_neg hl]
        refine ⟨v, ?_, fun hh w2 hw2 => (g2 hh w2 hw2).same e1, hK⟩
        rcases hw' with rfl | ⟨hS', hA'⟩
        · exact g1.same e1
        · exact ((g2 hA' w' hS').same e1).qr
      · rw [if_neg hwi]; exact hK
    rw [wanted_put oj a oi.dst v h1] at hr
    by_cases hwj : Region.wanted oj (yielded ops a.tmps) = true
    · rw [if_pos hwj] at hr ⊢
      by_cases hlj : L.contains j = true
      · rw [if_pos hlj] at hr ⊢
        refine Go.Oper.wp_mono ?_ (wp_frame hap hsj hr)
        rintro a' w' ⟨hl', hS', hK⟩
        exact ⟨hS', hS', fin a' w' hl' (.inr ⟨hS', hA1 hlj⟩) hK⟩
      · rw [if_neg hlj] at hr ⊢
        obtain ⟨u, g1, g2, g3⟩ := hr
        have e := execOp_put oj hsj a oi.dst v h1
        refine ⟨u, g1.same e.symm, fun hh w2 hw2 => (g2 hh w2 hw2).same e.symm, hS, fin _ w ⟨u, .inl rfl⟩ (.inl rfl) ?_⟩
        rw [← Act.put_comm a v u h2]; exact g3
    · rw [if_neg hwj] at hr ⊢
      refine ⟨hS, fin _ w ⟨undef, .inl rfl⟩ (.inl rfl) ?_⟩
      rw [← Act.put_comm a v undef h2]; exact hr

/-! The look at the region's edges. -/
def edgeMask (pre : Array Nat) (o : Oper) : Nat := o.after.foldl (fun s e => if Region.binds .any e then s ||| 2 ^ e.on ||| pre.getD e.on 0 else s) 0
def chk (ops : Array Oper) (pre : Array Nat) (L A : List Nat) : Bool :=
  Region.noSelect ops && (List.range ops.size).all fun j => match ops[j]? with
    | none => false
    | some oj => (oj.after.all fun e => !Region.binds .any e || decide (e.on < j)) && pre.getD j 0 == edgeMask pre oj &&
      (List.range j).all fun i => (pre.getD j 0).testBit i || match ops[i]? with
        | none => false
        | some oi => oi.apart ops oj && oj.apart ops oi && !(L.contains i && L.contains j) && (!L.contains j || A.contains i) && (!L.contains i || A.contains j)

structure Fine (ops : Array Oper) (pre : Array Nat) (L A : List Nat) : Prop where
  sel : ∀ (j : Nat) (o : Oper) cs b, ops[j]? = some o → o.op ≠ .select cs b
  edge : ∀ (j : Nat) (o : Oper), ops[j]? = some o → ∀ e ∈ o.after, Region.binds .any e = true → e.on < j
  mask : ∀ (j : Nat) (o : Oper), ops[j]? = some o → pre.getD j 0 = edgeMask pre o
  pair : ∀ (i j : Nat) (oi oj : Oper), ops[i]? = some oi → ops[j]? = some oj → i < j → (pre.getD j 0).testBit i = false →
    oi.apart ops oj = true ∧ oj.apart ops oi = true ∧ ¬ (L.contains i = true ∧ L.contains j = true) ∧ (L.contains j = true → A.contains i = true) ∧ (L.contains i = true → A.contains j = true)

theorem fine_of_chk {pre : Array Nat} (h : chk ops pre L A = true) : Fine ops pre L A := by
  simp only [chk, Bool.and_eq_true, List.all_eq_true, List.mem_range] at h
  obtain ⟨hs, h⟩ := h
  have at_ : ∀ (j : Nat) (o : Oper), ops[j]? = some o → _ := fun j o hj => (by
    have := h j (Array.getElem?_eq_some_iff.1 hj).1
    rw [hj] at this
    simpa only [Bool.and_eq_true, beq_iff_eq, List.all_eq_true, List.mem_range, Array.all_eq_true_iff_forall_mem] using this :
      ((∀ e ∈ o.after, (!Region.binds .any e || decide (e.on < j)) = true) ∧ pre.getD j 0 = edgeMask pre o) ∧ ∀ i < j, ((pre.getD j 0).testBit i || match ops[i]? with
        | none => false
        | some oi => oi.apart ops o && o.apart ops oi && !(L.contains i && L.contains j) && (!L.contains j || A.contains i) && (!L.contains i || A.contains j)) = true)
  refine ⟨fun j o cs b hj => Region.noSelect_spec hs j o cs b hj, fun j o hj e he hb => ?_, fun j o hj => (at_ j o hj).1.2, fun i j oi oj hi hj hij ht => ?_⟩
  · have := (at_ j o hj).1.1 e he
    simpa [hb] using this
  · have := (at_ j oj hj).2 i hij
    rw [ht, hi] at this
    simp only [Bool.false_or, Bool.and_eq_true, Bool.not_eq_true', Bool.and_eq_false_iff, Bool.or_eq_true] at this
    obtain ⟨⟨⟨⟨g1, g2⟩, g3⟩, g4⟩, g5⟩ := this
    refine ⟨g1, g2, ?_, ?_, ?_⟩
    · rintro ⟨x, y⟩; rcases g3 with g | g
      · rw [x] at g; cases g
      · rw [y] at g; cases g
    · intro x; rcases g4 with g | g
      · rw [x] at g; cases g
      · exact g
    · intro x; rcases g5 with g | g
      · rw [x] at g; cases g
      · exact g

def Down (ops : Array Oper) (listed : Array Bool) : Prop := ∀ (j : Nat) (o : Oper), ops[j]? = some o → listed.getD j false = true → ∀ e ∈ o.after, Region.binds .any e = true → listed.getD e.on false = true

theorem foldl_mask (pre : Array Nat) (b : Nat) : ∀ (l : List Edge) (s : Nat), (l.foldl (fun s e => if Region.binds .any e then s ||| 2 ^ e.on ||| pre.getD e.on 0 else s) s).testBit b = true →
    s.testBit b = true ∨ ∃ e ∈ l, Region.binds .any e = true ∧ (e.on = b ∨ (pre.getD e.on 0).testBit b = true)
  | [], s, h => .inl h
  | e :: l, s, h => by
    rw [List.foldl_cons] at h
    rcases foldl_mask pre b l _ h with h | ⟨e', he', hb', h⟩
    · split at h
      · rename_i hb
        rw [Nat.testBit_or, Nat.testBit_or, Nat.testBit_two_pow] at h
        simp only [Bool.or_eq_true, decide_eq_true_eq] at h
        rcases h with (h | h) | h
        · exact .inl h
        · exact .inr ⟨e, by simp, hb, .inl h⟩
        · exact .inr ⟨e, by simp, hb, .inr h⟩
      · exact .inl h
    · exact .inr ⟨e', by simp [he'], hb', h⟩

theorem pre_listed {pre : Array Nat} (hf : Fine ops pre L A) {listed : Array Bool} (hd : Down ops listed) : ∀ (j : Nat) (o : Oper), ops[j]? = some o →
    (∀ e ∈ o.after, Region.binds .any e = true → listed.getD e.on false = true) → ∀ b, (pre.getD j 0).testBit b = true → listed.getD b false = true := by
  intro j
  induction j using Nat.strongRecOn with
  | _ j ih =>
    intro o hj hall b hb
    rw [hf.mask j o hj] at hb
    unfold edgeMask at hb
    rw [← Array.foldl_toList] at hb
    rcases foldl_mask pre b o.after.toList 0 hb with h | ⟨e, he, hbe, h⟩
    · simp at h
    · have he' : e ∈ o.after := by simpa using he
      have hon := hall e he' hbe
      rcases h with rfl | h
      · exact hon
      · have hlt := hf.edge j o hj e he' hbe
        cases ho : ops[e.on]? with
        | none =>
          have := (Array.getElem?_eq_some_iff.1 hj).1
          rw [Array.getElem?_eq_none_iff] at ho
          omega
        | some o2 => exact ih e.on hlt o2 ho (hd e.on o2 ho hon) b h

theorem down_set {listed : Array Bool} (hd : Down ops listed) {i : Nat} (hi : i ∈ Region.ready .any ops listed) : Down ops (listed.setIfInBounds i true) := by
  intro j o hj hl e he hb
  by_cases hji : j = i
  · subst hji
    obtain ⟨_, o', ho', hall⟩ := mem_ready.1 hi
    rw [hj] at ho'; injection ho' with ho'; subst ho'
    exact getD_set_true (hall e he hb)
  · rw [getD_set_ne false (Ne.symm hji)] at hl
    exact getD_set_true (hd j o hj hl e he hb)

theorem pair_of_ready {pre : Array Nat} (hf : Fine ops pre L A) {listed : Array Bool} (hd : Down ops listed) {i j : Nat} (hi : i ∈ Region.ready .any ops listed) (hj : j ∈ Region.ready .any ops listed) (hne : j ≠ i) :
    ∃ oi oj, ops[i]? = some oi ∧ ops[j]? = some oj ∧ oi.apart ops oj = true ∧ oj.apart ops oi = true ∧ ¬ (L.contains i = true ∧ L.contains j = true) ∧ (L.contains j = true → A.contains i = true) ∧ (L.contains i = true → A.contains j = true) := by
  obtain ⟨hiu, oi, hoi, halli⟩ := mem_ready.1 hi
  obtain ⟨hju, oj, hoj, hallj⟩ := mem_ready.1 hj
  have unl : ∀ k, listed.getD k true = false → listed.getD k false = true → False := by
    intro k h1 h2
    rcases Nat.lt_or_ge k listed.size with h' | h'
    · simp [h'] at h1 h2; rw [h1] at h2; cases h2
    · simp [Array.getElem?_eq_none h'] at h1
  have nij : (pre.getD j 0).testBit i = false := by
    cases ht : (pre.getD j 0).testBit i
    · rfl
    · exact (unl i hiu (pre_listed hf hd j oj hoj hallj i ht)).elim
  have nji : (pre.getD i 0).testBit j = false := by
    cases ht : (pre.getD i 0).testBit j
    · rfl
    · exact (unl j hju (pre_listed hf hd i oi hoi halli j ht)).elim
  refine ⟨oi, oj, hoi, hoj, ?_⟩
  rcases Nat.lt_or_gt_of_ne hne with h | h
  · obtain ⟨g1, g2, g3, g4, g5⟩ := hf.pair j i oj oi hoj hoi h nji
    exact ⟨g2, g1, fun ⟨x, y⟩ => g3 ⟨y, x⟩, g5, g4⟩
  · exact hf.pair i j oi oj hoi hoj h nij

/-- An operation that may come up may be taken first. -/
theorem tAny_first {pre : Array Nat} (hf : Fine ops pre L A) {i : Nat} : ∀ (fuel : Nat) (listed : Array Bool) (a : Act) (w : World), Down ops listed → i ∈ Region.ready .any ops listed → S w →
    tOp P ops S L A i (tAny P ops Q S L A fuel (listed.setIfInBounds i true)) a w → tAny P ops Q S L A (fuel + 1) listed a w := by
  intro fuel
  induction fuel with
  | zero =>
    intro listed a w hd hr hS H
    refine ⟨fun h => (by rw [h] at hr; cases hr), fun j hj => ?_⟩
    by_cases hji : j = i
    · subst hji; exact H
    · have := ready_mono hj hji
      obtain ⟨a', w', h⟩ := tOp_some H
      rw [h.1] at this
      cases this
  | succ fuel ih =>
    intro listed a w hd hr hS H
    refine ⟨fun h => (by rw [h] at hr; cases hr), fun j hj => ?_⟩
    by_cases hji : j = i
    · subst hji; exact H
    · obtain ⟨oi, oj, hoi, hoj, g1, g2, g3, g4, g5⟩ := pair_of_ready hf hd hr hj hji
      have H2 : tOp P ops S L A i (tOp P ops S L A j (tAny P ops Q S L A fuel ((listed.setIfInBounds i true).setIfInBounds j true))) a w :=
        tOp_mono hS (fun a w _ h => h.2 j (ready_mono hj hji)) H
      have H3 := tOp_swap hoi hoj g1 g2 (fun cs b => hf.sel i oi cs b hoi) (fun cs b => hf.sel j oj cs b hoj) g3 g4 g5 hS H2
      refine tOp_mono hS (fun a' w' _ h => ?_) H3
      refine ih (listed.setIfInBounds j true) a' w' (down_set hd hj) (ready_mono hr (Ne.symm hji)) h.1 ?_
      rw [Array.setIfInBounds_comm _ _ hji]
      exact h.2

theorem tAny_lex {pre : Array Nat} (hf : Fine ops pre L A) : ∀ (l : List Oper) (k : Nat) (listed : Array Bool) (a : Act) (w : World), (∀ j, l[j]? = ops[k + j]?) → k + l.length = ops.size →
    listed.size = ops.size → (∀ i, i < ops.size → ∀ d, listed.getD i d = decide (i < k)) → S w → wpT P ops Q S L A l k a w → tAny P ops Q S L A l.length listed a w
  | [], k, listed, a, w, hl, hk, hsz, hlist, hS, h => by
    refine ⟨?_, h⟩
    rw [List.eq_nil_iff_forall_not_mem]
    intro j hj
    obtain ⟨hju, o, ho, _⟩ := mem_ready.1 hj
    have hlt := (Array.getElem?_eq_some_iff.1 ho).1
    rw [hlist j hlt true] at hju
    simp at hk hju
    omega
  | o :: l, k, listed, a, w, hl, hk, hsz, hlist, hS, h => by
    have h0 : ops[k]? = some o := by simpa using (hl 0).symm
    have hklt : k < ops.size := (Array.getElem?_eq_some_iff.1 h0).1
    have hd : Down ops listed := by
      intro j o' hj hlj e he hb
      have hjlt := (Array.getElem?_eq_some_iff.1 hj).1
      rw [hlist j hjlt false] at hlj
      have := hf.edge j o' hj e he hb
      rw [hlist e.on (by omega) false]
      simp at hlj ⊢
      omega
    have hr : k ∈ Region.ready .any ops listed := by
      refine mem_ready.2 ⟨by rw [hlist k hklt true]; simp, o, h0, fun e he hb => ?_⟩
      have := hf.edge k o h0 e he hb
      rw [hlist e.on (by omega) false]
      simpa using this
    refine tAny_first hf l.length listed a w hd hr hS ?_
    have hop : tOp P ops S L A k (wpT P ops Q S L A l (k + 1)) a w := by unfold tOp; simp only [h0]; exact h
    refine tOp_mono hS (fun a' w' hS' hh => ?_) hop
    refine tAny_lex hf l (k + 1) _ a' w' (fun j => by have := hl (j + 1); simpa [Nat.add_assoc, Nat.add_comm 1 j] using this) (by simp at hk; omega) (by simpa using hsz) ?_ hS' hh
    intro i hi d
    by_cases hik : k = i
    · subst hik; simp [hsz, hklt]
    · rw [getD_set_ne d hik, hlist i hi d]
      simp; omega

/-- **A region that draws its order.** -/
theorem wp_region_T {id : Nat} {a : Act} {w : World} {l : List Oper} (L A : List Nat) (S : World → Prop) (hm : P.follows .mixedOrders = true) (hc : chk l.toArray (Region.before l.toArray) L A = true)
    (hS : S w.drew) (h : wpT P l.toArray Q S L A l 0 a w.drew) : (Code.region id l.toArray true).wp P Q a w := by
  refine wp_region_any hm (wpAny_of_tAny (L := L) (A := A) (S := S) _ _ _ _ ?_)
  have := tAny_lex (P := P) (Q := Q) (S := S) (fine_of_chk hc) l 0 (Array.replicate l.toArray.size false) a w.drew (by simp) (by simp) (by simp)
    (fun i hi d => by simp only [Array.getD_eq_getD_getElem?, Array.getElem?_replicate, if_pos hi]; simp) hS h
  simpa using this

theorem wpT_nil {k : Nat} {a : Act} {w : World} (h : Q .normal a w) : wpT P ops Q S L A [] k a w := h
theorem wpT_skip {o : Oper} {l : List Oper} {k : Nat} {a : Act} {w : World} (hw : Region.wanted o (yielded ops a.tmps) = false) (h : wpT P ops Q S L A l (k + 1) (a.put o.dst undef) w) : wpT P ops Q S L A (o :: l) k a w := by
  unfold wpT; rw [if_neg (by rw [hw]; exact Bool.false_ne_true)]; exact h
theorem wpT_here {o : Oper} {l : List Oper} {k : Nat} {a : Act} {w : World} (hw : Region.wanted o (yielded ops a.tmps) = true) (hl : L.contains k = false) (ha : A.contains k = false)
    (h : ∀ K : Act → Prop, (∀ a, wpT P ops Q S L A l (k + 1) a w → K a) → o.quiet P a (fun w' => w' = w) K) : wpT P ops Q S L A (o :: l) k a w := by
  unfold wpT
  rw [if_pos hw, if_neg (by rw [hl]; exact Bool.false_ne_true)]
  obtain ⟨v, h1, h2⟩ := h _ fun _ hh => hh
  exact ⟨v, h1 w rfl, fun hh => (by rw [ha] at hh; cases hh), h2⟩
theorem wpT_beside {o : Oper} {l : List Oper} {k : Nat} {a : Act} {w : World} (hw : Region.wanted o (yielded ops a.tmps) = true) (hl : L.contains k = false) (hS : S w)
    (h : ∀ K : Act → Prop, (∀ a, wpT P ops Q S L A l (k + 1) a w → K a) → ∃ v, (∀ w', S w' → Vr P o a w' v) ∧ K (a.put o.dst v)) : wpT P ops Q S L A (o :: l) k a w := by
  unfold wpT
  rw [if_pos hw, if_neg (by rw [hl]; exact Bool.false_ne_true)]
  obtain ⟨v, h1, h2⟩ := h _ fun _ hh => hh
  exact ⟨v, (h1 w hS).qr, fun _ => h1, h2⟩
/-- Operations that are no calls: what they yield is a value. -/
def valueKind : Op → Bool
  | .move _ | .assign _ | .pick .. | .build .. | .load .. | .nilCheck _ | .binOp .. | .unOp .. | .convert .. | .slice .. | .fieldAddr .. | .field .. | .indexAddr .. | .index .. | .extract .. | .sliceToArrayPointer .. => true
  | .call { callee := .builtin b, .. } => match b with | .len | .cap | .min | .max => true | _ => false
  | _ => false
theorem run_value {P : Program} (s : Sem Value) {w w' : World} {n : Next} (h : (do pure (Next.value (← s)) : Sem Next).run P w = .ok n w') : ∃ v, n = .value v := by
  rw [Sem.run_bind] at h
  cases hs : s.run P w with
  | ok v w1 => rw [hs] at h; simp at h; exact ⟨v, h.1.symm⟩
  | halt x w1 => rw [hs] at h; simp [Result.andThen] at h
theorem run_halt {P : Program} {α : Type} (x : Halt) {w w' : World} {n : α} (h : (Sem.halt x : Sem α).run P w = .ok n w') : False := by
  simp [Sem.run] at h
theorem run_nilDeref {P : Program} {α : Type} {w w' : World} {n : α} (h : (runtimePanic .nilDeref : Sem α).run P w = .ok n w') : False := by
  simp [runtimePanic, program, goPanic, Sem.run_bind, Sem.run] at h
theorem value_of_kind {o : Oper} {a : Act} {w w' : World} {n : Next} (hk : valueKind o.op = true) (h : (execOp a.eval o).run P w = .ok n w') : ∃ v, n = .value v := by
  obtain ⟨dst, op, type, pos, after, guard⟩ := o
  unfold execOp at h
  cases op <;> simp only [valueKind] at hk <;> try (cases hk; done)
  case move x => simp at h; exact ⟨_, h.1.symm⟩
  case assign x => simp at h; exact ⟨_, h.1.symm⟩
  case pick c x y =>
    simp only [Sem.run_bind] at h
    cases hs : (asBool (a.eval c)).run P w with
    | ok v w1 => rw [hs] at h; simp at h; exact ⟨_, h.1.symm⟩
    | halt x w1 => rw [hs] at h; simp [Result.andThen] at h
  case nilCheck x =>
    dsimp only at h
    split at h
    · exact (run_nilDeref h).elim
    · exact (run_nilDeref h).elim
    · exact (run_nilDeref h).elim
    · split at h
      · exact (run_nilDeref h).elim
      · simp only [Sem.run_bind] at h
        cases hp : (program : Sem Program).run P w with
        | halt x w1 => rw [hp] at h; simp [Result.andThen] at h
        | ok p w1 =>
          rw [hp] at h
          simp only [Result.andThen] at h
          generalize hq : Sem.run P _ w1 = q at h
          cases q with
          | halt x w2 => simp at h
          | ok b w2 =>
            simp only at h
            split at h
            · simp [unsupported, Sem.run, Result.andThen] at h
            · simp at h; exact ⟨_, h.1.symm⟩
      · simp at h; exact ⟨_, h.1.symm⟩
    · simp at h; exact ⟨_, h.1.symm⟩
  case call c =>
    obtain ⟨callee, args, argTypes⟩ := c
    cases callee <;> simp only at hk <;> try (cases hk; done)
    case builtin b =>
      simp only [resolve, Sem.run_bind, Sem.run_pure, Result.andThen_ok, invoke] at h
      cases b <;> simp only [] at hk <;> try (cases hk; done)
      all_goals (simp only [builtin] at h; exact run_value _ h)
  all_goals exact run_value _ h
theorem wpT_amb {o : Oper} {l : List Oper} {k : Nat} {a : Act} {w : World} (hw : Region.wanted o (yielded ops a.tmps) = true) (hl : L.contains k = false) (hk : valueKind o.op = true) (hS : S w)
    (h : ∀ K : Act → Prop, (∀ a, wpT P ops Q S L A l (k + 1) a w → K a) → o.quiet P a S K) : wpT P ops Q S L A (o :: l) k a w :=
  wpT_beside hw hl hS fun K hK => by
    obtain ⟨v, h1, h2⟩ := h K hK
    refine ⟨v, fun w' hw' => ?_, h2⟩
    have h3 := h1 w' hw'
    unfold Oper.quietAt at h3
    unfold Vr
    generalize hr : (execOp a.eval o).run P w' = r at *
    cases r with
    | ok n w2 =>
      obtain ⟨u, rfl⟩ := value_of_kind hk hr
      obtain ⟨rfl, rfl⟩ := h3
      rfl
    | halt x w2 => simp only [Oper.quietUpon] at h3
theorem wpT_loud {o : Oper} {l : List Oper} {k : Nat} {a : Act} {w : World} (hw : Region.wanted o (yielded ops a.tmps) = true) (hl : L.contains k = true)
    (h : ∀ K : Act → World → Prop, (∀ a w', S w' → wpT P ops Q S L A l (k + 1) a w' → K a w') → o.wp P a w K NoQ) : wpT P ops Q S L A (o :: l) k a w := by
  unfold wpT
  rw [if_pos hw, if_pos hl]
  exact h _ fun _ _ h1 h2 => ⟨h1, h2⟩
end
end Go.Proofs.Ytpeefeioccglcaa
