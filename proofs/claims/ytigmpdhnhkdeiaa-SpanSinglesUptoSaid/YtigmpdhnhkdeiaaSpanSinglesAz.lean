/- A region in every order of its loud operations: the steps as theorems that a tactic can try one after another. -/
import Derived.Test.YtigmpdhnhkdeiaaVec
import Derived.Test.YtigmpdhnhkdeiaaState
import Derived.Test.YtigmpdhnhkdeiaaA2
set_option linter.unusedSimpArgs false
set_option linter.unusedVariables false
namespace Go.Proofs.Ytigmpdhnhkdeiaa
open Go Go.RowKit
section
variable {P : Program} {ops : Array Oper} {Q : Exit → Act → World → Prop} {S : World → Prop} {L A : List Nat} {U : List (Nat × Nat)}
theorem wpZ_q1 {i n : Nat} {rest : List Nat} {o : Oper} {a : Act} {w : World} (hL : L.contains i = false) (ho : (ops.toList.drop i).head? = some o)
    (h : wpT P ops (fun _ a w => wpZ P ops Q S L A U n rest a w) S L A [o] i a w) : wpZ P ops Q S L A U (n + 1) (i :: rest) a w := by
  have ho : ops[i]? = some o := by rw [List.head?_drop, Array.getElem?_toList] at ho; exact ho
  unfold wpZ; rw [if_neg (by rw [hL]; exact Bool.false_ne_true)]; unfold tOp; simp only [ho]; exact h
theorem wpZ_l1 {i n : Nat} {rest : List Nat} {o : Oper} {a : Act} {w : World} (hL : L.contains i = true) (hc : altZ U i rest = []) (ho : (ops.toList.drop i).head? = some o)
    (h : wpT P ops (fun _ a w => wpZ P ops Q S L A U n rest a w) S L A [o] i a w) : wpZ P ops Q S L A U (n + 1) (i :: rest) a w := by
  refine wpZ_two hL hc (all1 ?_)
  exact wpZ_pick (by simp) ho h
theorem wpZ_l2 {i m n : Nat} {rest r2 : List Nat} {o o2 : Oper} {a : Act} {w : World} (hL : L.contains i = true) (hc : altZ U i rest = [m]) (ho : (ops.toList.drop i).head? = some o) (ho2 : (ops.toList.drop m).head? = some o2) (hr2 : (i :: rest).erase m = r2)
    (h : wpT P ops (fun _ a w => wpZ P ops Q S L A U n rest a w) S L A [o] i a w) (h2 : wpT P ops (fun _ a w => wpZ P ops Q S L A U n r2 a w) S L A [o2] m a w) : wpZ P ops Q S L A U (n + 1) (i :: rest) a w := by
  refine wpZ_two hL hc (all2 ⟨?_, ?_⟩)
  · exact wpZ_pick (by simp) ho h
  · exact wpZ_pick hr2 ho2 h2
theorem wpZ_l3 {i m k n : Nat} {rest r2 r3 : List Nat} {o o2 o3 : Oper} {a : Act} {w : World} (hL : L.contains i = true) (hc : altZ U i rest = [m, k]) (ho : (ops.toList.drop i).head? = some o) (ho2 : (ops.toList.drop m).head? = some o2) (ho3 : (ops.toList.drop k).head? = some o3) (hr2 : (i :: rest).erase m = r2) (hr3 : (i :: rest).erase k = r3)
    (h : wpT P ops (fun _ a w => wpZ P ops Q S L A U n rest a w) S L A [o] i a w) (h2 : wpT P ops (fun _ a w => wpZ P ops Q S L A U n r2 a w) S L A [o2] m a w) (h3 : wpT P ops (fun _ a w => wpZ P ops Q S L A U n r3 a w) S L A [o3] k a w) : wpZ P ops Q S L A U (n + 1) (i :: rest) a w := by
  refine wpZ_two hL hc (all3 ⟨?_, ?_, ?_⟩)
  · exact wpZ_pick (by simp) ho h
  · exact wpZ_pick hr2 ho2 h2
  · exact wpZ_pick hr3 ho3 h3
theorem all4 {p : Nat → Prop} {x y z u : Nat} (h : p x ∧ p y ∧ p z ∧ p u) : ∀ m ∈ [x, y, z, u], p m := fun m hm => by
  simp at hm
  rcases hm with rfl | rfl | rfl | rfl
  · exact h.1
  · exact h.2.1
  · exact h.2.2.1
  · exact h.2.2.2
theorem wpZ_l4 {i m k j n : Nat} {rest r2 r3 r4 : List Nat} {o o2 o3 o4 : Oper} {a : Act} {w : World} (hL : L.contains i = true) (hc : altZ U i rest = [m, k, j]) (ho : (ops.toList.drop i).head? = some o) (ho2 : (ops.toList.drop m).head? = some o2) (ho3 : (ops.toList.drop k).head? = some o3) (ho4 : (ops.toList.drop j).head? = some o4) (hr2 : (i :: rest).erase m = r2) (hr3 : (i :: rest).erase k = r3) (hr4 : (i :: rest).erase j = r4)
    (h : wpT P ops (fun _ a w => wpZ P ops Q S L A U n rest a w) S L A [o] i a w) (h2 : wpT P ops (fun _ a w => wpZ P ops Q S L A U n r2 a w) S L A [o2] m a w) (h3 : wpT P ops (fun _ a w => wpZ P ops Q S L A U n r3 a w) S L A [o3] k a w) (h4 : wpT P ops (fun _ a w => wpZ P ops Q S L A U n r4 a w) S L A [o4] j a w) : wpZ P ops Q S L A U (n + 1) (i :: rest) a w := by
  refine wpZ_two hL hc (all4 ⟨?_, ?_, ?_, ?_⟩)
  · exact wpZ_pick (by simp) ho h
  · exact wpZ_pick hr2 ho2 h2
  · exact wpZ_pick hr3 ho3 h3
  · exact wpZ_pick hr4 ho4 h4
end
end Go.Proofs.Ytigmpdhnhkdeiaa
/- A reader of a stretch: (*span.reader).leaf. -/
namespace Go.Proofs.Ytigmpdhnhkdeiaa
open Go Go.RowKit
abbrev srdT : Ty := ti211.ty
abbrev brT : Ty := ti54.ty
def brs (l : List Br) : List AV := l.map Br.av
theorem brs_len (l : List Br) : (brs l).length = l.length := by simp [brs]
abbrev rdA (fr to key : List UInt8) (s : RS) : AV := .st [.st [.ba fr, .ba to], .sl brT (brs s.rest) none, .ba (sum [0]), .vw 1 s.ks.length s.ks.length, .vw 2 s.ds.length s.ds.length, .ba key, .st [.vw 3 s.sd.length s.sd.length, s.en.av]]
abbrev rdB (fr to key : List UInt8) (s : RS) : List (Ty × AV) := [(srdT, rdA fr to key s), (.vc 52 (.ba 32), .vc s.ks.length (bas s.ks)), (.vc 50 (.ba 32), .vc s.ds.length (bas s.ds)), (.vc 50 (.ba 32), .vc s.sd.length (bas s.sd))]
structure RS.wf (s : RS) : Prop where
  rest : ∀ b ∈ s.rest, b.wf
  ks : ∀ k ∈ s.ks, k.length = 32
  ds : ∀ k ∈ s.ds, k.length = 32
  sd : ∀ k ∈ s.sd, k.length = 32
  en : s.en.wf
  lk : s.ks.length + s.rest.length ≤ 100000
  ld : s.ds.length + s.rest.length ≤ 100000
  ls : s.sd.length + s.rest.length ≤ 100000
theorem cutG9 {B R : Act → World → Prop} {G : Prop} (h : (∀ a w, R a w → B a w) → G) (k : ∀ a w, R a w → B a w) : G := h k
set_option maxRecDepth 20000 in
set_option maxHeartbeats 4000000 in
theorem sleaf_v (fr to key : List UInt8) (h1 : fr.length = 32) (h2 : to.length = 32) (h3 : key.length = 32) (s : RS) (hs : s.wf) (b : Br) (hb : b.wf) (hlk : s.ks.length < 100000) (hld : s.ds.length < 100000) (top : List UInt8) (ht : top.length = 32) (d : Nat) (hd : d ≤ 256) :
    VX Try.prog 233 (rdB fr to key s) [] [] [.ptr 0 [], b.av, .ba top, .v (.int .i64 (d : Int))] (rdB fr to key (lfS fr to key s b top d)) [] [] (.tup [.ba (leafH b.key b.v), .v (.bool (und d b.key top))]) := by
  obtain ⟨q1, q2, q3⟩ := id hb
  obtain ⟨bk, bkey, bv, bg⟩ := b
  dsimp only at q1 q2 q3
  have hhas := has_v fr to bkey h1 h2 q1
  have hun := under_v key top h3 ht (d : Int)
  have hun2 := under_v bkey top q1 ht (d : Int)
  have hlf := leaf_v bkey bv q1 q2
  have hll := leafH_len bkey bv
  have eu : ∀ k : List UInt8, decide (0 ≤ (d : Int) ∧ (d : Int) ≤ 256 ∧ (d : Int) ≤ (com k top : Int)) = und d k top := fun k => by
    unfold und; rw [decide_eq_decide]; omega
  rw [eu] at hun hun2
  obtain ⟨rest, ks, ds, sd, en⟩ := s
  dsimp only [rdB, rdA, lfS] at *
  have hkl := bas_len ks
  have hdl := bas_len ds
  refine mE Try.func233 ?_; intro N w0 a w hN hR H
  simp only [Br.av] at H
  have hX := And.intro @h1 (And.intro @h2 (And.intro @h3 (And.intro @q1 (And.intro @q2 (And.intro @q3 (And.intro @ht (And.intro @hkl (@hdl))))))))
  refine mW ?_; clear H; intro a w H
  replace H := v_ref H 5 4 (Nat.le_trans hN (Nat.le_of_ble_eq_true rfl)) rfl rfl rfl
  simp only [nilT, strip, List.map_cons, List.map_nil, reduceIte, Nat.reduceEqDiff] at H
  replace H := v_ref H 6 5 (Nat.le_trans hN (Nat.le_of_ble_eq_true rfl)) rfl rfl rfl
  simp only [nilT, strip, List.map_cons, List.map_nil, reduceIte, Nat.reduceEqDiff] at H
  refine mS ?_; refine mD 7 [6] [] H ?_; clear H; intro gS H
  refine mT ?_; clear H; intro a w H
  refine mCallT [] [] (hhas) H ?_; clear H; intro a w H
  refine v_drawNil H ?_; clear H; intro H
  refine mW ?_; clear H; intro a w H
  obtain ⟨ks', hks'⟩ : ∃ x, x = (if hasB fr to bkey then ks ++ [bkey] else ks) := ⟨_, rfl⟩
  obtain ⟨ds', hds'⟩ : ∃ x, x = (if hasB fr to bkey then ds ++ [bv] else ds) := ⟨_, rfl⟩
  rw [← hks', ← hds']
  revert a w
  apply cutG9 (R := fun a w => Rel Try.prog w0 N Try.f233.ntmps ⟨[(8, none, .ptr 6 []), (6, none, .ref (.ba 32) (.ba top)), (5, none, .ref brT (.st [.v (B8 bk), .ba bkey, .ba bv, .ba bg])), (3, none, .v (.int .i64 (d : Int))), (0, none, .ptr 0 [])],
    [(srdT, .st [.st [.ba fr, .ba to], .sl brT (brs rest) none, .ba (sum [0]), .vw 1 ks'.length ks'.length, .vw 2 ds'.length ds'.length, .ba key, .st [.vw 3 sd.length sd.length, en.av]]), (.vc 52 (.ba 32), .vc ks'.length (bas ks')), (.vc 50 (.ba 32), .vc ds'.length (bas ds')), (.vc 50 (.ba 32), .vc sd.length (bas sd)), (brT, .st [.v (B8 bk), .ba bkey, .ba bv, .ba bg]), (.ba 32, .ba top), (.ba 32, .ba (List.replicate 32 0))], [5, 4], []⟩ a w)
  · intro key1 a w H
    refine mC H (fun hb => ?_) (fun hb => ?_)
    · have e1 : ks' = ks ++ [bkey] := by rw [hks', hb, if_pos rfl]
      have e2 : ds' = ds ++ [bv] := by rw [hds', hb, if_pos rfl]
      have l1 : ks.length + 1 = ks'.length := by rw [e1, List.length_append]; rfl
      have l2 : ds.length + 1 = ds'.length := by rw [e2, List.length_append]; rfl
      have b1 : bas ks ++ [.ba bkey] = bas ks' := by rw [e1]; simp [bas]
      have b2 : bas ds ++ [.ba bv] = bas ds' := by rw [e2]; simp [bas]
      have t1 : (bas ks).take ks.length = bas ks := List.take_of_length_le (by omega)
      have t2 : (bas ds).take ds.length = bas ds := List.take_of_length_le (by omega)
      repeat (first | refine wp_seq ?_ | refine wp_block ?_)
      refine v_drawZ 0 [0, 1, 2, 3, 4, 6, 7, 10, 11, 12, 14, 15, 5, 8, 9, 13, 16, 17, 18, 19, 20, 21, 22, 23] [5, 8, 9, 13, 16, 17, 20, 23] [0, 1, 2, 3, 4, 6, 7, 10, 11, 12, 14, 15] [(5, 8), (5, 13), (5, 16), (8, 13), (8, 16), (9, 13), (9, 16), (13, 16)] (by kernel_rfl) (by kernel_rfl) (by kernel_rfl) (by kernel_rfl) (by kernel_rfl) H (by rfl) ?_; clear H; intro gS H; try replace H := ntf H
      repeat' ((first | refine wpZ_q1 rfl rfl ?_ | refine wpZ_l1 rfl rfl rfl ?_ | refine wpZ_l2 rfl rfl rfl rfl rfl ?_ ?_ | refine wpZ_l3 rfl rfl rfl rfl rfl rfl rfl ?_ ?_ ?_ | refine wpZ_l4 rfl rfl rfl rfl rfl rfl rfl rfl rfl ?_ ?_ ?_ ?_) <;> (first | (refine v_someT 1 tab_ok hN H rfl ctX ?_; clear H; intro a w H; replace H := ntf H; simp only [List.drop_succ_cons, List.drop_zero, List.drop_nil])); refine wpT_nil ?_; try dsimp only)
      all_goals (refine wpZ_nil ?_; replace H := RelT.toRel H)
      all_goals
        refine mS ?_
        simp only [t1, t2, l1, l2, b1, b2] at H
        exact key1 _ _ (H.to 7 0 ⟨Nat.le_trans hN (Nat.le_of_ble_eq_true rfl), hR⟩ ⟨rfl, rfl, rfl, rfl, rfl, trivial⟩ rfl rfl rfl rfl rfl)
    · have e1 : ks' = ks := by rw [hks', hb, if_neg (by decide)]
      have e2 : ds' = ds := by rw [hds', hb, if_neg (by decide)]
      refine mS ?_
      simp only [← e1, ← e2] at H
      exact key1 _ _ (H.to 7 0 ⟨Nat.le_trans hN (Nat.le_of_ble_eq_true rfl), hR⟩ ⟨rfl, rfl, rfl, rfl, rfl, trivial⟩ rfl rfl rfl rfl rfl)
  intro a w H
  have hkl2 := bas_len ks'
  have hdl2 := bas_len ds'
  clear hks' hds'
  obtain ⟨en', hen'⟩ : ∃ x, x = (if und d key top then Nd.one bkey bv else en) := ⟨_, rfl⟩
  rw [← hen']
  refine mS ?_; refine mD 7 [6] [] H ?_; clear H; intro gS H
  refine mT ?_; clear H; intro a w H
  refine mCallT [] [] (hun) H ?_; clear H; intro a w H
  refine v_drawNil H ?_; clear H; intro H
  refine mW ?_; clear H; intro a w H
  revert a w
  apply cutG9 (R := fun a w => Rel Try.prog w0 N Try.f233.ntmps ⟨[(8, none, .ptr 6 []), (6, none, .ref (.ba 32) (.ba top)), (5, none, .ref brT (.st [.v (B8 bk), .ba bkey, .ba bv, .ba bg])), (3, none, .v (.int .i64 (d : Int))), (0, none, .ptr 0 [])],
    [(srdT, .st [.st [.ba fr, .ba to], .sl brT (brs rest) none, .ba (sum [0]), .vw 1 ks'.length ks'.length, .vw 2 ds'.length ds'.length, .ba key, .st [.vw 3 sd.length sd.length, en'.av]]), (.vc 52 (.ba 32), .vc ks'.length (bas ks')), (.vc 50 (.ba 32), .vc ds'.length (bas ds')), (.vc 50 (.ba 32), .vc sd.length (bas sd)), (brT, .st [.v (B8 bk), .ba bkey, .ba bv, .ba bg]), (.ba 32, .ba top), (.ba 32, .ba (List.replicate 32 0))], [5, 4], []⟩ a w)
  · intro key1 a w H
    refine mC H (fun hb => ?_) (fun hb => ?_)
    · have e1 : en' = Nd.one bkey bv := by rw [hen', hb, if_pos rfl]
      refine mW ?_; clear H; intro a w H
      have e3 : AV.st [.v (.int .u8 1), .ba bkey, .ba bv, .ba (List.replicate 32 0), .ba (List.replicate 32 0)] = en'.av := by rw [e1]; rfl
      simp only [e3] at H
      exact key1 _ _ (H.to 7 0 ⟨Nat.le_trans hN (Nat.le_of_ble_eq_true rfl), hR⟩ ⟨rfl, rfl, rfl, rfl, rfl, trivial⟩ rfl rfl rfl rfl rfl)
    · have e1 : en' = en := by rw [hen', hb, if_neg (by decide)]
      refine mS ?_
      simp only [← e1] at H
      exact key1 _ _ (H.to 7 0 ⟨Nat.le_trans hN (Nat.le_of_ble_eq_true rfl), hR⟩ ⟨rfl, rfl, rfl, rfl, rfl, trivial⟩ rfl rfl rfl rfl rfl)
  intro a w H
  refine mS ?_; refine mD 0 [4, 9, 10] [5, 6, 7, 8] H ?_; clear H; intro gS H
  refine mT ?_; clear H; intro a w H
  refine mCallT [] [] (hlf) H ?_; clear H; intro a w H
  refine mT ?_; clear H; intro a w H
  refine mCallT [] [] (hun2) H ?_; clear H; intro a w H
  refine mT ?_; clear H; intro a w H
  refine v_drawNil H ?_; clear H; intro H
  refine mS ?_
  clear hX; have hX := @Nd.av.eq_1
  refine wp_ret ?_; exact mEnd [0, 1, 2, 3] [] [.cell 8 50, .tmp 9] [_, _] hN hR H
end Go.Proofs.Ytigmpdhnhkdeiaa
/- A reader of a stretch: (*span.reader).place. -/
namespace Go.Proofs.Ytigmpdhnhkdeiaa
open Go Go.RowKit
theorem RS.wf.tail {b : Br} {rest : List Br} {ks ds sd : List (List UInt8)} {en : Nd} (h : RS.wf ⟨b :: rest, ks, ds, sd, en⟩) : RS.wf ⟨rest, ks, ds, sd, en⟩ := by
  obtain ⟨h1, h2, h3, h4, h5, h6, h7, h8⟩ := h
  dsimp only at *
  simp only [List.length_cons] at *
  exact ⟨fun b hb => h1 b (List.mem_cons_of_mem _ hb), h2, h3, h4, h5, by dsimp only; omega, by dsimp only; omega, by dsimp only; omega⟩
theorem lfS_wf (fr to key : List UInt8) {b : Br} {rest : List Br} {ks ds sd : List (List UInt8)} {en : Nd} (h : RS.wf ⟨b :: rest, ks, ds, sd, en⟩) (top : List UInt8) (d : Nat) : (lfS fr to key ⟨rest, ks, ds, sd, en⟩ b top d).wf := by
  obtain ⟨h1, h2, h3, h4, h5, h6, h7, h8⟩ := h
  have hb := h1 b List.mem_cons_self
  dsimp only [lfS] at *
  simp only [List.length_cons] at *
  refine ⟨fun b hb => h1 b (List.mem_cons_of_mem _ hb), ?_, ?_, h4, ?_, ?_, ?_, ?_⟩
  · dsimp only; intro k hk; split at hk
    · rcases List.mem_append.1 hk with hk | hk
      · exact h2 k hk
      · simp only [List.mem_singleton] at hk; subst hk; exact hb.key
    · exact h2 k hk
  · dsimp only; intro k hk; split at hk
    · rcases List.mem_append.1 hk with hk | hk
      · exact h3 k hk
      · simp only [List.mem_singleton] at hk; subst hk; exact hb.v
    · exact h3 k hk
  · dsimp only; split
    · exact ⟨hb.key, hb.v, z32_len, z32_len⟩
    · exact h5
  · dsimp only; split
    · rw [List.length_append]; simp only [List.length_cons, List.length_nil]; omega
    · omega
  · dsimp only; split
    · rw [List.length_append]; simp only [List.length_cons, List.length_nil]; omega
    · omega
  · dsimp only; omega
theorem plS_wf (fr to key : List UInt8) : ∀ (f : Nat) (top : List UInt8) (d : Nat) (s : RS), s.wf → (plS fr to key f top d s).1.wf ∧ (plS fr to key f top d s).2.1.length = 32 ∧
    ((plS fr to key f top d s).1.rest.length ≤ s.rest.length ∧ ((plS fr to key f top d s).2.2 = true → (plS fr to key f top d s).1.rest.length < s.rest.length) ∧ (plS fr to key f top d s).1.ks.length + (plS fr to key f top d s).1.rest.length ≤ s.ks.length + s.rest.length ∧ (plS fr to key f top d s).1.ds.length + (plS fr to key f top d s).1.rest.length ≤ s.ds.length + s.rest.length ∧ (plS fr to key f top d s).1.sd.length + (plS fr to key f top d s).1.rest.length ≤ s.sd.length + s.rest.length)
  | 0, top, d, s, h => ⟨h, z32_len, by simp [plS]⟩
  | f + 1, top, d, ⟨[], ks, ds, sd, en⟩, h => ⟨h, z32_len, by simp [plS]⟩
  | f + 1, top, d, ⟨b :: rest, ks, ds, sd, en⟩, h => by
    have hw := h.tail
    have hb := h.rest b List.mem_cons_self
    unfold plS
    dsimp only
    split
    · exact ⟨h, z32_len, by simp⟩
    · split
      · exact ⟨hw, sum_length _, by simp⟩
      · split
        · exact ⟨hw, hb.g, by simp⟩
        · split
          · exact ⟨hw, z32_len, by simp⟩
          · split
            · refine ⟨lfS_wf fr to key h top d, leafH_len _ _, ?_⟩
              simp only [lfS, List.length_cons]
              refine ⟨by omega, by omega, ?_, ?_, by omega⟩
              · split
                · simp; omega
                · omega
              · split
                · simp; omega
                · omega
            · split
              · exact ⟨hw, z32_len, by simp⟩
              · obtain ⟨a1, a2, a3, a4, a5, a6, a7⟩ := plS_wf fr to key f top (d + 1) ⟨rest, ks, ds, sd, en⟩ hw
                generalize plS fr to key f top (d + 1) ⟨rest, ks, ds, sd, en⟩ = x at *
                obtain ⟨xs, xh, xo⟩ := x
                dsimp only at *
                split
                · exact ⟨a1, z32_len, by simp only [List.length_cons]; refine ⟨by omega, by simp, by omega, by omega, by omega⟩⟩
                · obtain ⟨b1, b2, b3, b4, b5, b6, b7⟩ := plS_wf fr to key f (flipL top d) (d + 1) xs a1
                  generalize plS fr to key f (flipL top d) (d + 1) xs = y at *
                  obtain ⟨ys, yh, yo⟩ := y
                  dsimp only at *
                  refine ⟨?_, innerH_len _ _, ?_⟩
                  · unfold sdS
                    split
                    · obtain ⟨c1, c2, c3, c4, c5, c6, c7, c8⟩ := b1
                      obtain ⟨_, _, _, _, _, _, _, d8⟩ := h
                      dsimp only [List.length_cons] at d8
                      refine ⟨c1, c2, c3, ?_, c5, c6, c7, ?_⟩
                      · intro k hk
                        rcases List.mem_append.1 hk with hk | hk
                        · exact c4 k hk
                        · simp only [List.mem_singleton] at hk; subst hk; split
                          · exact a2
                          · exact b2
                      · dsimp only; rw [List.length_append]; simp only [List.length_cons, List.length_nil]; simp only [List.length_cons] at *; omega
                    · exact b1
                  · simp only [List.length_cons]
                    unfold sdS
                    split
                    · simp only [List.length_append, List.length_cons, List.length_nil]; exact ⟨by omega, fun _ => by omega, by omega, by omega, by omega⟩
                    · exact ⟨by omega, fun _ => by omega, by omega, by omega, by omega⟩

theorem sdS_eq (key : List UInt8) (s : RS) (top : List UInt8) (d : Nat) (one two : List UInt8) : sdS key s top d one two = ⟨s.rest, s.ks, s.ds, if und d key top then s.sd ++ [if bitN key d then one else two] else s.sd, s.en⟩ := by
  unfold sdS; split <;> rfl
theorem plS_nil (fr to key : List UInt8) (f : Nat) (top : List UInt8) (d : Nat) (ks ds sd : List (List UInt8)) (en : Nd) : plS fr to key (f + 1) top d ⟨[], ks, ds, sd, en⟩ = (⟨[], ks, ds, sd, en⟩, z32, false) := rfl
theorem plS_cons (fr to key : List UInt8) (f : Nat) (top : List UInt8) (d : Nat) (b : Br) (rest : List Br) (ks ds sd : List (List UInt8)) (en : Nd) : plS fr to key (f + 1) top d ⟨b :: rest, ks, ds, sd, en⟩ =
    if b.clean = false then (⟨b :: rest, ks, ds, sd, en⟩, z32, false) else
      if b.k = 0 then (⟨rest, ks, ds, sd, en⟩, sum [0], true)
      else if b.k = 3 then (⟨rest, ks, ds, sd, en⟩, b.g, !tchB fr to top d)
      else if tchB fr to top d = false then (⟨rest, ks, ds, sd, en⟩, z32, false)
      else if b.k = 1 then (lfS fr to key ⟨rest, ks, ds, sd, en⟩ b top d, leafH b.key b.v, und d b.key top)
      else if 256 ≤ d then (⟨rest, ks, ds, sd, en⟩, z32, false)
      else if (plS fr to key f top (d + 1) ⟨rest, ks, ds, sd, en⟩).2.2 = false then ((plS fr to key f top (d + 1) ⟨rest, ks, ds, sd, en⟩).1, z32, false) else
        (sdS key (plS fr to key f (flipL top d) (d + 1) (plS fr to key f top (d + 1) ⟨rest, ks, ds, sd, en⟩).1).1 top d (plS fr to key f top (d + 1) ⟨rest, ks, ds, sd, en⟩).2.1 (plS fr to key f (flipL top d) (d + 1) (plS fr to key f top (d + 1) ⟨rest, ks, ds, sd, en⟩).1).2.1,
          innerH (plS fr to key f top (d + 1) ⟨rest, ks, ds, sd, en⟩).2.1 (plS fr to key f (flipL top d) (d + 1) (plS fr to key f top (d + 1) ⟨rest, ks, ds, sd, en⟩).1).2.1, (plS fr to key f (flipL top d) (d + 1) (plS fr to key f top (d + 1) ⟨rest, ks, ds, sd, en⟩).1).2.2) := rfl
set_option maxRecDepth 20000 in
set_option maxHeartbeats 4000000 in
theorem splace_v (fr to key : List UInt8) (h1 : fr.length = 32) (h2 : to.length = 32) (h3 : key.length = 32) : ∀ (f : Nat) (top : List UInt8) (d : Nat) (s : RS), f + d = 257 → d ≤ 256 → top.length = 32 → s.wf →
    VX Try.prog 182 (rdB fr to key s) [] [] [.ptr 0 [], .ba top, .v (.int .i64 (d : Int))] (rdB fr to key (plS fr to key f top d s).1) [] [] (.tup [.ba (plS fr to key f top d s).2.1, .v (.bool (plS fr to key f top d s).2.2)]) := by
  intro f
  induction f with
  | zero => intro top d s hf hd; omega
  | succ f ih =>
    intro top d s hf hd256 ht hs
    obtain ⟨rest, ks, ds, sd, en⟩ := s
    have hkl := bas_len ks
    have hdl := bas_len ds
    have hsl := bas_len sd
    cases rest with
    | nil =>
      have hbl : (brs []).length = 0 := rfl
      rw [plS_nil]
      simp only [z32]
      refine mE Try.func182 ?_; intro N w0 a w hN hR H
      have hX := And.intro @hbl (@ht)
      refine mW ?_; clear H; intro a w H
      refine mSk (.v (.bool true)) H ?_; clear H; intro a w H
      refine mW ?_; clear H; intro a w H
      refine mC H (fun hb => ?_) (fun hb => ?_)
      · refine mW ?_; clear H; intro a w H
        clear hX; have hX := @Nd.av.eq_1
        refine wp_ret ?_; exact mEnd [0, 1, 2, 3] [] [.cell 6 50, .tmp 7] [_, _] hN hR H
      · exact absurd hb (by decide)
    | cons b rest =>
      have hbw := hs.rest b List.mem_cons_self
      have hcl := sclean_v b hbw
      have htl := hs.tail
      have hlk := hs.lk
      have hld := hs.ld
      have hls := hs.ls
      rw [plS_cons]
      obtain ⟨bk, bkey, bv, bg⟩ := b
      obtain ⟨q1, q2, q3⟩ := id hbw
      dsimp only at q1 q2 q3 hlk hld hls
      simp only [List.length_cons] at hlk hld hls
      have hlf := sleaf_v fr to key h1 h2 h3 ⟨rest, ks, ds, sd, en⟩ htl ⟨bk, bkey, bv, bg⟩ hbw (by dsimp only; omega) (by dsimp only; omega) top ht d (by omega)
      generalize hbe : brs (⟨bk, bkey, bv, bg⟩ :: rest) = B
      have hbl : B.length = (brs rest).length + 1 := by rw [← hbe]; simp [brs]
      have hb0 : B.getD 0 .any = .st [.v (B8 bk), .ba bkey, .ba bv, .ba bg] := by rw [← hbe]; rfl
      have hbs : List.drop 1 B = brs rest := by rw [← hbe]; rfl
      have hto := touches_v fr to top d (by omega) h1 h2 ht
      have e0 : decide ((((brs rest).length + 1 : Nat) : Int) = 0) = false := decide_eq_false (by omega)
      have k0 : decide ((bk.toNat : Int) = 0) = decide (bk = 0) := kz bk 0 (by decide)
      have k1 : decide ((bk.toNat : Int) = 1) = decide (bk = 1) := kz bk 1 (by decide)
      have k2 : decide ((bk.toNat : Int) = 2) = decide (bk = 2) := kz bk 2 (by decide)
      have k3 : decide ((bk.toNat : Int) = 3) = decide (bk = 3) := kz bk 3 (by decide)
      have hs0 : (sum [0]).length = 32 := sum_length _
      dsimp only
      simp only [Br.av] at hcl hlf
      simp only [rdB, rdA, hbe]
      refine mE Try.func182 ?_; intro N w0 a w hN hR H
      have hX := And.intro @hbl (And.intro @hb0 (And.intro @ht (And.intro @q1 (And.intro @q2 (And.intro @q3 (@hs0))))))
      refine mW ?_; clear H; intro a w H
      refine mCallG [] [] (hcl) H ?_; clear H; intro a w H; try refine wpList_nil ?_
      simp only [e0] at H
      refine mW ?_; clear H; intro a w H
      refine mC H (fun hb => ?_) (fun hb => ?_)
      · have hc : Br.clean ⟨bk, bkey, bv, bg⟩ = false := by simpa using hb
        rw [if_pos hc]
        simp only [z32]
        refine mW ?_; clear H; intro a w H
        clear hX; have hX := And.intro @Nd.av.eq_1 (@hbe)
        refine wp_ret ?_; exact mEnd [0, 1, 2, 3] [] [.cell 6 50, .tmp 7] [_, _] hN hR H
      · have hc : Br.clean ⟨bk, bkey, bv, bg⟩ = true := by simpa using hb
        rw [if_neg (by rw [hc]; decide)]
        clear hb
        refine mW ?_; clear H; intro a w H
        simp only [hbs] at H
        refine mS ?_; refine mD 7 [6] [] H ?_; clear H; intro gS H
        refine mT ?_; clear H; intro a w H
        refine mCallT [] [] (hto) H ?_; clear H; intro a w H
        refine mT ?_; clear H; intro a w H
        refine v_drawNil H ?_; clear H; intro H
        refine mW ?_; clear H; intro a w H
        refine mC H (fun hb => ?_) (fun hb => ?_)
        · rw [k0, decide_eq_true_eq] at hb
          rw [if_pos hb]
          dsimp only
          refine mW ?_; clear H; intro a w H
          clear hX; have hX := @Nd.av.eq_1
          refine wp_ret ?_; exact mEnd [0, 1, 2, 3] [] [.cell 6 50, .tmp 7] [_, _] hN hR H
        · rw [k0, decide_eq_false_iff_not] at hb
          rw [if_neg hb]
          have n0 := hb
          clear hb
          refine mW ?_; clear H; intro a w H
          refine mC H (fun hb => ?_) (fun hb => ?_)
          · rw [k3, decide_eq_true_eq] at hb
            rw [if_pos hb]
            dsimp only
            refine mW ?_; clear H; intro a w H
            clear hX; have hX := @Nd.av.eq_1
            refine wp_ret ?_; exact mEnd [0, 1, 2, 3] [] [.cell 6 50, .tmp 7] [_, _] hN hR H
          · rw [k3, decide_eq_false_iff_not] at hb
            rw [if_neg hb]
            have n3 := hb
            clear hb
            refine mW ?_; clear H; intro a w H
            simp only [k2] at H
            refine mC H (fun hb => ?_) (fun hb => ?_)
            · refine mW ?_; clear H; intro a w H
              have e : ∀ {α : Type} (u v w : α), (if tchB fr to top d = false then u else if bk = 1 then v else if 256 ≤ d then u else w) = u := fun u v w => by
                cases htc : tchB fr to top d
                · rw [if_pos rfl]
                · rw [htc] at hb
                  have h2 : bk = 2 ∧ 256 ≤ d := by
                    cases hk : decide (bk = 2)
                    · rw [hk] at hb; cases hb
                    · rw [hk] at hb; rw [decide_eq_true_eq] at hk
                      exact ⟨hk, by have : decide (256 ≤ (d : Int)) = true := hb; rw [decide_eq_true_eq] at this; omega⟩
                  rw [if_neg (by decide), if_neg (by rw [h2.1]; decide), if_pos h2.2]
              rw [e]
              simp only [z32]
              clear hX; have hX := @Nd.av.eq_1
              refine wp_ret ?_; exact mEnd [0, 1, 2, 3] [] [.cell 6 50, .tmp 7] [_, _] hN hR H
            · have htc : tchB fr to top d = true := by
                cases htc : tchB fr to top d
                · rw [htc] at hb; cases hb
                · rfl
              rw [if_neg (by rw [htc]; decide)]
              have hd2 : bk = 2 → d < 256 := fun hk => by
                rw [htc, hk] at hb
                have : decide (256 ≤ (d : Int)) = false := hb
                rw [decide_eq_false_iff_not] at this; omega
              clear hb
              refine mW ?_; clear H; intro a w H
              refine mC H (fun hb => ?_) (fun hb => ?_)
              · rw [k1, decide_eq_true_eq] at hb
                rw [if_pos hb]
                subst hb
                have hll := leafH_len bkey bv
                dsimp only [rdB, rdA, lfS] at hlf ⊢
                clear hX; have hX := And.intro @hbl (And.intro @hb0 (And.intro @ht (And.intro @q1 (And.intro @q2 (And.intro @q3 (And.intro @hs0 (And.intro @hll (@Nd.av.eq_1))))))))
                refine mW ?_; clear H; intro a w H
                refine mCall [0, 1, 2, 3] [] (hlf) H ?_; clear H; intro a w H; try refine wpList_nil ?_
                refine mW ?_; clear H; intro a w H
                refine wp_ret ?_; exact mEnd [0, 1, 2, 3] [] [.cell 6 50, .tmp 7] [_, _] hN hR H
              · rw [k1, decide_eq_false_iff_not] at hb
                rw [if_neg hb]
                have hk2 : bk = 2 := by
                  rcases Br.clean_k hc with h | h | h | h
                  · exact absurd h n0
                  · exact absurd h hb
                  · exact h
                  · exact absurd h n3
                have hd := hd2 hk2
                rw [if_neg (by omega)]
                clear hb hlf
                subst hk2
                obtain ⟨a1, a2, a3, a4, a5, a6, a7⟩ := plS_wf fr to key f top (d + 1) ⟨rest, ks, ds, sd, en⟩ htl
                have ih1 := ih top (d + 1) ⟨rest, ks, ds, sd, en⟩ (by omega) (by omega) ht htl
                rw [show ((d + 1 : Nat) : Int) = (d : Int) + 1 by omega] at ih1
                generalize plS fr to key f top (d + 1) ⟨rest, ks, ds, sd, en⟩ = x at *
                obtain ⟨⟨xr, xk, xd, xs, xe⟩, xh, xo⟩ := x
                dsimp only [rdB, rdA] at a1 a2 a3 a4 a5 a6 a7 ih1 ⊢
                have hkl1 := bas_len xk
                have hdl1 := bas_len xd
                have hsl1 := bas_len xs
                clear hX; have hX := And.intro @hbl (And.intro @hb0 (And.intro @ht (And.intro @q1 (And.intro @q2 (And.intro @q3 (And.intro @hs0 (And.intro @a2 (@Nd.av.eq_1))))))))
                refine mW ?_; clear H; intro a w H
                refine mCall [0, 1, 2, 3] [] (ih1) H ?_; clear H; intro a w H; try refine wpList_nil ?_
                refine mW ?_; clear H; intro a w H
                refine mC H (fun hb => ?_) (fun hb => ?_)
                · have hxo : xo = false := by simpa using hb
                  rw [if_pos hxo]
                  simp only [z32]
                  refine mW ?_; clear H; intro a w H
                  refine wp_ret ?_; exact mEnd [0, 1, 2, 3] [] [.cell 6 50, .tmp 7] [_, _] hN hR H
                · have hxo : xo = true := by simpa using hb
                  rw [if_neg (by rw [hxo]; decide)]
                  clear hb
                  have hri := right_v top ht d hd
                  have hfl := flipL_len top d
                  rw [ht] at hfl
                  obtain ⟨b1, b2, b3, b4, b5, b6, b7⟩ := plS_wf fr to key f (flipL top d) (d + 1) ⟨xr, xk, xd, xs, xe⟩ a1
                  have ih2 := ih (flipL top d) (d + 1) ⟨xr, xk, xd, xs, xe⟩ (by omega) (by omega) hfl a1
                  rw [show ((d + 1 : Nat) : Int) = (d : Int) + 1 by omega] at ih2
                  generalize flipL top d = tf at *
                  generalize plS fr to key f tf (d + 1) ⟨xr, xk, xd, xs, xe⟩ = y at *
                  obtain ⟨⟨yr, yk, yd, ys, ye⟩, yh, yo⟩ := y
                  dsimp only [rdB, rdA] at b1 b2 b3 b4 b5 b6 b7 ih2 ⊢
                  have hsl2 := bas_len ys
                  have hun := under_v key top h3 ht (d : Int)
                  have eu : decide (0 ≤ (d : Int) ∧ (d : Int) ≤ 256 ∧ (d : Int) ≤ (com key top : Int)) = und d key top := by
                    unfold und; rw [decide_eq_decide]; omega
                  rw [eu] at hun
                  have hbit := bit_v key h3 (d : Int)
                  have hpb : decide (pbit key (d : Int) = 1) = bitN key d := by
                    rw [pbit, if_pos (by omega), Int.toNat_natCast]; cases bitN key d <;> rfl
                  have hin := inner_v xh yh a2 b2
                  have hinl := innerH_len xh yh
                  rw [sdS_eq]
                  dsimp only
                  obtain ⟨zs, hzs⟩ : ∃ z, z = (if und d key top then ys ++ [if bitN key d then xh else yh] else ys) := ⟨_, rfl⟩
                  rw [← hzs]
                  have hsl3 := bas_len zs
                  obtain ⟨v, hv⟩ : ∃ v, v = (if bitN key d then xh else yh) := ⟨_, rfl⟩
                  have hvl : v.length = 32 := by rw [hv]; split <;> assumption
                  clear hX; have hX := And.intro @hbl (And.intro @hb0 (And.intro @ht (And.intro @q1 (And.intro @q2 (And.intro @q3 (And.intro @hs0 (And.intro @a2 (And.intro @b2 (And.intro @hfl (And.intro @hinl (And.intro @hsl2 (And.intro @hvl (@Nd.av.eq_1)))))))))))))
                  refine mW ?_; clear H; intro a w H
                  refine mCall [] [] (hri) H ?_; clear H; intro a w H; try refine wpList_nil ?_
                  refine mW ?_; clear H; intro a w H
                  refine mCall [0, 1, 2, 3] [] (ih2) H ?_; clear H; intro a w H; try refine wpList_nil ?_
                  refine mW ?_; clear H; intro a w H
                  refine mS ?_; refine mD 9 [6] [] H ?_; clear H; intro gS H
                  refine mT ?_; clear H; intro a w H
                  refine mCallT [] [] (hun) H ?_; clear H; intro a w H
                  refine mT ?_; clear H; intro a w H
                  refine v_drawNil H ?_; clear H; intro H
                  refine mW ?_; clear H; intro a w H
                  revert a w
                  apply cutG9 (R := fun a w => Rel Try.prog w0 N Try.f182.ntmps ⟨[(12, none, .ptr 8 []), (11, none, .v (.bool yo)), (10, none, .ptr 7 []), (6, none, .ptr 5 []), (0, none, .ptr 0 [])],
                    [(srdT, .st [.st [.ba fr, .ba to], .sl brT (brs yr) none, .ba (sum [0]), .vw 1 yk.length yk.length, .vw 2 yd.length yd.length, .ba key, .st [.vw 3 zs.length zs.length, ye.av]]), (.vc 52 (.ba 32), .vc yk.length (bas yk)), (.vc 50 (.ba 32), .vc yd.length (bas yd)), (.vc 50 (.ba 32), .vc zs.length (bas zs)), (.ba 32, .ba top), (.ba 32, .ba (List.replicate 32 0)), (brT, .st [.v (B8 2), .ba bkey, .ba bv, .ba bg]), (.ba 32, .ba xh), (.ba 32, .ba yh)], [], []⟩ a w)
                  · intro key1 a w H
                    refine mC H (fun hb => ?_) (fun hb => ?_)
                    · have q : ∀ v : List UInt8, v = (if bitN key d then xh else yh) → zs = ys ++ [v] := fun v hv => by rw [hzs, hb, if_pos rfl, hv]
                      refine mW ?_; clear H; intro a w H
                      refine mCall [] [] (hbit) H ?_; clear H; intro a w H; try refine wpList_nil ?_
                      refine mW ?_; clear H; intro a w H
                      simp only [hpb] at H
                      revert a w
                      apply cutG9 (R := fun a w => Rel Try.prog w0 N Try.f182.ntmps ⟨[(13, none, .ptr 9 []), (12, none, .ptr 8 []), (11, none, .v (.bool yo)), (10, none, .ptr 7 []), (6, none, .ptr 5 []), (0, none, .ptr 0 [])],
                        [(srdT, .st [.st [.ba fr, .ba to], .sl brT (brs yr) none, .ba (sum [0]), .vw 1 yk.length yk.length, .vw 2 yd.length yd.length, .ba key, .st [.vw 3 ys.length ys.length, ye.av]]), (.vc 52 (.ba 32), .vc yk.length (bas yk)), (.vc 50 (.ba 32), .vc yd.length (bas yd)), (.vc 50 (.ba 32), .vc ys.length (bas ys)), (.ba 32, .ba top), (.ba 32, .ba (List.replicate 32 0)), (brT, .st [.v (B8 2), .ba bkey, .ba bv, .ba bg]), (.ba 32, .ba xh), (.ba 32, .ba yh), (.ba 32, .ba v)], [], []⟩ a w)
                      · intro key2 a w H
                        refine mC H (fun hb => ?_) (fun hb => ?_)
                        · rw [hb, if_pos rfl] at hv
                          refine mW ?_; clear H; intro a w H
                          exact key2 _ _ (H.to 10 0 ⟨Nat.le_trans hN (Nat.le_of_ble_eq_true rfl), hR⟩ ⟨rfl, rfl, rfl, rfl, rfl, rfl, trivial⟩ (by rw [hv]; rfl) rfl rfl rfl rfl)
                        · rw [hb, if_neg (by decide)] at hv
                          refine mS ?_
                          exact key2 _ _ (H.to 10 0 ⟨Nat.le_trans hN (Nat.le_of_ble_eq_true rfl), hR⟩ ⟨rfl, rfl, rfl, rfl, rfl, rfl, trivial⟩ (by rw [hv]; rfl) rfl rfl rfl rfl)
                      intro a w H
                      have ez := q v hv
                      have l1 : ys.length + 1 = zs.length := by rw [ez, List.length_append]; rfl
                      have b1' : bas ys ++ [.ba v] = bas zs := by rw [ez]; simp [bas]
                      have t1 : (bas ys).take ys.length = bas ys := List.take_of_length_le (by omega)
                      repeat (first | refine wp_seq ?_ | refine wp_block ?_)
                      refine v_drawZ 0 [0, 1, 2, 3, 4, 5, 6, 7, 8, 9, 10, 11, 12] [5, 6, 7, 8, 12] [0, 1, 2, 3, 4] [(5, 6), (5, 7), (1007, 6)] (by kernel_rfl) (by kernel_rfl) (by kernel_rfl) (by kernel_rfl) (by kernel_rfl) H (by rfl) ?_; clear H; intro gS H; try replace H := ntf H
                      repeat' ((first | refine wpZ_q1 rfl rfl ?_ | refine wpZ_l1 rfl rfl rfl ?_ | refine wpZ_l2 rfl rfl rfl rfl rfl ?_ ?_ | refine wpZ_l3 rfl rfl rfl rfl rfl rfl rfl ?_ ?_ ?_ | refine wpZ_l4 rfl rfl rfl rfl rfl rfl rfl rfl rfl ?_ ?_ ?_ ?_) <;> (first | (refine v_someT 1 tab_ok hN H rfl ctX ?_; clear H; intro a w H; replace H := ntf H; simp only [List.drop_succ_cons, List.drop_zero, List.drop_nil])); refine wpT_nil ?_; try dsimp only)
                      all_goals (refine wpZ_nil ?_; replace H := RelT.toRel H)
                      all_goals
                        refine mS ?_
                        simp only [t1, l1, b1'] at H
                        exact key1 _ _ (H.to 9 0 ⟨Nat.le_trans hN (Nat.le_of_ble_eq_true rfl), hR⟩ ⟨rfl, rfl, rfl, rfl, rfl, trivial⟩ rfl rfl rfl rfl rfl)
                    · have e1 : zs = ys := by rw [hzs, hb, if_neg (by decide)]
                      refine mS ?_
                      rw [← e1] at H
                      exact key1 _ _ (H.to 9 0 ⟨Nat.le_trans hN (Nat.le_of_ble_eq_true rfl), hR⟩ ⟨rfl, rfl, rfl, rfl, rfl, trivial⟩ rfl rfl rfl rfl rfl)
                  intro a w H
                  refine mW ?_; clear H; intro a w H
                  refine mCall [] [] (hin) H ?_; clear H; intro a w H; try refine wpList_nil ?_
                  refine mW ?_; clear H; intro a w H
                  refine wp_ret ?_; exact mEnd [0, 1, 2, 3] [] [.cell 6 50, .tmp 7] [_, _] hN hR H
end Go.Proofs.Ytigmpdhnhkdeiaa
/- Keys as ways down: the document's functions. -/
namespace Go.Proofs.Ytigmpdhnhkdeiaa
open Go Go.RowKit
end Go.Proofs.Ytigmpdhnhkdeiaa
/- Digests of the empty place, of leaves, of inner nodes: the document's. -/
namespace Go.Proofs.Ytigmpdhnhkdeiaa
open Go Go.RowKit
end Go.Proofs.Ytigmpdhnhkdeiaa
/- A contract that says less: rows that nobody will make longer. -/
namespace Go.Proofs.Ytigmpdhnhkdeiaa
open Go Go.RowKit
end Go.Proofs.Ytigmpdhnhkdeiaa
/- Proofs as bytes: how they are read. -/
namespace Go.Proofs.Ytigmpdhnhkdeiaa
open Go Go.RowKit
/-- The sides that marks and bytes say, what is left, and whether bytes were lacking. -/
def runS : List Bool → List UInt8 → List (List UInt8) × List UInt8 × Bool
  | [], r => ([], r, false)
  | m :: ms, r => if m = true ∧ r.length < 32 then ([E0], r, true) else ((if m then r.take 32 else E0) :: (runS ms (if m then r.drop 32 else r)).1, (runS ms (if m then r.drop 32 else r)).2)
def marksOf (bits : List UInt8) (n : Nat) : List Bool := (List.range n).map fun i => bitAt (bits.getD (i / 8) 0) (i % 8)
def rdQ (l : List UInt8) : Pf × Bool :=
  if l.length < 2 then (⟨[], .zero⟩, false) else
  if 256 < num 0 (l.take 2) then (⟨[], .zero⟩, false) else
  if (l.drop 2).length < (num 0 (l.take 2) + 7) / 8 then (⟨[], .zero⟩, false) else
  let x := runS (marksOf ((l.drop 2).take ((num 0 (l.take 2) + 7) / 8)) (num 0 (l.take 2))) ((l.drop 2).drop ((num 0 (l.take 2) + 7) / 8))
  if x.2.2 then (⟨x.1, .zero⟩, false) else (⟨x.1, dec x.2.1⟩, decide (decOk x.2.1))
end Go.Proofs.Ytigmpdhnhkdeiaa
/- Proofs as bytes: read, and told again. -/
namespace Go.Proofs.Ytigmpdhnhkdeiaa
open Go Go.RowKit
theorem cmp_zero : ∀ x y : List UInt8, Lib.compareBytes x y = 0 ↔ x = y
  | [], [] => by simp [Lib.compareBytes]
  | [], _ :: _ => by simp [Lib.compareBytes]
  | _ :: _, [] => by simp [Lib.compareBytes]
  | x :: l, y :: m => by
    have ih := cmp_zero l m
    simp only [Lib.compareBytes]
    split
    · rename_i h; simp only [List.cons.injEq]; constructor
      · intro e; cases e
      · rintro ⟨rfl, _⟩; exact absurd h (by simp)
    · split
      · rename_i h; simp only [List.cons.injEq]; constructor
        · intro e; cases e
        · rintro ⟨rfl, _⟩; exact absurd h (by simp)
      · rename_i h1 h2
        have : x = y := by
          apply UInt8.toNat_inj.1
          have h1 := h1; have h2 := h2
          simp [UInt8.lt_iff_toNat_lt] at h1 h2
          omega
        subst this; simpa using ih
def Pf.zero : Pf := ⟨[], .zero⟩
def pOk (l : List UInt8) : Prop := (rdQ l).2 = true ∧ (rdQ l).1.chk = 0 ∧ (rdQ l).1.text = l
instance (l : List UInt8) : Decidable (pOk l) := inferInstanceAs (Decidable (_ ∧ _))
end Go.Proofs.Ytigmpdhnhkdeiaa
/- The digest at the top of a way: node.Up, and the document's. -/
namespace Go.Proofs.Ytigmpdhnhkdeiaa
open Go Go.RowKit
/-- One step up. -/
def stepH (key : List UInt8) (d : Nat) (x h : List UInt8) : List UInt8 := if bitN key d then innerH x h else innerH h x
/-- From the sides from the depth d on. -/
def upL (key : List UInt8) : Nat → List (List UInt8) → List UInt8 → List UInt8
  | _, [], h => h
  | d, x :: r, h => stepH key d x (upL key (d + 1) r h)
theorem stepH_len (key : List UInt8) (d : Nat) (x h : List UInt8) : (stepH key d x h).length = 32 := by unfold stepH; split <;> exact innerH_len _ _
theorem upL_len (key : List UInt8) (h : List UInt8) (hh : h.length = 32) : ∀ d s, (upL key d s h).length = 32
  | _, [] => hh
  | _, _ :: _ => stepH_len _ _ _ _
theorem upL_drop (key : List UInt8) (s : List (List UInt8)) (h : List UInt8) (k : Nat) (hk : k < s.length) : upL key k (s.drop k) h = stepH key k (s.getD k []) (upL key (k + 1) (s.drop (k + 1)) h) := by
  rw [List.drop_eq_getElem_cons hk, List.getElem_eq_getD []]; rfl
def topH (key : List UInt8) (p : Pf) : List UInt8 := upL key 0 p.s (sum p.e.text)
theorem topH_len (key : List UInt8) (p : Pf) : (topH key p).length = 32 := upL_len _ _ (sum_length _) _ _
theorem chk_all {p : Pf} (h : p.chk = 0) : p.s.length ≤ 256 ∧ p.e.ok ∧ p.e.k ≠ 2 := by
  unfold Pf.chk at h
  split at h
  · cases h
  · split at h
    · rename_i h1 h2; exact ⟨by omega, h2⟩
    · cases h
set_option maxRecDepth 20000 in
set_option maxHeartbeats 1000000 in
theorem up_v (key : List UInt8) (hk32 : key.length = 32) (p : Pf) (hw : p.wf) (h : p.chk = 0) : VC Try.prog 53 [.ba key, p.av] [] (.tup [.ba (topH key p), errv 0]) := by
  obtain ⟨hle, hok, hk2⟩ := chk_all h
  obtain ⟨s, n⟩ := p
  dsimp only at hle hok hk2
  have hs := hw.s
  have hsl := bas_len s
  have hdg := digest_ok n hw.e hok
  obtain ⟨h1, h2, h3, h4⟩ := id hw.e
  dsimp only at h1 h2 h3 h4 hs
  have hz2 := z32_len
  have hd2 : decide ((n.k.toNat : Int) = 2) = false := decide_eq_false fun e => hk2 (UInt8.toNat_inj.1 (by simp; omega))
  unfold topH
  obtain ⟨h0, hh0⟩ : ∃ h0, h0 = sum n.text := ⟨_, rfl⟩
  have h0l : h0.length = 32 := by rw [hh0]; exact sum_length _
  rw [← hh0] at hdg
  dsimp only
  rw [← hh0]
  clear hh0 hok hk2 h hw
  refine mE Try.func53 ?_; intro N w0 a w hN hR H
  simp only [Pf.av, Nd.av] at H hdg
  have hX := @hsl
  refine mW ?_; clear H; intro a w H
  refine mC H (fun hb => ?_) (fun hb => ?_)
  · exfalso; rw [decide_eq_true_eq] at hb; omega
  · refine mW ?_; clear H; intro a w H
    refine mCall [] [] (hdg) H ?_; clear H; intro a w H; try refine wpList_nil ?_
    refine mW ?_; clear H; intro a w H
    refine mC H (fun hb => ?_) (fun hb => ?_)
    · exfalso; simp only [hd2] at hb; simp at hb
    · clear hb
      refine mW ?_; clear H; intro a w H
      refine v_loop (fun k : Nat => ⟨[(8, none, .v (.int .i64 ((k : Int) - 1))), (6, none, .ptr 3 []), (5, none, .v (.int .i64 0)), (4, none, .ptr 2 []), (3, none, .ptr 1 []), (2, none, .ptr 0 [])],
        [(.ba 32, .ba key), (ti68.ty, .st [.sl (.ba 32) (bas s) none, .st [.v (B8 n.k), .ba n.key, .ba n.v, .ba n.l, .ba n.r]]), (.ba 32, .ba z32), (.ba 32, .ba (upL key k (s.drop k) h0))], [], []⟩)
        (fun k => k ≤ s.length) (fun k => k) s.length (Nat.le_refl _) (H.to 4 0 ⟨Nat.le_trans hN (by decide), hR⟩ ⟨rfl, rfl, rfl, rfl, rfl, rfl, trivial⟩ (by rw [List.drop_length]; rfl) rfl rfl rfl rfl) ?_
      clear H
      intro k a w hk H
      have hul := upL_len key h0 h0l k (s.drop k)
      refine mW ?_; clear H; intro a w H
      refine mC H (fun hb => ?_) (fun hb => ?_)
      · obtain ⟨j, rfl⟩ : ∃ j, k = j + 1 := ⟨k - 1, by rw [decide_eq_true_eq] at hb; omega⟩
        clear hb
        have hj : j < s.length := hk
        have e1 : (((j + 1 : Nat) : Int) - 1) = (j : Int) := by omega
        rw [e1] at H
        have hbit := bit_v key hk32 (j : Int)
        have hj256 : j < 256 := by omega
        have hpb : decide (pbit key (j : Int) = 0) = !bitN key j := by
          rw [pbit, if_pos (by omega), Int.toNat_natCast]; cases bitN key j <;> rfl
        have hup := upL_drop key s h0 j hj
        have hg := bas_get s j hj
        rw [List.getElem_eq_getD []] at hg
        have hx : (s.getD j []).length = 32 := by rw [← List.getElem_eq_getD (h := hj) []]; exact hs _ (List.getElem_mem _)
        generalize s.getD j [] = x at *
        generalize upL key (j + 1) (s.drop (j + 1)) h0 = u at *
        have hin1 := inner_v u x hul hx
        have hin2 := inner_v x u hx hul
        have hil1 := innerH_len u x
        have hil2 := innerH_len x u
        refine mW ?_; clear H; intro a w H
        refine mCall [] [] (hbit) H ?_; clear H; intro a w H; try refine wpList_nil ?_
        refine mW ?_; clear H; intro a w H
        simp only [hpb] at H
        refine mC H (fun hb => ?_) (fun hb => ?_)
        · have hbf : bitN key j = false := by cases h : bitN key j; rfl; rw [h] at hb; simp at hb
          have hst : stepH key j x u = innerH u x := by unfold stepH; rw [hbf]; rfl
          rw [hst] at hup
          clear hb
          refine mW ?_; clear H; intro a w H
          clear hX; have hX := And.intro @hsl (@hg)
          have hY := And.intro @hsl (@hx)
          refine mS ?_; refine mD 0 [6, 7] [] H ?_; clear H; intro gS H
          refine mTN 3 hN H ?_; clear H; intro a w H; simp only [List.drop_succ_cons, List.drop_zero, List.drop_nil]
          refine mTN 2 hN H ?_; clear H; intro a w H; simp only [List.drop_succ_cons, List.drop_zero, List.drop_nil]
          refine mTN 1 hN H ?_; clear H; intro a w H; simp only [List.drop_succ_cons, List.drop_zero, List.drop_nil]
          refine mCallT [] [] (hin1) H ?_; clear H; intro a w H
          refine mT ?_; clear H; intro a w H
          refine v_drawNil H ?_; clear H; intro H
          clear hX; have hX := @hsl
          clear hY
          refine mW ?_; clear H; intro a w H
          exact ⟨j, by omega, by omega, H.to 4 0 ⟨Nat.le_trans hN (by decide), hR⟩ ⟨rfl, rfl, rfl, rfl, rfl, rfl, trivial⟩ (by dsimp only; rw [hup]; rfl) rfl rfl rfl rfl⟩
        · have hbt : bitN key j = true := by cases h : bitN key j; (rw [h] at hb; simp at hb); rfl
          have hst : stepH key j x u = innerH x u := by unfold stepH; rw [hbt]; rfl
          rw [hst] at hup
          clear hb
          refine mW ?_; clear H; intro a w H
          clear hX; have hX := And.intro @hsl (@hg)
          have hY := And.intro @hsl (@hx)
          refine mS ?_; refine mD 0 [6, 7] [] H ?_; clear H; intro gS H
          refine mTN 2 hN H ?_; clear H; intro a w H; simp only [List.drop_succ_cons, List.drop_zero, List.drop_nil]
          refine mTN 2 hN H ?_; clear H; intro a w H; simp only [List.drop_succ_cons, List.drop_zero, List.drop_nil]
          refine mTN 2 hN H ?_; clear H; intro a w H; simp only [List.drop_succ_cons, List.drop_zero, List.drop_nil]
          refine mCallT [] [] (hin2) H ?_; clear H; intro a w H
          refine mT ?_; clear H; intro a w H
          refine v_drawNil H ?_; clear H; intro H
          clear hX; have hX := @hsl
          clear hY
          refine mW ?_; clear H; intro a w H
          exact ⟨j, by omega, by omega, H.to 4 0 ⟨Nat.le_trans hN (by decide), hR⟩ ⟨rfl, rfl, rfl, rfl, rfl, rfl, trivial⟩ (by dsimp only; rw [hup]; rfl) rfl rfl rfl rfl⟩
      · have hge : k = 0 := by rw [decide_eq_false_iff_not] at hb; omega
        subst hge
        rw [List.drop_zero] at H hul
        refine mW ?_; clear H; intro a w H
        refine wp_ret ?_; exact mEnd [] [] [.cell 4 50, .tmp 5] [_, _] hN hR H
end Go.Proofs.Ytigmpdhnhkdeiaa
/- What a tree of digests says of a key (plain). -/
namespace Go.Proofs.Ytigmpdhnhkdeiaa
open Go Go.RowKit
theorem agree_trans' {d : Nat} {p q top : List UInt8} (h : agree d p top) (k : agree d q top) : agree d p q := fun t ht => (h t ht).trans (k t ht).symm
/-- All leaves lie where they are. -/
theorem rd_und {op : List UInt8 → Nat → Bool} : ∀ {f : Nat} {top : List UInt8} {d : Nat} {l : List Br} {t : Tr} {r : List Br}, f + d = 257 → Low d top → rdTr op f top d l = some (t, r) → ∀ x ∈ t.leaves, und d x.1 top = true
  | 0, top, d, l, t, r, _, _, h => by simp [rdTr] at h
  | f + 1, top, d, [], t, r, _, _, h => by simp [rdTr] at h
  | f + 1, top, d, b :: rest, t, r, hf, hl, h => by
    unfold rdTr at h
    split at h
    · cases h
    · split at h
      · simp only [Option.some.injEq, Prod.mk.injEq] at h; obtain ⟨rfl, rfl⟩ := h; intro x hx; cases hx
      · split at h
        · split at h
          · cases h
          · simp only [Option.some.injEq, Prod.mk.injEq] at h; obtain ⟨rfl, rfl⟩ := h; intro x hx; cases hx
        · split at h
          · cases h
          · split at h
            · split at h
              · rename_i h6
                simp only [Option.some.injEq, Prod.mk.injEq] at h; obtain ⟨rfl, rfl⟩ := h; intro x hx
                simp only [Tr.leaves, List.mem_singleton] at hx; subst hx; exact h6
              · cases h
            · split at h
              · cases h
              · have hd : d < 256 := by omega
                split at h
                · cases h
                · rename_i x r1 e1
                  split at h
                  · cases h
                  · rename_i y r2 e2
                    simp only [Option.some.injEq, Prod.mk.injEq] at h; obtain ⟨rfl, rfl⟩ := h
                    intro z hz
                    simp only [Tr.leaves, List.mem_append] at hz
                    rcases hz with hz | hz
                    · have := rd_und (by omega) hl.up e1 z hz
                      rw [und_left hd hl, Bool.and_eq_true] at this; exact this.1
                    · have := rd_und (by omega) (hl.flip hd) e2 z hz
                      rw [und_right hd hl, Bool.and_eq_true] at this; exact this.1
structure Said (k : List UInt8) (d : Nat) (t : Tr) : Prop where
  up : upL k d (t.way k d) (sum (t.fin k d Nd.zero).text) = t.dg
  len : d + (t.way k d).length ≤ 256
  cases : (t.fin k d Nd.zero = Nd.zero ∧ ∀ v, (k, v) ∉ t.leaves) ∨ ∃ x, x ∈ t.leaves ∧ t.fin k d Nd.zero = Nd.one x.1 x.2 ∧ agree (d + (t.way k d).length) x.1 k ∧ ∀ v, (k, v) ∈ t.leaves → x = (k, v)
theorem rd_said {op : List UInt8 → Nat → Bool} {k : List UInt8} (hop : ∀ top d, d ≤ 256 → und d k top = true → op top d = true) : ∀ {f : Nat} {top : List UInt8} {d : Nat} {l : List Br} {t : Tr} {r : List Br}, f + d = 257 → Low d top → rdTr op f top d l = some (t, r) → und d k top = true → Said k d t
  | 0, top, d, l, t, r, _, _, h, _ => by simp [rdTr] at h
  | f + 1, top, d, [], t, r, _, _, h, _ => by simp [rdTr] at h
  | f + 1, top, d, b :: rest, t, r, hf, hl, h, hu => by
    have ho := hop top d (by omega) hu
    unfold rdTr at h
    split at h
    · cases h
    · split at h
      · simp only [Option.some.injEq, Prod.mk.injEq] at h; obtain ⟨rfl, rfl⟩ := h
        exact ⟨by simp [Tr.way, Tr.fin, Tr.dg, upL, zero_text], by simp [Tr.way]; omega, .inl ⟨rfl, fun v hv => by cases hv⟩⟩
      · split at h
        · simp [ho] at h
        · split at h
          · cases h
          · split at h
            · split at h
              · rename_i h6
                simp only [Option.some.injEq, Prod.mk.injEq] at h; obtain ⟨rfl, rfl⟩ := h
                refine ⟨by simp [Tr.way, Tr.fin, Tr.dg, upL, Nd.text, Nd.one, leafH], by simp [Tr.way]; omega, .inr ⟨(b.key, b.v), List.mem_singleton.2 rfl, rfl, ?_, fun v hv => (List.mem_singleton.1 hv).symm⟩⟩
                simp only [Tr.way, List.length_nil, Nat.add_zero]
                exact agree_trans' ((und_iff (by omega)).1 h6) ((und_iff (by omega)).1 hu)
              · cases h
            · split at h
              · cases h
              · have hd : d < 256 := by omega
                split at h
                · cases h
                · rename_i x r1 e1
                  split at h
                  · cases h
                  · rename_i y r2 e2
                    simp only [Option.some.injEq, Prod.mk.injEq] at h; obtain ⟨rfl, rfl⟩ := h
                    have ux := rd_und (by omega) hl.up e1
                    have uy := rd_und (by omega) (hl.flip hd) e2
                    cases hb : bitN k d
                    · have hs := rd_said hop (by omega) hl.up e1 (by rw [und_left hd hl, hu, hb]; rfl)
                      have hno : ∀ v, (k, v) ∉ y.leaves := fun v hv => by
                        have := uy _ hv
                        rw [und_right hd hl, hb, Bool.and_false] at this; cases this
                      refine ⟨?_, ?_, ?_⟩
                      · simp only [Tr.way, Tr.fin, Tr.dg, hb, Bool.false_eq_true, if_false, upL, stepH, hs.up]
                      · have := hs.len; simp only [Tr.way, hb, Bool.false_eq_true, if_false, List.length_cons]; omega
                      · simp only [Tr.way, Tr.fin, hb, Bool.false_eq_true, if_false, List.length_cons, Tr.leaves, List.mem_append]
                        rcases hs.cases with ⟨h1, h2⟩ | ⟨z, h1, h2, h3, h4⟩
                        · exact .inl ⟨h1, fun v hv => hv.elim (h2 v) (hno v)⟩
                        · exact .inr ⟨z, .inl h1, h2, by rw [show d + ((x.way k (d + 1)).length + 1) = d + 1 + (x.way k (d + 1)).length by omega]; exact h3, fun v hv => hv.elim (h4 v) fun h => absurd h (hno v)⟩
                    · have hs := rd_said hop (by omega) (hl.flip hd) e2 (by rw [und_right hd hl, hu, hb]; rfl)
                      have hno : ∀ v, (k, v) ∉ x.leaves := fun v hv => by
                        have := ux _ hv
                        rw [und_left hd hl, hb, Bool.not_true, Bool.and_false] at this; cases this
                      refine ⟨?_, ?_, ?_⟩
                      · simp only [Tr.way, Tr.fin, Tr.dg, hb, if_true, upL, stepH, hs.up]
                      · have := hs.len; simp only [Tr.way, hb, if_true, List.length_cons]; omega
                      · simp only [Tr.way, Tr.fin, hb, if_true, List.length_cons, Tr.leaves, List.mem_append]
                        rcases hs.cases with ⟨h1, h2⟩ | ⟨z, h1, h2, h3, h4⟩
                        · exact .inl ⟨h1, fun v hv => hv.elim (hno v) (h2 v)⟩
                        · exact .inr ⟨z, .inr h1, h2, by rw [show d + ((y.way k (d + 1)).length + 1) = d + 1 + (y.way k (d + 1)).length by omega]; exact h3, fun v hv => hv.elim (fun h => absurd h (hno v)) (h4 v)⟩
/-- What is read has what the parts have. -/
theorem rd_parts {op : List UInt8 → Nat → Bool} : ∀ {f : Nat} {top : List UInt8} {d : Nat} {l : List Br} {t : Tr} {r : List Br}, rdTr op f top d l = some (t, r) → (∀ b ∈ l, b.wf) → (∀ b ∈ r, b.wf) ∧ t.dg.length = 32 ∧ (∀ x ∈ t.leaves, x.1.length = 32 ∧ x.2.length = 32) ∧ (∀ k d, ∀ g ∈ t.way k d, g.length = 32) ∧ r.length < l.length ∧ t.leaves.length + r.length ≤ l.length
  | 0, top, d, l, t, r, h, _ => by simp [rdTr] at h
  | f + 1, top, d, [], t, r, h, _ => by simp [rdTr] at h
  | f + 1, top, d, b :: rest, t, r, h, hw => by
    have hw2 : ∀ b ∈ rest, b.wf := fun b hb => hw b (List.mem_cons_of_mem _ hb)
    have hb := hw b List.mem_cons_self
    unfold rdTr at h
    split at h
    · cases h
    · split at h
      · simp only [Option.some.injEq, Prod.mk.injEq] at h; obtain ⟨rfl, rfl⟩ := h
        exact ⟨hw2, sum_length _, fun x hx => (by cases hx), fun k d g hg => by simp [Tr.way] at hg, by simp, by simp [Tr.leaves]⟩
      · split at h
        · split at h
          · cases h
          · simp only [Option.some.injEq, Prod.mk.injEq] at h; obtain ⟨rfl, rfl⟩ := h
            exact ⟨hw2, hb.g, fun x hx => (by cases hx), fun k d g hg => by simp [Tr.way] at hg, by simp, by simp [Tr.leaves]⟩
        · split at h
          · cases h
          · split at h
            · split at h
              · simp only [Option.some.injEq, Prod.mk.injEq] at h; obtain ⟨rfl, rfl⟩ := h
                refine ⟨hw2, leafH_len _ _, fun x hx => ?_, fun k d g hg => by simp [Tr.way] at hg, by simp, by simp [Tr.leaves]; omega⟩
                simp only [Tr.leaves, List.mem_singleton] at hx; subst hx; exact ⟨hb.key, hb.v⟩
              · cases h
            · split at h
              · cases h
              · split at h
                · cases h
                · rename_i x r1 e1
                  split at h
                  · cases h
                  · rename_i y r2 e2
                    simp only [Option.some.injEq, Prod.mk.injEq] at h; obtain ⟨rfl, rfl⟩ := h
                    obtain ⟨a1, a2, a3, a4, a5, a6⟩ := rd_parts e1 hw2
                    obtain ⟨b1, b2, b3, b4, b5, b6⟩ := rd_parts e2 a1
                    refine ⟨b1, innerH_len _ _, fun z hz => ?_, fun k d g hg => ?_, by simp; omega, by simp [Tr.leaves]; omega⟩
                    · simp only [Tr.leaves, List.mem_append] at hz
                      exact hz.elim (a3 z) (b3 z)
                    · simp only [Tr.way] at hg
                      split at hg
                      · rcases List.mem_cons.1 hg with rfl | hg
                        · exact a2
                        · exact b4 _ _ _ hg
                      · rcases List.mem_cons.1 hg with rfl | hg
                        · exact b2
                        · exact a4 _ _ _ hg
end Go.Proofs.Ytigmpdhnhkdeiaa
/- slices.Reverse of digests, in memory that may be written. -/
namespace Go.Proofs.Ytigmpdhnhkdeiaa
open Go Go.RowKit
def revG (n k : Nat) (g : Nat → List UInt8) (t : Nat) : List UInt8 := if t < k ∨ n ≤ t + k then g (n - 1 - t) else g t
def revF (n k : Nat) (g : Nat → List UInt8) : List AV := (List.range n).map fun t => .ba (revG n k g t)
theorem revF_len (n k : Nat) (g : Nat → List UInt8) : (revF n k g).length = n := by simp [revF]
theorem revF_get (n k : Nat) (g : Nat → List UInt8) (t : Nat) (h : t < n) : (revF n k g).getD t .any = .ba (revG n k g t) := by simp [revF, List.getD_eq_getElem?_getD, h]
theorem revF_zero (ls : List (List UInt8)) : revF ls.length 0 (fun t => ls.getD t []) = bas ls := by
  apply List.ext_getElem (by simp [revF, bas])
  intro i h1 h2
  simp [revF] at h1
  simp [revF, bas, revG, h1]
  omega
theorem revF_end (ls : List (List UInt8)) (k : Nat) (hk : ls.length ≤ 2 * k + 1) : revF ls.length k (fun t => ls.getD t []) = bas ls.reverse := by
  apply List.ext_getElem (by simp [revF, bas])
  intro i h1 h2
  simp [revF] at h1
  simp only [revF, bas, revG, List.getElem_map, List.getElem_range, List.getElem_reverse, AV.ba.injEq]
  split
  · rw [List.getD_eq_getElem?_getD, List.getElem?_eq_getElem (by omega)]; rfl
  · rw [List.getD_eq_getElem?_getD, List.getElem?_eq_getElem (by omega)]
    have : i = ls.length - 1 - i := by omega
    simp only [Option.getD_some]; congr 1
theorem revF_step (n k : Nat) (g : Nat → List UInt8) (h : 2 * k + 1 < n) : ((revF n k g).set k (.ba (g (n - 1 - k)))).set (n - 1 - k) (.ba (g k)) = revF n (k + 1) g := by
  apply List.ext_getElem (by simp [revF])
  intro i h1 h2
  simp [revF] at h2
  rw [List.getElem_set]
  split
  · rename_i e; subst e
    simp only [revF, revG, List.getElem_map, List.getElem_range, AV.ba.injEq]
    rw [if_pos (by omega), show n - 1 - (n - 1 - k) = k by omega]
  · rw [List.getElem_set]
    split
    · rename_i e; subst e
      simp only [revF, revG, List.getElem_map, List.getElem_range, AV.ba.injEq]
      rw [if_pos (by omega)]
    · simp only [revF, revG, List.getElem_map, List.getElem_range, AV.ba.injEq]
      by_cases hh : i < k ∨ n ≤ i + k
      · rw [if_pos hh, if_pos (by omega)]
      · rw [if_neg hh, if_neg (by omega)]
set_option maxRecDepth 20000 in
theorem revV_v (ls : List (List UInt8)) (γ : Nat) (hl : ls.length ≤ 1000000) (h32 : ∀ x ∈ ls, x.length = 32) :
    VX Try.prog 180 [(.vc 50 (.ba 32), .vc γ (bas ls))] [] [] [.vw 0 γ ls.length] [(.vc 50 (.ba 32), .vc γ (bas ls.reverse))] [] [] (.tup []) := by
  rw [← revF_zero ls]
  have hend := revF_end ls
  obtain ⟨g, hg⟩ : ∃ g : Nat → List UInt8, g = fun t => ls.getD t [] := ⟨_, rfl⟩
  have hg32 : ∀ t, t < ls.length → (g t).length = 32 := fun t ht => by
    rw [hg]; dsimp only; rw [List.getD_eq_getElem?_getD, List.getElem?_eq_getElem ht]; exact h32 _ (List.getElem_mem ht)
  rw [← hg] at hend ⊢
  generalize ls.reverse = lr at *
  generalize ls.length = n at *
  clear hg h32
  have hl0 := revF_len n 0 g
  have e00 : (n : Int) - 1 - ((0 : Nat) : Int) = (n : Int) - 1 := by omega
  refine mE Try.func180 ?_; intro N w0 a w hN hR H
  refine mW ?_; clear H; intro a w H
  refine v_loop (fun k : Nat => ⟨[(3, none, .v (.int .i64 ((n : Int) - 1 - (k : Int)))), (2, none, .v (.int .i64 (k : Int))), (0, none, .vw 0 γ n)], [(.vc 50 (.ba 32), .vc γ (revF n k g))], [], []⟩) (fun k => 2 * k ≤ n) (fun k => n - k) 0 (by omega)
    (H.to 1 0 ⟨Nat.le_trans hN (Nat.le_of_ble_eq_true rfl), hR⟩ ⟨by rw [e00]; rfl, rfl, rfl, trivial⟩ rfl rfl rfl rfl rfl) ?_
  clear H
  intro k a w hk H
  have hlk := revF_len n k g
  have hX := @hlk
  refine mW ?_; clear H; intro a w H
  refine mC H (fun hb => ?_) (fun hb => ?_)
  · have hlt : 2 * k + 1 < n := by rw [decide_eq_true_eq] at hb; omega
    clear hb
    have e1 : ((n : Int) - 1 - (k : Int)).toNat = n - 1 - k := by omega
    have g1 := revF_get n k g k (by omega)
    have g2 := revF_get n k g (n - 1 - k) (by omega)
    have r1 : revG n k g k = g k := by unfold revG; rw [if_neg (by omega)]
    have r2 : revG n k g (n - 1 - k) = g (n - 1 - k) := by unfold revG; rw [if_neg (by omega)]
    rw [r1] at g1
    rw [r2] at g2
    have q1 := hg32 k (by omega)
    have q2 := hg32 (n - 1 - k) (by omega)
    have hst := revF_step n k g hlt
    clear hX; have hX := And.intro @hlk (And.intro @e1 (And.intro @g1 (And.intro @g2 (And.intro @q1 (@q2)))))
    refine mS ?_; refine mD 0 [13, 15] [2, 3] H ?_; clear H; intro gS H
    refine mT ?_; clear H; intro a w H
    refine v_drawNil H ?_; clear H; intro H
    refine mW ?_; clear H; intro a w H
    rw [hst, show (n : Int) - 1 - (k : Int) - 1 = (n : Int) - 1 - ((k + 1 : Nat) : Int) by omega, show (k : Int) + 1 = ((k + 1 : Nat) : Int) by omega] at H
    exact ⟨k + 1, by omega, by omega, H.to 1 0 ⟨Nat.le_trans hN (Nat.le_of_ble_eq_true rfl), hR⟩ ⟨rfl, rfl, rfl, trivial⟩ rfl rfl rfl rfl rfl⟩
  · have hge : n ≤ 2 * k + 1 := by rw [decide_eq_false_iff_not] at hb; omega
    rw [hend k hge] at H
    refine mW ?_; clear H; intro a w H
    exact mEnd [0] [] [] [] hN hR H
end Go.Proofs.Ytigmpdhnhkdeiaa
/- A growing array that a field points to is turned to stay as it is. -/
namespace Go.Proofs.Ytigmpdhnhkdeiaa
open Go Go.RowKit
section
variable {P : Program} {w0 w : World} {N : Gh} {g : Gh} {st : St} {nt : Nat} {a : Act}
theorem v_frzB (H : Rel P w0 N nt st a w) (i j : Nat) (path : List Nat) {e γ n o : Nat} {T Tj : Ty} {x : AV} {es : List AV} (hN : N.bx.length ≤ i) (hb : st.bx[i]? = some (.vc e T, .vc γ es)) (hj : st.bx[j]? = some (Tj, x)) (hT : Tj.loc path = some (o, .sc)) (hx : x.loc path = some (.vw i γ n)) (hn : n ≤ es.length) :
    Rel P w0 N nt ⟨st.t, st.bx.set j (Tj, x.put path (.sl T (es.take n) none)), i :: st.fz, st.rw⟩ a w := by
  obtain ⟨g, HI, hF⟩ := H
  obtain ⟨y, hy, hyT, hbc⟩ := HI.br.at_ i _ _ hb
  obtain ⟨T2, F, sp, ⟨e2, he2, htid⟩, hmp, hgen, h0, hcm, hcs, hcl, hsp, hFk⟩ := hbc.vc_inv
  injection he2 with he20 he2; subst he20 he2
  have htl : (es.take n).length = n := by rw [List.length_take]; omega
  have key : ∀ g1, g.lex g1 → Inv P w0 N g1 st.bx (i :: st.fz) st.rw w → (∀ u, RC g1 .sc (.vw i γ n) [u] → RC g1 .sc (.sl T (es.take n) none) [u]) → Rel P w0 N nt ⟨st.t, st.bx.set j (Tj, x.put path (.sl T (es.take n) none)), i :: st.fz, st.rw⟩ a w := by
    intro g1 l1 I1 hu
    obtain ⟨xj, hxj, hxT, hbj⟩ := I1.br.at_ j _ _ hj
    obtain ⟨hjo, hjm, hrc⟩ := hbj.rc (Ty.loc_grows hT)
    obtain ⟨a', ha', pre, mid, post, hc, hpl, hmid, hput⟩ := hrc.lens hT
    rw [hx] at ha'; injection ha' with ha'; subst ha'
    obtain ⟨u, rfl⟩ : ∃ u, mid = [u] := by
      cases hmid with
      | vw => exact ⟨_, rfl⟩
    have h2 := hput _ _ (hu u hmid)
    rw [← hc] at h2
    subst hxT
    refine ⟨g1, I1.re hxj (BC.pl h2 hjo hjm), (hF.mono l1.1).sz, hF.df, fun p hp hg => (hF.mono l1.1).t p hp hg, fun p hp hg => hF.u p hp hg⟩
  cases ho : y.off with
  | true =>
    refine key g (Gh.lex.refl g) ⟨HI.mem, HI.fr, HI.br, fun j x hj hf => List.mem_cons_of_mem _ (HI.fz j x hj hf), HI.wr, HI.wz⟩ fun u hu => ?_
    obtain ⟨_, y', e3, T3, A, c, hval, hy', hty', hle, hnc, hm, hxx⟩ := hu.vw_inv
    rw [hy] at hy'; injection hy' with hy'; subst hy'
    injection hval with hval; subst hval
    obtain ⟨hcc, hA⟩ := hxx hgen
    have hc0 : c = 0 := by rw [hcc]; exact hcm.2 ho
    rcases hA with ⟨_, hA⟩ | ⟨h, _⟩
    · rw [hA, hc0, show n = 0 by omega]
      exact RC.nil2 (by simp)
    · rw [ho] at h; cases h
  | false =>
    obtain ⟨g1, l1, I1, ⟨y1, hy1, q1, q2, q3, q4, q5, q6⟩, hro⟩ := HI.freeze hy ho hmp hN
    refine key g1 l1 I1 fun u hu => ?_
    obtain ⟨_, y', e3, T3, A, c, hval, hy', hty', hle, hnc, hm, hxx⟩ := hu.vw_inv
    rw [hy1] at hy'; injection hy' with hy'; subst hy'
    injection hval with hval; subst hval
    obtain ⟨hcc, hA⟩ := hxx (q4.trans hgen)
    rcases hA with ⟨h, _⟩ | ⟨_, hA⟩
    · rw [q6] at h; cases h
    · rw [hA]
      have := RC.sl (g := g1) (T := T) (es := es.take n) (tok := none) (A := some ⟨y1.blk, 0, none⟩) (c := c) (by omega) hm F (.inr ⟨y1.blk, 0, rfl, fun k hk j u hu => by
        rw [Nat.zero_add, q1]
        refine hro _ _ ?_
        rw [hcs]
        exact flat_at hFk (by omega) hu⟩) (fun k hk => by
        rw [List.getElem_take]
        exact (hFk k (by omega)).mono l1.1.base) (fun i hi => by cases hi)
      rw [htl] at this
      exact this
end
end Go.Proofs.Ytigmpdhnhkdeiaa
/- Proofs as bytes: the document's. -/
namespace Go.Proofs.Ytigmpdhnhkdeiaa
open Go Go.RowKit
end Go.Proofs.Ytigmpdhnhkdeiaa
/- A region at a function's end in which the named results are loaded and stored again: nothing changes. -/
namespace Go.Proofs.Ytigmpdhnhkdeiaa
open Go Go.RowKit
section
variable {P : Program} {τ : Tab} {w0 w : World} {N : Gh} {st : St} {nt : Nat} {a : Act}
end
end Go.Proofs.Ytigmpdhnhkdeiaa
/- What bytes say to whoever knows the root: verify, and the document's. -/
namespace Go.Proofs.Ytigmpdhnhkdeiaa
open Go Go.RowKit
def valH (v : List UInt8) : List UInt8 := sum (3 :: v)
theorem valH_len (v : List UInt8) : (valH v).length = 32 := sum_length _
theorem value_v (v : List UInt8) (hv : v.length ≤ 34359730000) : VC Try.prog 57 [.bs v none] [] (.ba (valH v)) := by
  have h := of_v 3 [v] (by simp; omega) (by simp)
  have e : [v].flatten = v := by simp
  rw [e] at h
  have hsl := sum_length (3 :: v)
  unfold valH
  refine mE Try.func57 ?_; intro N w0 a w hN hR H
  refine mW ?_; clear H; intro a w H
  refine mCall [] [] (h) H ?_; clear H; intro a w H; try refine wpList_nil ?_
  refine mW ?_; clear H; intro a w H
  refine wp_ret ?_; exact mEnd [] [] [.cell 2 50] [_] hN hR H
end Go.Proofs.Ytigmpdhnhkdeiaa
/- span.read: what is read of a span. -/
namespace Go.Proofs.Ytigmpdhnhkdeiaa
open Go Go.RowKit
/-- A span. -/
structure Sp where
  p : List Br
  v : List (List UInt8)
structure Sp.wf (s : Sp) : Prop where
  p : ∀ b ∈ s.p, b.wf
  lp : s.p.length ≤ 90000
  lv : s.v.length ≤ 90000
  v : ∀ x ∈ s.v, x.length ≤ 34359730000
def Sp.av (s : Sp) : AV := .st [.sl brT (brs s.p) none, .sl .sc (bss s.v) none]
def spRS (fr to key : List UInt8) (s : Sp) : RS × List UInt8 × Bool := plS fr to key 257 (List.replicate 32 0) 0 ⟨s.p, [], [], [], Nd.zero⟩
/-- Do the values fit the digests? -/
def spV (s : Sp) (x : RS) : Bool := decide (x.ks.length = s.v.length) && decide (∀ i, i < s.v.length → (s.v.getD i []).length ≤ 1024 ∧ valH (s.v.getD i []) = x.ds.getD i [])
def spE (fr to key : List UInt8) (s : Sp) : Int :=
  if 65536 < s.p.length ∨ 256 < s.v.length then 4
  else if Lib.compareBytes to fr < 0 then 2
  else if (spRS fr to key s).2.2 = true ∧ (spRS fr to key s).1.rest = [] ∧ spV s (spRS fr to key s).1 = true then 0 else 11
theorem ren_nd (fb fr : Nat → Option Nat) (n : Nd) : ren fb fr 2 n.av = n.av := rfl
theorem plS_kd (fr to key : List UInt8) : ∀ (f : Nat) (top : List UInt8) (d : Nat) (s : RS), s.ks.length = s.ds.length → (plS fr to key f top d s).1.ks.length = (plS fr to key f top d s).1.ds.length
  | 0, top, d, s, h => h
  | f + 1, top, d, ⟨[], ks, ds, sd, en⟩, h => h
  | f + 1, top, d, ⟨b :: rest, ks, ds, sd, en⟩, h => by
    dsimp only at h
    rw [plS_cons]
    split
    · exact h
    · split
      · exact h
      · split
        · exact h
        · split
          · exact h
          · split
            · dsimp only [lfS]; split
              · rw [List.length_append, List.length_append, h]; rfl
              · exact h
            · split
              · exact h
              · have ih1 := plS_kd fr to key f top (d + 1) ⟨rest, ks, ds, sd, en⟩ h
                split
                · exact ih1
                · have ih2 := plS_kd fr to key f (flipL top d) (d + 1) _ ih1
                  dsimp only
                  rw [sdS_eq]; exact ih2
theorem spV_iff (s : Sp) (x : RS) : spV s x = true ↔ x.ks.length = s.v.length ∧ ∀ i, i < s.v.length → (s.v.getD i []).length ≤ 1024 ∧ valH (s.v.getD i []) = x.ds.getD i [] := by
  unfold spV; rw [Bool.and_eq_true, decide_eq_true_iff, decide_eq_true_iff]
/-- A reader as it is handed out. -/
abbrev sprA (fr to key : List UInt8) (s : RS) : AV := .st [.st [.ba fr, .ba to], .sl brT (brs s.rest) none, .ba (sum [0]), .sl (.ba 32) (bas s.ks) none, .sl (.ba 32) (bas s.ds) none, .ba key, .st [.sl (.ba 32) (bas s.sd.reverse) none, s.en.av]]
attribute [local irreducible] wpT
set_option maxRecDepth 20000 in
set_option maxHeartbeats 8000000 in
theorem sread_v (fr to key : List UInt8) (h1 : fr.length = 32) (h2 : to.length = 32) (h3 : key.length = 32) (s : Sp) (hs : s.wf) :
    VC Try.prog 118 [.ba fr, .ba to, s.av, .ba key] []
      (.tup [.ba (if spE fr to key s = 0 then (spRS fr to key s).2.1 else z32), if spE fr to key s = 0 then .ref srdT (sprA fr to key (spRS fr to key s).1) else .v (.pointer none), errv (spE fr to key s)]) := by
  have hpl := brs_len s.p
  have hvl := bss_len s.v
  have hcm := pcmp_v to fr h2 h1
  have hem := empty_v
  have hs0 : (sum [0]).length = 32 := sum_length _
  have hz2 : (List.replicate 32 (0 : UInt8)).length = 32 := List.length_replicate
  obtain ⟨p, v⟩ := s
  obtain ⟨w1, w2, w3, w4⟩ := id hs
  dsimp only at w1 w2 w3 w4 hpl hvl
  unfold spE spRS
  dsimp only
  refine mE Try.func118 ?_; intro N w0 a w hN hR H
  simp only [Sp.av] at H
  have hX := And.intro @hpl (And.intro @hvl (And.intro @h1 (And.intro @h2 (And.intro @h3 (@hs0)))))
  refine mW ?_; clear H; intro a w H
  refine mC H (fun hb => ?_) (fun hb => ?_)
  · have e : 65536 < p.length ∨ 256 < v.length := by
      cases hd : decide ((65536 : Int) < (p.length : Int))
      · rw [hd] at hb
        have : decide ((256 : Int) < (v.length : Int)) = true := hb
        rw [decide_eq_true_eq] at this; omega
      · rw [decide_eq_true_eq] at hd; omega
    rw [if_pos e, if_neg (by decide), if_neg (by decide)]
    simp only [z32]
    refine mW ?_; clear H; intro a w H
    refine wp_ret ?_; exact mEnd [] [] [.cell 8 50, .tmp 9, .tmp 10] [_, _, _] hN hR H
  · have e : ¬ (65536 < p.length ∨ 256 < v.length) := by
      cases hd : decide ((65536 : Int) < (p.length : Int))
      · rw [hd] at hb
        have : decide ((256 : Int) < (v.length : Int)) = false := hb
        rw [decide_eq_false_iff_not] at this hd; omega
      · rw [hd] at hb; cases hb
    rw [if_neg e]
    clear hb
    refine mW ?_; clear H; intro a w H
    refine mCall [] [] (hcm) H ?_; clear H; intro a w H; try refine wpList_nil ?_
    refine mW ?_; clear H; intro a w H
    refine mC H (fun hb => ?_) (fun hb => ?_)
    · rw [decide_eq_true_eq] at hb
      rw [if_pos hb, if_neg (by decide), if_neg (by decide)]
      simp only [z32]
      refine mW ?_; clear H; intro a w H
      refine wp_ret ?_; exact mEnd [] [] [.cell 8 50, .tmp 9, .tmp 10] [_, _, _] hN hR H
    · rw [decide_eq_false_iff_not] at hb
      rw [if_neg hb]
      clear hb
      refine mS ?_
      refine mS ?_; refine mD 5 [5, 8] [0, 1, 2, 3, 4, 6] H ?_; clear H; intro gS H
      refine mT ?_; clear H; intro a w H
      refine mCallT [] [] (hem) H ?_; clear H; intro a w H
      refine mT ?_; clear H; intro a w H
      refine v_drawNil H ?_; clear H; intro H
      refine mS ?_
      replace H := v_nilVB tab_ok H 5 [3] 52 (j := ti52) rfl (by decide) rfl rfl rfl
      simp only [List.set_cons_succ, List.set_cons_zero, List.length_cons, List.length_nil, Nat.reduceAdd, List.cons_append, List.nil_append, AV.put, List.getElem?_cons_succ, List.getElem?_cons_zero] at H
      replace H := v_nilVB tab_ok H 5 [4] 50 (j := ti50) rfl (by decide) rfl rfl rfl
      simp only [List.set_cons_succ, List.set_cons_zero, List.length_cons, List.length_nil, Nat.reduceAdd, List.cons_append, List.nil_append, AV.put, List.getElem?_cons_succ, List.getElem?_cons_zero] at H
      replace H := v_nilVB tab_ok H 5 [6, 0] 50 (j := ti50) rfl (by decide) rfl rfl rfl
      simp only [List.set_cons_succ, List.set_cons_zero, List.length_cons, List.length_nil, Nat.reduceAdd, List.cons_append, List.nil_append, AV.put, List.getElem?_cons_succ, List.getElem?_cons_zero] at H
      have hw0 : RS.wf ⟨p, [], [], [], Nd.zero⟩ := ⟨w1, fun _ h => (by cases h), fun _ h => (by cases h), fun _ h => (by cases h), zero_wf, by dsimp only [List.length_nil]; omega, by dsimp only [List.length_nil]; omega, by dsimp only [List.length_nil]; omega⟩
      have hpc := splace_v fr to key h1 h2 h3 257 (List.replicate 32 0) 0 ⟨p, [], [], [], Nd.zero⟩ (by omega) (by omega) hz2 hw0
      obtain ⟨a1, a2, a3, a4, a5, a6, a7⟩ := plS_wf fr to key 257 (List.replicate 32 0) 0 ⟨p, [], [], [], Nd.zero⟩ hw0
      have hkd := plS_kd fr to key 257 (List.replicate 32 0) 0 ⟨p, [], [], [], Nd.zero⟩ rfl
      generalize plS fr to key 257 (List.replicate 32 0) 0 ⟨p, [], [], [], Nd.zero⟩ = x at *
      obtain ⟨⟨xr, xk, xd, xs, xe⟩, xh, xo⟩ := x
      have hkl := bas_len xk
      have hdl := bas_len xd
      have hsl := bas_len xs
      have hrl := brs_len xr
      have b0 : bas [] = [] := rfl
      have z0 : Nd.zero.av = .st [.v (.int .u8 0), .ba (List.replicate 32 0), .ba (List.replicate 32 0), .ba (List.replicate 32 0), .ba (List.replicate 32 0)] := rfl
      simp only [rdB, rdA, z0, b0, List.length_nil] at hpc
      dsimp only at hkd a1 a2 a3 a4 a5 a6 a7 ⊢
      have hsv := spV_iff ⟨p, v⟩ ⟨xr, xk, xd, xs, xe⟩
      dsimp only at hsv
      generalize spV ⟨p, v⟩ ⟨xr, xk, xd, xs, xe⟩ = B at *
      clear hX; have hX := And.intro @hpl (And.intro @hvl (And.intro @h1 (And.intro @h2 (And.intro @h3 (And.intro @hs0 (And.intro @hkl (And.intro @hdl (And.intro @hsl (And.intro @hrl (@a2))))))))))
      refine mW ?_; clear H; intro a w H
      refine mCall [5, 6, 7, 8] [] (hpc) H ?_; clear H; intro a w H; try refine wpList_nil ?_
      rw [ren_nd] at H
      refine mS ?_
      refine mW ?_; clear H; intro a w H
      refine mS ?_; refine mD 10 [] [] H ?_; clear H; intro gS H
      refine mT ?_; clear H; intro a w H
      refine v_drawNil H ?_; clear H; intro H
      refine mC H (fun hb => ?_) (fun hb => ?_)
      · have e : ¬ (xo = true ∧ xr = [] ∧ B = true) := by
          rintro ⟨e1, e2, e3⟩
          rw [e1, e2, (hsv.1 e3).1] at hb
          simp at hb
        rw [if_neg e, if_neg (by decide), if_neg (by decide)]
        simp only [z32]
        refine mW ?_; clear H; intro a w H
        refine wp_ret ?_; exact mEnd [] [] [.cell 8 50, .tmp 9, .tmp 10] [_, _, _] hN hR H
      · have e : xo = true ∧ xr = [] ∧ xk.length = v.length := by
          cases xo
          · cases hb
          · cases hd : decide (0 < (xr.length : Int))
            · rw [hd] at hb
              rw [decide_eq_false_iff_not] at hd
              refine ⟨rfl, List.length_eq_zero_iff.1 (by omega), ?_⟩
              have : (!decide ((xk.length : Int) = (v.length : Int))) = false := hb
              rw [Bool.not_eq_false', decide_eq_true_eq] at this; omega
            · rw [hd] at hb; cases hb
        obtain ⟨rfl, rfl, e3⟩ := e
        clear hb
        have hxd : ∀ i, i < xd.length → (bas xd).getD i .any = .ba (xd.getD i []) := fun i hi => by rw [bas_get xd i hi, List.getD_eq_getElem?_getD, List.getElem?_eq_getElem hi]; rfl
        refine mW ?_; clear H; intro a w H
        have lkd : xd.length = v.length := by rw [← e3]; exact hkd.symm
        refine v_loop (fun i : Nat => ⟨[(74, none, .v (.int .i64 (i : Int))), (73, none, .v (.int .i64 (v.length : Int))), (72, none, .sl .sc (bss v) none), (12, none, .ptr 9 []), (11, none, .ptr 5 []), (10, none, .v (.int .i64 0)), (9, none, .v (.pointer none)), (8, none, .ptr 4 [])],
          [(.ba 32, .ba fr), (.ba 32, .ba to), (ti25.ty, .st [.sl brT (brs p) none, .sl .sc (bss v) none]), (.ba 32, .ba key), (.ba 32, .ba (List.replicate 32 0)), (srdT, .st [.st [.ba fr, .ba to], .sl brT (brs []) none, .ba (sum [0]), .vw 6 xk.length xk.length, .vw 7 xd.length xd.length, .ba key, .st [.vw 8 xs.length xs.length, xe.av]]),
            (.vc 52 (.ba 32), .vc xk.length (bas xk)), (.vc 50 (.ba 32), .vc xd.length (bas xd)), (.vc 50 (.ba 32), .vc xs.length (bas xs)), (.ba 32, .ba xh)], [], []⟩)
          (fun i => i ≤ v.length ∧ ∀ j, j < i → (v.getD j []).length ≤ 1024 ∧ valH (v.getD j []) = xd.getD j []) (fun i => v.length - i) 0 ⟨Nat.zero_le _, fun j hj => absurd hj (Nat.not_lt_zero _)⟩
          (H.to 10 0 ⟨Nat.le_trans hN (Nat.le_of_ble_eq_true rfl), hR⟩ ⟨rfl, rfl, rfl, rfl, rfl, rfl, rfl, rfl, trivial⟩ rfl rfl rfl rfl rfl) ?_
        clear H
        rintro i a w ⟨hi, hfit⟩ H
        refine mW ?_; clear H; intro a w H
        refine mC H (fun hb => ?_) (fun hb => ?_)
        · have hlt : i < v.length := by rw [decide_eq_true_eq] at hb; omega
          clear hb
          have hg := bss_get v i hlt
          have hg2 := hxd i (by omega)
          have hvi : (v.getD i []) = v[i] := by rw [List.getD_eq_getElem?_getD, List.getElem?_eq_getElem hlt]; rfl
          have hval := value_v v[i] (w4 _ (List.getElem_mem hlt))
          have hvll := valH_len v[i]
          have hxl : (xd.getD i []).length = 32 := by
            rw [List.getD_eq_getElem?_getD, List.getElem?_eq_getElem (by omega)]; exact a1.ds _ (List.getElem_mem _)
          refine mS ?_
          clear hX; have hX := And.intro @hpl (And.intro @hvl (And.intro @h1 (And.intro @h2 (And.intro @h3 (And.intro @hs0 (And.intro @hkl (And.intro @hdl (And.intro @hsl (And.intro @hrl (And.intro @a2 (And.intro @hg (And.intro @hg2 (And.intro @hvll (@hxl))))))))))))))
          (try refine wp_region_lit ?_); refine mN 3 hN H ?_; clear H; intro a w H
          refine mW ?_; clear H; intro a w H
          refine mS ?_; refine mD 10 [5] [6, 7, 8, 9, 10, 11, 12] H ?_; clear H; intro gS H
          refine mT ?_; clear H; intro a w H
          refine mCallTG [] [] (hval) H ?_; clear H; intro a w H
          refine mTN 7 hN H ?_; clear H; intro a w H; simp only [List.drop_succ_cons, List.drop_zero, List.drop_nil]
          refine mT ?_; clear H; intro a w H
          refine v_drawNil H ?_; clear H; intro H
          refine mC H (fun hb => ?_) (fun hb => ?_)
          · have e : ¬ B = true := fun e => by
              obtain ⟨e5, e6⟩ := (hsv.1 e).2 i hlt
              rw [hvi] at e5 e6
              rw [e6] at hb
              have : decide ((1024 : Int) < (v[i].length : Int)) = false := decide_eq_false (by omega)
              rw [this] at hb
              simp at hb
            obtain rfl : B = false := by cases B <;> first | rfl | exact absurd rfl e
            have e11 : ¬ (11 : Int) = 0 := by decide
            simp only [Bool.false_eq_true, and_false, if_false, e11]
            simp only [z32]
            refine mW ?_; clear H; intro a w H
            refine wp_ret ?_; exact mEnd [] [] [.cell 8 50, .tmp 9, .tmp 10] [_, _, _] hN hR H
          · have e : v[i].length ≤ 1024 ∧ valH v[i] = xd.getD i [] := by
              cases hd : decide ((1024 : Int) < (v[i].length : Int))
              · rw [hd] at hb
                rw [decide_eq_false_iff_not] at hd
                refine ⟨by omega, ?_⟩
                simpa using hb
              · rw [hd] at hb; cases hb
            clear hb
            refine mW ?_; clear H; intro a w H
            refine ⟨i + 1, ⟨hlt, fun j hj => ?_⟩, by omega, H.to 10 0 ⟨Nat.le_trans hN (Nat.le_of_ble_eq_true rfl), hR⟩ ⟨rfl, rfl, rfl, rfl, rfl, rfl, rfl, rfl, trivial⟩ rfl rfl rfl rfl rfl⟩
            rcases Nat.lt_succ_iff_lt_or_eq.1 hj with h | rfl
            · exact hfit j h
            · rw [hvi]; exact e
        · have hge : i = v.length := by rw [decide_eq_false_iff_not] at hb; omega
          subst hge
          have hB : B = true := hsv.2 ⟨e3, hfit⟩
          subst hB
          simp only [and_self, if_true]
          have hrv := revV_v xs xs.length (by have := a1.ls; dsimp only at this; omega) a1.sd
          refine mW ?_; clear H; intro a w H
          refine mCall [8] [] (hrv) H ?_; clear H; intro a w H; try refine wpList_nil ?_
          refine mW ?_; clear H; intro a w H
          have hrl2 : (bas xs.reverse).length = xs.length := by simp [bas]
          have tk : (bas xk).take xk.length = bas xk := List.take_of_length_le (by omega)
          have td : (bas xd).take xd.length = bas xd := List.take_of_length_le (by omega)
          have ts : (bas xs.reverse).take xs.length = bas xs.reverse := List.take_of_length_le (by omega)
          replace H := v_frzB H 6 5 [3] (Nat.le_trans hN (Nat.zero_le _)) rfl rfl rfl rfl (by omega)
          simp only [AV.put, List.set_cons_succ, List.set_cons_zero, List.getElem?_cons_succ, List.getElem?_cons_zero, tk] at H
          replace H := v_frzB H 7 5 [4] (Nat.le_trans hN (Nat.zero_le _)) rfl rfl rfl rfl (by omega)
          simp only [AV.put, List.set_cons_succ, List.set_cons_zero, List.getElem?_cons_succ, List.getElem?_cons_zero, td] at H
          replace H := v_frzB H 8 5 [6, 0] (Nat.le_trans hN (Nat.zero_le _)) rfl rfl rfl rfl (by omega)
          simp only [AV.put, List.set_cons_succ, List.set_cons_zero, List.getElem?_cons_succ, List.getElem?_cons_zero, ts] at H
          replace H := v_ref H 9 5 (Nat.le_trans hN (Nat.zero_le _)) rfl rfl rfl
          simp only [nilT, strip, List.map_cons, List.map_nil, reduceIte, Nat.reduceEqDiff] at H
          clear hX; have hX := @Nd.av.eq_1
          refine wp_ret ?_; exact mEnd [] [] [.cell 8 50, .tmp 9, .tmp 10] [_, _, _] hN hR H
end Go.Proofs.Ytigmpdhnhkdeiaa
/- Entries. -/
namespace Go.Proofs.Ytigmpdhnhkdeiaa
open Go Go.RowKit
abbrev Pr := List UInt8 × List UInt8
abbrev prT : Ty := .cn (.ba 32) (.cn .sc .nl)
def prA (p : Pr) : AV := .st [.ba p.1, .bs p.2 none]
end Go.Proofs.Ytigmpdhnhkdeiaa
/- span.Check, Root, Single. -/
namespace Go.Proofs.Ytigmpdhnhkdeiaa
open Go Go.RowKit
attribute [local irreducible] wpT
def spH (fr to key : List UInt8) (s : Sp) : List UInt8 := if spE fr to key s = 0 then (spRS fr to key s).2.1 else z32
theorem spRS_wf (fr to key : List UInt8) (s : Sp) (hs : s.wf) : (spRS fr to key s).1.wf :=
  (plS_wf fr to key 257 _ 0 _ ⟨hs.p, fun _ h => (by cases h), fun _ h => (by cases h), fun _ h => (by cases h), zero_wf, by have := hs.lp; dsimp only [List.length_nil]; omega, by have := hs.lp; dsimp only [List.length_nil]; omega, by have := hs.lp; dsimp only [List.length_nil]; omega⟩).1
theorem spH_len (fr to key : List UInt8) (s : Sp) (hs : s.wf) : (spH fr to key s).length = 32 := by
  unfold spH
  split
  · exact (plS_wf fr to key 257 _ 0 _ ⟨hs.p, fun _ h => (by cases h), fun _ h => (by cases h), fun _ h => (by cases h), zero_wf, by have := hs.lp; dsimp only [List.length_nil]; omega, by have := hs.lp; dsimp only [List.length_nil]; omega, by have := hs.lp; dsimp only [List.length_nil]; omega⟩).2.1
  · exact z32_len
theorem spE_rng (fr to key : List UInt8) (s : Sp) : 0 ≤ spE fr to key s ∧ spE fr to key s ≤ 11 := by unfold spE; (repeat' split) <;> decide
theorem scheck_v (fr to : List UInt8) (h1 : fr.length = 32) (h2 : to.length = 32) (s : Sp) (hs : s.wf) : VC Try.prog 39 [.ba fr, .ba to, s.av] [] (errv (spE fr to fr s)) := by
  have hr := sread_v fr to fr h1 h2 h1 s hs
  have hl := spH_len fr to fr s hs
  have hw1 := brs_len s.p
  have hw2 := bss_len s.v
  unfold spH at hl
  have hl0 : (sum [0]).length = 32 := sum_length _
  generalize spE fr to fr s = e at *
  generalize (if e = 0 then (spRS fr to fr s).2.1 else z32) = h at *
  simp only [Sp.av] at hr ⊢
  by_cases he : e = 0
  · rw [if_pos he] at hr
    generalize sprA fr to fr (spRS fr to fr s).1 = R at *
    refine mE Try.func39 ?_; intro N w0 a w hN hR H
    have hX := And.intro @hl (And.intro @h1 (@h2))
    refine mW ?_; clear H; intro a w H
    refine mCall [] [] (hr) H ?_; clear H; intro a w H; try refine wpList_nil ?_
    refine mW ?_; clear H; intro a w H
    refine wp_ret ?_; exact mEnd [] [] [.tmp 6] [_] hN hR H
  · rw [if_neg he] at hr
    refine mE Try.func39 ?_; intro N w0 a w hN hR H
    have hX := And.intro @hl (And.intro @h1 (@h2))
    refine mW ?_; clear H; intro a w H
    refine mCall [] [] (hr) H ?_; clear H; intro a w H; try refine wpList_nil ?_
    refine mW ?_; clear H; intro a w H
    refine wp_ret ?_; exact mEnd [] [] [.tmp 6] [_] hN hR H
theorem sroot_v (fr to : List UInt8) (h1 : fr.length = 32) (h2 : to.length = 32) (s : Sp) (hs : s.wf) : VC Try.prog 36 [.ba fr, .ba to, s.av] [] (.tup [.ba (spH fr to fr s), errv (spE fr to fr s)]) := by
  have hr := sread_v fr to fr h1 h2 h1 s hs
  have hl := spH_len fr to fr s hs
  have hw1 := brs_len s.p
  have hw2 := bss_len s.v
  unfold spH at hl ⊢
  have hl0 : (sum [0]).length = 32 := sum_length _
  generalize spE fr to fr s = e at *
  generalize (if e = 0 then (spRS fr to fr s).2.1 else z32) = h at *
  simp only [Sp.av] at hr ⊢
  by_cases he : e = 0
  · rw [if_pos he] at hr
    generalize sprA fr to fr (spRS fr to fr s).1 = R at *
    refine mE Try.func36 ?_; intro N w0 a w hN hR H
    have hX := And.intro @hl (And.intro @h1 (@h2))
    refine mW ?_; clear H; intro a w H
    refine mCall [] [] (hr) H ?_; clear H; intro a w H; try refine wpList_nil ?_
    refine mW ?_; clear H; intro a w H
    refine wp_ret ?_; exact mEnd [] [] [.cell 6 50, .tmp 7] [_, _] hN hR H
  · rw [if_neg he] at hr
    refine mE Try.func36 ?_; intro N w0 a w hN hR H
    have hX := And.intro @hl (And.intro @h1 (@h2))
    refine mW ?_; clear H; intro a w H
    refine mCall [] [] (hr) H ?_; clear H; intro a w H; try refine wpList_nil ?_
    refine mW ?_; clear H; intro a w H
    refine wp_ret ?_; exact mEnd [] [] [.cell 6 50, .tmp 7] [_, _] hN hR H
/-- A key's way in a span. -/
def spW (fr to key : List UInt8) (s : Sp) : Pf := if spE fr to key s = 0 ∧ hasB fr to key = true then ⟨(spRS fr to key s).1.sd.reverse, (spRS fr to key s).1.en⟩ else Pf.zero
def spWE (fr to key : List UInt8) (s : Sp) : Int := if spE fr to key s = 0 then (if hasB fr to key then 0 else 2) else spE fr to key s
theorem ssingle_v (fr to key : List UInt8) (h1 : fr.length = 32) (h2 : to.length = 32) (h3 : key.length = 32) (s : Sp) (hs : s.wf) : VC Try.prog 37 [.ba fr, .ba to, s.av, .ba key] [] (.tup [(spW fr to key s).av, errv (spWE fr to key s)]) := by
  have hr := sread_v fr to key h1 h2 h3 s hs
  have hl := spH_len fr to key s hs
  have hhas := has_v fr to key h1 h2 h3
  have hw1 := brs_len s.p
  have hw2 := bss_len s.v
  have hrg := spE_rng fr to key s
  unfold spH at hl
  unfold spW spWE
  generalize spE fr to key s = e at *
  generalize (if e = 0 then (spRS fr to key s).2.1 else z32) = h at *
  have hwf := (spRS_wf fr to key s hs).en
  obtain ⟨⟨⟨xr, xk, xd, xs, xe⟩, xh, xo⟩, hx⟩ : ∃ x, x = spRS fr to key s := ⟨_, rfl⟩
  rw [← hx] at hr hwf ⊢
  obtain ⟨v1, v2, v3, v4⟩ := hwf
  dsimp only at v1 v2 v3 v4
  dsimp only [sprA] at hr ⊢
  simp only [Sp.av] at hr ⊢
  by_cases he : e = 0
  · rw [if_pos he] at hr ⊢
    refine mE Try.func37 ?_; intro N w0 a w hN hR H
    have hX := And.intro @hl (And.intro @h1 (And.intro @h2 (@h3)))
    refine mW ?_; clear H; intro a w H
    refine mCall [] [] (hr) H ?_; clear H; intro a w H; try refine wpList_nil ?_
    refine mW ?_; clear H; intro a w H
    refine mC H (fun hb => ?_) (fun hb => ?_)
    · rw [he] at hb; exact absurd hb (by decide)
    · clear hb
      refine mS ?_
      refine mS ?_; refine mD 5 [5] [] H ?_; clear H; intro gS H
      refine mT ?_; clear H; intro a w H
      refine mCallT [] [] (hhas) H ?_; clear H; intro a w H
      refine mT ?_; clear H; intro a w H
      refine v_drawNil H ?_; clear H; intro H
      refine mC H (fun hb => ?_) (fun hb => ?_)
      · have hh : hasB fr to key = false := by simpa using hb
        rw [hh, if_neg (fun h => absurd h.2 (by decide)), if_neg (by decide)]
        simp only [Pf.av, Pf.zero, Nd.zero, Nd.av, z32, bas, List.map_nil]
        refine mW ?_; clear H; intro a w H
        refine wp_ret ?_; exact mEnd [] [] [.cell 8 68, .tmp 9] [_, _] hN hR H
      · have hh : hasB fr to key = true := by simpa using hb
        rw [hh, if_pos ⟨he, rfl⟩, if_pos rfl]
        clear hX; have hX := And.intro @hl (And.intro @h1 (And.intro @h2 (And.intro @h3 (And.intro @v1 (And.intro @v2 (And.intro @v3 (And.intro @v4 (@Nd.av.eq_1))))))))
        refine mW ?_; clear H; intro a w H
        simp only [Pf.av, Nd.av]
        refine wp_ret ?_; exact mEnd [] [] [.cell 8 68, .tmp 9] [_, _] hN hR H
  · rw [if_neg he] at hr ⊢
    rw [if_neg (fun h => he h.1)]
    have hd : (!decide (e = 0)) = true := by rw [decide_eq_false he]; rfl
    simp only [Pf.av, Pf.zero, Nd.zero, Nd.av, z32, bas, List.map_nil]
    refine mE Try.func37 ?_; intro N w0 a w hN hR H
    have hX := And.intro @hl (And.intro @h1 (And.intro @h2 (@h3)))
    refine mW ?_; clear H; intro a w H
    refine mCall [] [] (hr) H ?_; clear H; intro a w H; try refine wpList_nil ?_
    refine mW ?_; clear H; intro a w H
    refine mC H (fun hb => ?_) (fun hb => ?_)
    · refine mW ?_; clear H; intro a w H
      refine wp_ret ?_; exact mEnd [] [] [.cell 8 68, .tmp 9] [_, _] hN hR H
    · rw [hd] at hb; cases hb
/-- The entries of a span. -/
def spL (fr to : List UInt8) (s : Sp) : List Pr := (spRS fr to fr s).1.ks.zip s.v
def spRE (root fr to : List UInt8) (s : Sp) : Int := if spE fr to fr s = 0 then (if spH fr to fr s = root then 0 else 11) else spE fr to fr s
set_option maxHeartbeats 4000000 in
theorem sreadf_v (root fr to : List UInt8) (hr0 : root.length = 32) (h1 : fr.length = 32) (h2 : to.length = 32) (s : Sp) (hs : s.wf) :
    VC Try.prog 40 [.ba root, .ba fr, .ba to, s.av] [] (.tup [.sl prT ((if spRE root fr to s = 0 then spL fr to s else []).map prA) none, errv (spRE root fr to s)]) := by
  have hr := sread_v fr to fr h1 h2 h1 s hs
  have hl := spH_len fr to fr s hs
  have hw1 := brs_len s.p
  have hw2 := bss_len s.v
  have hrg := spE_rng fr to fr s
  have hkv : spE fr to fr s = 0 → (spRS fr to fr s).1.ks.length = s.v.length ∧ ∀ i, i < s.v.length → (s.v.getD i []).length ≤ 1024 := fun he => by
    unfold spE at he
    split at he
    · cases he
    · split at he
      · cases he
      · split at he
        · rename_i h; obtain ⟨q1, q2⟩ := (spV_iff _ _).1 h.2.2; exact ⟨q1, fun i hi => (q2 i hi).1⟩
        · cases he
  have hk32 := (spRS_wf fr to fr s hs).ks
  have hlv := hs.lv
  unfold spRE spL
  unfold spH at hl ⊢
  generalize spE fr to fr s = e at *
  generalize hh : (if e = 0 then (spRS fr to fr s).2.1 else z32) = h at *
  obtain ⟨⟨⟨xr, xk, xd, xs, xe⟩, xh, xo⟩, hx⟩ : ∃ x, x = spRS fr to fr s := ⟨_, rfl⟩
  rw [← hx] at hr hkv hk32 ⊢
  dsimp only [sprA] at hr hkv hk32 ⊢
  obtain ⟨p, v⟩ := s
  dsimp only at hw1 hw2 hkv hlv
  simp only [Sp.av] at hr ⊢
  clear hx hh hs
  by_cases he : e = 0
  · rw [if_pos he] at hr ⊢
    obtain ⟨hk, hv⟩ := hkv he
    have hkl := bas_len xk
    refine mE Try.func40 ?_; intro N w0 a w hN hR H
    have hX := And.intro @hl (And.intro @hr0 (And.intro @h1 (And.intro @h2 (@hkl))))
    refine mW ?_; clear H; intro a w H
    refine mCall [] [] (hr) H ?_; clear H; intro a w H; try refine wpList_nil ?_
    refine mW ?_; clear H; intro a w H
    refine mC H (fun hb => ?_) (fun hb => ?_)
    · rw [he] at hb; exact absurd hb (by decide)
    · clear hb
      refine mW ?_; clear H; intro a w H
      refine mC H (fun hb => ?_) (fun hb => ?_)
      · have hne : h ≠ root := by simpa using hb
        rw [if_neg hne, if_neg (by decide)]
        refine mW ?_; clear H; intro a w H
        refine wp_ret ?_; exact mEnd [] [] [.tmp 8, .tmp 9] [_, _] hN hR H
      · have heq : h = root := by simpa using hb
        rw [if_pos heq, if_pos rfl]
        clear hb
        refine mW ?_; clear H; intro a w H
        replace H := v_nilE tab_ok H 13 120 prT (j := ti120) rfl (by decide) rfl
        simp only [nilT, reduceIte, Nat.reduceEqDiff, List.length_nil, List.nil_append] at H
        refine v_loop (fun i : Nat => ⟨[(41, none, .v (.int .i64 (i : Int))), (40, none, .v (.int .i64 (xk.length : Int))), (39, none, .sl (.ba 32) (bas xk) none), (14, none, .sl .sc (bss (v.drop i)) none), (13, none, .sl prT (((xk.zip v).take i).map prA) (some 0)), (9, none, .v (.int .i64 0))],
          [(.ba 32, .ba root), (.ba 32, .ba fr), (.ba 32, .ba to), (ti25.ty, .st [.sl brT (brs p) none, .sl .sc (bss v) none]), (.ba 32, .ba h)], [], [(120, i)]⟩)
          (fun i => i ≤ xk.length) (fun i => xk.length - i) 0 (Nat.zero_le _)
          (H.to 5 1 ⟨Nat.le_trans hN (Nat.zero_le _), Nat.le_trans hR (Nat.zero_le _)⟩ ⟨rfl, rfl, rfl, rfl, rfl, rfl, trivial⟩ rfl rfl rfl rfl rfl) ?_
        clear H
        intro i a w hi H
        refine mW ?_; clear H; intro a w H
        refine mC H (fun hb => ?_) (fun hb => ?_)
        · have hlt : i < xk.length := by rw [decide_eq_true_eq] at hb; omega
          clear hb
          have g1 := bas_get xk i hlt
          have q1 := hk32 _ (List.getElem_mem hlt)
          have hvl : i < v.length := by omega
          have e1 : bss (v.drop i) = .bs v[i] none :: bss (v.drop (i + 1)) := by rw [List.drop_eq_getElem_cons hvl]; rfl
          have q2 : v[i].length ≤ 1024 := by
            have := hv i hvl
            rwa [List.getD_eq_getElem?_getD, List.getElem?_eq_getElem hvl] at this
          rw [e1] at H
          have hdl : (bss (v.drop (i + 1))).length = v.length - (i + 1) := by rw [bss_len, List.length_drop]
          have e2 : ((xk.zip v).take (i + 1)).map prA = ((xk.zip v).take i).map prA ++ [.st [.ba xk[i], .bs v[i] none]] := by
            have hz : i < (xk.zip v).length := by rw [List.length_zip]; omega
            rw [List.take_succ_eq_append_getElem hz, List.map_append, List.getElem_zip]; rfl
          have hol : (((xk.zip v).take i).map prA).length = i := by rw [List.length_map, List.length_take, List.length_zip]; omega
          generalize v[i] = vi at *
          generalize xk[i] = ki at *
          generalize ((xk.zip v).take i).map prA = o at *
          refine mS ?_
          clear hX; have hX := And.intro @hl (And.intro @hr0 (And.intro @h1 (And.intro @h2 (And.intro @hkl (And.intro @g1 (And.intro @q1 (And.intro @hdl (@hol))))))))
          (try refine wp_region_lit ?_); refine mN 2 hN H ?_; clear H; intro a w H
          refine mW ?_; clear H; intro a w H
          refine mS ?_; refine mD 6 [5, 7, 8] [0, 1] H ?_; clear H; intro gS H
          refine mT ?_; clear H; intro a w H
          refine v_drawNil H ?_; clear H; intro H
          refine mW ?_; clear H; intro a w H
          rw [← e2, show (i : Int) + 1 = ((i + 1 : Nat) : Int) by omega] at H
          exact ⟨i + 1, hlt, by omega, H.to 5 1 ⟨Nat.le_trans hN (Nat.zero_le _), Nat.le_trans hR (Nat.zero_le _)⟩ ⟨rfl, rfl, rfl, rfl, rfl, rfl, trivial⟩ rfl rfl rfl rfl rfl⟩
        · have hge : i = xk.length := by rw [decide_eq_false_iff_not] at hb; omega
          subst hge
          have e2 : (xk.zip v).take xk.length = xk.zip v := List.take_of_length_le (by rw [List.length_zip]; omega)
          rw [e2] at H
          refine mW ?_; clear H; intro a w H
          refine wp_ret ?_; exact mEnd [] [] [.tmp 8, .tmp 9] [_, _] hN hR H
  · rw [if_neg he] at hr ⊢
    rw [if_neg he]
    have hd : (!decide (e = 0)) = true := by rw [decide_eq_false he]; rfl
    refine mE Try.func40 ?_; intro N w0 a w hN hR H
    have hX := And.intro @hl (And.intro @hr0 (And.intro @h1 (@h2)))
    refine mW ?_; clear H; intro a w H
    refine mCall [] [] (hr) H ?_; clear H; intro a w H; try refine wpList_nil ?_
    refine mW ?_; clear H; intro a w H
    refine mC H (fun hb => ?_) (fun hb => ?_)
    · refine mW ?_; clear H; intro a w H
      refine wp_ret ?_; exact mEnd [] [] [.tmp 8, .tmp 9] [_, _] hN hR H
    · rw [hd] at hb; cases hb
end Go.Proofs.Ytigmpdhnhkdeiaa
/- proof.Says, proof.Holds. -/
namespace Go.Proofs.Ytigmpdhnhkdeiaa
open Go Go.RowKit
def saysB (key : List UInt8) (p : Pf) : Bool := decide (p.e.k = 1) && decide (p.e.key = key)
def saysH (key : List UInt8) (p : Pf) : List UInt8 := if saysB key p then p.e.v else z32
theorem saysH_len (key : List UInt8) (p : Pf) (hw : p.wf) : (saysH key p).length = 32 := by unfold saysH; split; exact hw.e.v; exact z32_len
theorem k1b (k : UInt8) : decide ((k.toNat : Int) = 1) = decide (k = 1) := by
  rw [decide_eq_decide]
  exact ⟨fun h => UInt8.toNat_inj.1 (by simp; omega), fun h => by rw [h]; rfl⟩
theorem says_v (key : List UInt8) (hk : key.length = 32) (p : Pf) (hw : p.wf) : VC Try.prog 54 [.ba key, p.av] [] (.tup [.v (.bool (saysB key p)), .ba (saysH key p)]) := by
  obtain ⟨s, ⟨k, ek, ev, el, er⟩⟩ := p
  obtain ⟨_, ⟨q1, q2, q3, q4⟩⟩ := id hw
  dsimp only at q1 q2 q3 q4
  unfold saysH saysB
  have k1 := k1b k
  dsimp only
  refine mE Try.func54 ?_; intro N w0 a w hN hR H
  simp only [Pf.av, Nd.av] at H
  have hX := And.intro @hk (And.intro @q1 (And.intro @q2 (And.intro @q3 (@q4))))
  refine mW ?_; clear H; intro a w H
  simp only [k1] at H
  refine mC H (fun hb => ?_) (fun hb => ?_)
  · have e : (decide (k = 1) && decide (ek = key)) = true := by
      cases hd : decide (k = 1)
      · rw [hd] at hb; cases hb
      · rw [hd] at hb; rw [Bool.true_and]; exact hb
    rw [e, if_pos rfl]
    refine mS ?_; refine mD 0 [4] [] H ?_; clear H; intro gS H
    refine mT ?_; clear H; intro a w H
    refine v_drawNil H ?_; clear H; intro H
    refine mS ?_
    refine wp_ret ?_; exact mEnd [] [] [.tmp 4, .cell 5 50] [_, _] hN hR H
  · have e : (decide (k = 1) && decide (ek = key)) = false := by
      cases hd : decide (k = 1)
      · rfl
      · rw [hd] at hb; rw [Bool.true_and]; exact hb
    rw [e, if_neg (by decide)]
    simp only [z32]
    refine mW ?_; clear H; intro a w H
    refine wp_ret ?_; exact mEnd [] [] [.tmp 4, .cell 5 50] [_, _] hN hR H
def holdsB (root key : List UInt8) (p : Pf) : Bool := decide (topH key p = root) && (!decide (p.e.k = 1) || decide (p.s.length ≤ com p.e.key key))
theorem holds_v (root key : List UInt8) (hr : root.length = 32) (hk : key.length = 32) (p : Pf) (hw : p.wf) (hc : p.chk = 0) : VC Try.prog 55 [.ba root, .ba key, p.av] [] (.tup [.v (.bool (holdsB root key p)), errv 0]) := by
  have hu := up_v key hk p hw hc
  have htl := topH_len key p
  obtain ⟨hs256, _, _⟩ := chk_all hc
  unfold holdsB
  generalize topH key p = T at *
  obtain ⟨s, ⟨k, ek, ev, el, er⟩⟩ := p
  obtain ⟨_, ⟨q1, q2, q3, q4⟩⟩ := id hw
  dsimp only at q1 q2 q3 q4 hs256
  have k1 := k1b k
  have hun := under_v ek key q1 hk (s.length : Int)
  have hsl := bas_len s
  have eu : decide (0 ≤ (s.length : Int) ∧ (s.length : Int) ≤ 256 ∧ (s.length : Int) ≤ (com ek key : Int)) = decide (s.length ≤ com ek key) := by
    rw [decide_eq_decide]; omega
  rw [eu] at hun
  dsimp only
  simp only [Pf.av, Nd.av] at hu ⊢
  refine mE Try.func55 ?_; intro N w0 a w hN hR H
  have hX := And.intro @hr (And.intro @hk (And.intro @q1 (And.intro @q2 (And.intro @q3 (And.intro @q4 (And.intro @htl (@hsl)))))))
  refine mW ?_; clear H; intro a w H
  refine mCall [] [] (hu) H ?_; clear H; intro a w H; try refine wpList_nil ?_
  refine mW ?_; clear H; intro a w H
  refine mC H (fun hb => ?_) (fun hb => ?_)
  · exact absurd hb (by decide)
  · refine mW ?_; clear H; intro a w H
    refine mCallG [] [] (hun) H ?_; clear H; intro a w H; try refine wpList_nil ?_
    refine mW ?_; clear H; intro a w H
    simp only [k1] at H
    have e : (decide (T = root) && (!decide (k = 1) || decide (s.length ≤ com ek key))) = (bif decide (T = root) then (bif !decide (k = 1) then true else decide (s.length ≤ com ek key)) else false) := by
      cases decide (T = root) <;> cases decide (k = 1) <;> rfl
    rw [e]
    refine wp_ret ?_; exact mEnd [] [] [.tmp 6, .tmp 7] [_, _] hN hR H
end Go.Proofs.Ytigmpdhnhkdeiaa
/- What a span says of a key (plain). -/
namespace Go.Proofs.Ytigmpdhnhkdeiaa
open Go Go.RowKit
theorem ltB_any {p q : List UInt8} (hp : p.length = 32) (hq : q.length = 32) : p = q ∨ ltB p q ∨ ltB q p := by
  by_cases h : com p q < 256
  · have h1 := com_agree p q; have h2 := com_ne p q h
    cases hb : bitN p (com p q) with
    | false => exact .inr (.inl ⟨_, h, h1, hb, by rw [hb] at h2; simpa using h2.symm⟩)
    | true => exact .inr (.inr ⟨_, h, h1.symm, by rw [hb] at h2; simpa using h2.symm, hb⟩)
  · exact .inl (agree_eq hp hq fun t ht => com_agree p q t (by omega))
theorem tch_of {fr to k top : List UInt8} {d : Nat} (h1 : fr.length = 32) (h2 : to.length = 32) (h3 : k.length = 32) (hd : d ≤ 256) (hh : hasB fr to k = true) (hu : und d k top = true) : tchB fr to top d = true := by
  have ha := (und_iff hd).1 hu
  unfold hasB at hh
  unfold tchB
  rw [Bool.and_eq_true, decide_eq_true_eq, decide_eq_true_eq] at hh ⊢
  have l1 := fillL_len top d true
  have l2 := fillL_len top d false
  have f1 := fill_first ha
  have f2 := fill_last ha
  have c1 : ¬ ltB k fr := fun h => by have := (cmp_ltB h3 h1).2 h; omega
  have c2 : k = to ∨ ltB k to := by
    by_cases h : Lib.compareBytes k to = 0
    · exact .inl ((cmp_zero k to).1 h)
    · exact .inr ((cmp_ltB h3 h2).1 (by omega))
  constructor
  · have : ¬ ltB (fillL top d true) fr := fun h => by
      rcases ltB_any h3 l1 with e | e | e
      · rw [← e] at h; exact c1 h
      · exact c1 (e.trans h)
      · exact f2 e
    by_cases h : Lib.compareBytes (fillL top d true) fr < 0
    · exact absurd ((cmp_ltB l1 h1).1 h) this
    · omega
  · have : fillL top d false = to ∨ ltB (fillL top d false) to := by
      rcases ltB_any l2 h3 with e | e | e
      · rw [e]; exact c2
      · rcases c2 with c2 | c2
        · exact .inr (c2 ▸ e)
        · exact .inr (e.trans c2)
      · exact absurd e f1
    rcases this with h | h
    · have := (cmp_zero _ _).2 h; omega
    · have := (cmp_ltB l2 h2).2 h; omega
theorem und_zero (k top : List UInt8) : und 0 k top = true := by unfold und; simp
def spT (fr to : List UInt8) (s : Sp) : Option (Tr × List Br) := rdTr (tchB fr to) 257 (List.replicate 32 0) 0 s.p
/-- The reader, by its tree. -/
def spX (fr to key : List UInt8) (t : Tr) (r : List Br) : RS := ⟨r, (t.leaves.filter fun x => hasB fr to x.1).map (·.1), (t.leaves.filter fun x => hasB fr to x.1).map (·.2), (t.way key 0).reverse, t.fin key 0 Nd.zero⟩
theorem spRS_some {fr to : List UInt8} (key : List UInt8) {s : Sp} {t : Tr} {r : List Br} (h : spT fr to s = some (t, r)) : spRS fr to key s = (spX fr to key t r, t.dg, true) := by
  unfold spRS
  rw [plS_some fr to key 257 _ 0 ⟨s.p, [], [], [], Nd.zero⟩ t r (by omega) Low.zero h, und_zero]
  simp [spX]
theorem spRS_none {fr to : List UInt8} (key : List UInt8) {s : Sp} (h : spT fr to s = none) : (spRS fr to key s).2.2 = false := by
  unfold spRS
  exact plS_none fr to key 257 _ 0 ⟨s.p, [], [], [], Nd.zero⟩ (by omega) Low.zero h
theorem spE_key (fr to key key2 : List UInt8) (s : Sp) : spE fr to key s = spE fr to key2 s := by
  unfold spE
  cases h : spT fr to s with
  | none => rw [spRS_none key h, spRS_none key2 h]; simp
  | some p => rw [spRS_some key h, spRS_some key2 h]; rfl
theorem spE_zero {fr to key : List UInt8} {s : Sp} (h : spE fr to key s = 0) : ∃ t, spT fr to s = some (t, []) ∧ ((t.leaves.filter fun x => hasB fr to x.1).length = s.v.length ∧ ∀ i, i < s.v.length → (s.v.getD i []).length ≤ 1024 ∧ valH (s.v.getD i []) = ((t.leaves.filter fun x => hasB fr to x.1).map (·.2)).getD i []) := by
  unfold spE at h
  split at h
  · cases h
  · split at h
    · cases h
    · split at h
      · rename_i hh
        cases ht : spT fr to s with
        | none => rw [spRS_none key ht] at hh; exact absurd hh.1 (by decide)
        | some p =>
          obtain ⟨t, r⟩ := p
          rw [spRS_some key ht] at hh
          obtain ⟨_, hr, hv⟩ := hh
          have hr : r = [] := hr
          subst hr
          obtain ⟨q1, q2⟩ := (spV_iff _ _).1 hv
          exact ⟨t, rfl, by simpa [spX] using q1, q2⟩
      · cases h
structure SglOk (fr to key : List UInt8) (s : Sp) : Prop where
  wf : (spW fr to key s).wf
  chk : (spW fr to key s).chk = 0
  up : topH key (spW fr to key s) = spH fr to fr s
  holds : holdsB (spH fr to fr s) key (spW fr to key s) = true
  there : saysB key (spW fr to key s) = (spL fr to s).any fun q => decide (q.1 = key)
  val : ∀ q ∈ spL fr to s, q.1 = key → saysH key (spW fr to key s) = valH q.2
theorem sgl_ok {fr to key : List UInt8} (h1 : fr.length = 32) (h2 : to.length = 32) (h3 : key.length = 32) {s : Sp} (hs : s.wf) (he : spE fr to fr s = 0) (hh : hasB fr to key = true) : SglOk fr to key s := by
  obtain ⟨t, ht, hlen, hval⟩ := spE_zero he
  have hsd := rd_said (op := tchB fr to) (k := key) (fun top d hd hu => tch_of h1 h2 h3 hd hh hu) (by omega) Low.zero ht (und_zero _ _)
  obtain ⟨_, p2, p3, p4, _, _⟩ := rd_parts ht hs.p
  have hek : spE fr to key s = 0 := by rw [spE_key fr to key fr]; exact he
  have hW : spW fr to key s = ⟨t.way key 0, t.fin key 0 Nd.zero⟩ := by
    unfold spW; rw [if_pos ⟨hek, hh⟩, spRS_some key ht]; simp [spX]
  have hH : spH fr to fr s = t.dg := by unfold spH; rw [if_pos he, spRS_some fr ht]
  have hL : spL fr to s = ((t.leaves.filter fun x => hasB fr to x.1).map (·.1)).zip s.v := by unfold spL; rw [spRS_some fr ht]; rfl
  have hup : topH key (spW fr to key s) = t.dg := by rw [hW]; exact hsd.up
  have hfin : t.fin key 0 Nd.zero = Nd.zero ∨ ∃ x ∈ t.leaves, t.fin key 0 Nd.zero = Nd.one x.1 x.2 := by
    rcases hsd.cases with h | ⟨x, hx, h, _⟩
    · exact .inl h.1
    · exact .inr ⟨x, hx, h⟩
  have hmem : ∀ q ∈ spL fr to s, ∃ g, (q.1, g) ∈ t.leaves ∧ valH q.2 = g := fun q hq => by
    rw [hL] at hq
    obtain ⟨i, hi, e⟩ := List.getElem_of_mem hq
    rw [List.length_zip, List.length_map] at hi
    rw [List.getElem_zip, List.getElem_map] at e
    refine ⟨((t.leaves.filter fun x => hasB fr to x.1)[i]'(by omega)).2, ?_, ?_⟩
    · rw [← e]
      have := List.getElem_mem (l := t.leaves.filter fun x => hasB fr to x.1) (n := i) (by omega)
      exact (List.mem_filter.1 this).1
    · rw [← e]
      have := (hval i (by omega)).2
      rw [List.getD_eq_getElem?_getD, List.getElem?_eq_getElem (by omega), List.getD_eq_getElem?_getD, List.getElem?_eq_getElem (by rw [List.length_map]; omega)] at this
      simpa using this
  have hthere : saysB key (spW fr to key s) = true → ∃ q ∈ spL fr to s, q.1 = key := fun hsb => by
    rw [hW] at hsb
    unfold saysB at hsb
    rw [Bool.and_eq_true, decide_eq_true_eq, decide_eq_true_eq] at hsb
    rcases hfin with h | ⟨x, hx, h⟩
    · dsimp only at hsb; rw [h] at hsb; exact absurd hsb.1 (by decide)
    · dsimp only at hsb; rw [h] at hsb
      have hxk : x.1 = key := hsb.2
      have hxf : x ∈ t.leaves.filter fun x => hasB fr to x.1 := List.mem_filter.2 ⟨hx, by rw [hxk]; exact hh⟩
      obtain ⟨i, hi, e⟩ := List.getElem_of_mem hxf
      refine ⟨(((t.leaves.filter fun x => hasB fr to x.1).map (·.1)).zip s.v)[i]'(by rw [List.length_zip, List.length_map]; omega), by rw [hL]; exact List.getElem_mem _, ?_⟩
      rw [List.getElem_zip, List.getElem_map, e]; exact hxk
  have hone : ∀ q ∈ spL fr to s, q.1 = key → t.fin key 0 Nd.zero = Nd.one key (valH q.2) := fun q hq hk => by
    obtain ⟨g, hg, hgv⟩ := hmem q hq
    rw [hk] at hg
    rcases hsd.cases with h | ⟨x, hx, h, _, h4⟩
    · exact absurd hg (h.2 g)
    · rw [h, h4 g hg, hgv]
  have hthere2 : ∀ q ∈ spL fr to s, q.1 = key → saysB key (spW fr to key s) = true := fun q hq hk => by
    rw [hW]; unfold saysB; dsimp only; rw [hone q hq hk]; simp [Nd.one]
  refine ⟨?_, ?_, hup.trans hH.symm, ?_, ?_, ?_⟩
  · rw [hW]
    refine ⟨p4 _ _, ?_⟩
    dsimp only
    rcases hfin with h | ⟨x, hx, h⟩
    · rw [h]; exact zero_wf
    · rw [h]; exact ⟨(p3 x hx).1, (p3 x hx).2, z32_len, z32_len⟩
  · rw [hW]
    unfold Pf.chk
    have := hsd.len
    rw [if_neg (by dsimp only; omega)]
    dsimp only
    rcases hfin with h | ⟨x, hx, h⟩
    · rw [h, if_pos ⟨zero_ok, by decide⟩]
    · rw [h, if_pos ⟨by simp [Nd.ok, Nd.bare, Nd.one], by simp [Nd.one]⟩]
  · unfold holdsB
    rw [hup, hH, decide_eq_true rfl, Bool.true_and, hW]
    dsimp only
    rcases hsd.cases with h | ⟨x, hx, h, h3', _⟩
    · rw [h.1]; rfl
    · rw [h]
      rw [Nat.zero_add] at h3'
      have := hsd.len
      have h5 := (com_ge (by omega)).2 h3'
      rw [Bool.or_eq_true]
      exact .inr (decide_eq_true h5)
  · rw [Bool.eq_iff_iff, List.any_eq_true]
    constructor
    · intro h
      obtain ⟨q, hq, hk⟩ := hthere h
      exact ⟨q, hq, decide_eq_true hk⟩
    · rintro ⟨q, hq, hk⟩
      exact hthere2 q hq (of_decide_eq_true hk)
  · intro q hq hk
    unfold saysH
    rw [hthere2 q hq hk, if_pos rfl, hW]
    dsimp only
    rw [hone q hq hk]; rfl
end Go.Proofs.Ytigmpdhnhkdeiaa
/- The statement SpanSingles, in values. -/
namespace Go.Proofs.Ytigmpdhnhkdeiaa
open Go Go.RowKit
attribute [local irreducible] wpT
theorem spL_ok {fr to : List UInt8} {s : Sp} (hs : s.wf) (he : spE fr to fr s = 0) : ∀ q ∈ spL fr to s, q.1.length = 32 ∧ q.2.length ≤ 1024 := fun q hq => by
  obtain ⟨t, ht, hlen, hval⟩ := spE_zero he
  obtain ⟨_, p2, p3, p4, _, _⟩ := rd_parts ht hs.p
  have hL : spL fr to s = ((t.leaves.filter fun x => hasB fr to x.1).map (·.1)).zip s.v := by unfold spL; rw [spRS_some fr ht]; rfl
  rw [hL] at hq
  obtain ⟨i, hi, e⟩ := List.getElem_of_mem hq
  rw [List.length_zip, List.length_map] at hi
  rw [List.getElem_zip, List.getElem_map] at e
  rw [← e]
  constructor
  · have := List.getElem_mem (l := t.leaves.filter fun x => hasB fr to x.1) (n := i) (by omega)
    exact (p3 _ (List.mem_filter.1 this).1).1
  · have := (hval i (by omega)).1
    rwa [List.getD_eq_getElem?_getD, List.getElem?_eq_getElem (by omega)] at this
theorem spL_len {fr to : List UInt8} {s : Sp} : (spL fr to s).length ≤ s.v.length := by
  unfold spL; rw [List.length_zip]; omega
theorem cmp_self (p : List UInt8) : Lib.compareBytes p p = 0 := (cmp_zero p p).2 rfl
theorem spE_nil (fr : List UInt8) : spE fr fr fr ⟨[], []⟩ = 11 := by
  unfold spE
  rw [if_neg (by simp), cmp_self, if_neg (by decide), if_neg]
  rintro ⟨h, _⟩
  unfold spRS at h
  rw [plS_nil] at h
  cases h
set_option maxRecDepth 20000 in
set_option maxHeartbeats 8000000 in
theorem spanSingles_v (fr to key : List UInt8) (h1 : fr.length = 32) (h2 : to.length = 32) (h3 : key.length = 32) (s : Sp) (hp : ∀ b ∈ s.p, b.wf) (hv : ∀ x ∈ s.v, x.length ≤ 34359730000) (hpl : s.p.length ≤ 1048576) (hvl : s.v.length ≤ 1048576) :
    VC Try.prog 9 [.ba fr, .ba to, s.av, .ba key] [] (.v (.bool true)) := by
  have hw1 := brs_len s.p
  have hw2 := bss_len s.v
  refine mE Try.func9 ?_; intro N w0 a w hN hR H
  simp only [Sp.av] at H
  have hX := And.intro @hw1 (And.intro @hw2 (And.intro @h1 (And.intro @h2 (@h3))))
  refine mW ?_; clear H; intro a w H
  refine mC H (fun hb => ?_) (fun hb => ?_)
  · refine mW ?_; clear H; intro a w H
    refine wp_ret ?_; exact mEnd [] [] [.tmp 8] [_] hN hR H
  · have hlen : s.p.length ≤ 3000 ∧ s.v.length ≤ 260 := by
      cases hd : decide ((3000 : Int) < (s.p.length : Int))
      · rw [hd] at hb
        have : decide ((260 : Int) < (s.v.length : Int)) = false := hb
        rw [decide_eq_false_iff_not] at this hd; omega
      · rw [hd] at hb; cases hb
    clear hb
    have hs : s.wf := ⟨hp, by omega, by omega, hv⟩
    have c1 := sroot_v fr to h1 h2 s hs
    have c2 := scheck_v fr to h1 h2 s hs
    have hHl := spH_len fr to fr s hs
    have c3 := scheck_v fr fr h1 h1 ⟨[], []⟩ ⟨fun _ h => (by cases h), by decide, by decide, fun _ h => (by cases h)⟩
    rw [spE_nil] at c3
    have c4 := fun r hr => sreadf_v r fr to hr h1 h2 s hs
    have hok := fun he k hk hh => sgl_ok h1 h2 (s := s) (key := k) hk hs he hh
    have c5 := fun k hk => ssingle_v fr to k h1 h2 hk s hs
    have hLo := fun he => spL_ok (fr := fr) (to := to) hs he
    have hLl := spL_len (fr := fr) (to := to) (s := s)
    have hHz : spE fr to fr s ≠ 0 → spH fr to fr s = List.replicate 32 0 := fun h => by unfold spH; rw [if_neg h]; rfl
    have hEk := fun k => spE_key fr to k fr s
    unfold spRE at c4
    unfold spWE at c5
    generalize spE fr to fr s = e at *
    generalize hHe : spH fr to fr s = h at *
    simp only [hEk] at c5
    simp only [Sp.av, brs, bss, List.map_nil] at c3
    simp only [Sp.av] at c1 c2 c4 c5
    clear hX; have hX := And.intro @hw1 (And.intro @hw2 (And.intro @h1 (And.intro @h2 (And.intro @h3 (@hHl)))))
    refine mW ?_; clear H; intro a w H
    refine mCall [] [] (c1) H ?_; clear H; intro a w H; try refine wpList_nil ?_
    refine mW ?_; clear H; intro a w H
    refine mCall [] [] (c2) H ?_; clear H; intro a w H; try refine wpList_nil ?_
    refine mW ?_; clear H; intro a w H
    refine mC H (fun hb => ?_) (fun hb => ?_)
    · simp at hb
    · clear hb
      refine mW ?_; clear H; intro a w H
      refine mC H (fun hb => ?_) (fun hb => ?_)
      · have he : e ≠ 0 := by simpa using hb
        rw [hHz he] at H
        refine mS ?_
        refine mW ?_; clear H; intro a w H
        refine mCallG [] [] (c3) H ?_; clear H; intro a w H; try refine wpList_nil ?_
        refine mW ?_; clear H; intro a w H
        refine wp_ret ?_; exact mEnd [] [] [.tmp 8] [_] hN hR H
      · have he : e = 0 := by simpa using hb
        subst he
        clear hb hHz
        have c4 := c4 h hHl
        rw [if_pos rfl, if_pos rfl, if_pos rfl] at c4
        have hok := hok rfl
        have hLo := hLo rfl
        simp only [if_true] at c5
        generalize hLe : spL fr to s = l at *
        have hml : (l.map prA).length = l.length := List.length_map ..
        clear hX; have hX := And.intro @hw1 (And.intro @hw2 (And.intro @h1 (And.intro @h2 (And.intro @h3 (And.intro @hHl (@hml))))))
        refine mW ?_; clear H; intro a w H
        refine mCall [] [] (c4) H ?_; clear H; intro a w H; try refine wpList_nil ?_
        refine mW ?_; clear H; intro a w H
        refine mC H (fun hb => ?_) (fun hb => ?_)
        · exact absurd hb (by decide)
        · clear hb
          refine mW ?_; clear H; intro a w H
          refine v_loop (fun i : Nat => ⟨[(14, none, .v (.int .i64 (i : Int))), (13, none, .sl (.ba 32) (bas (fr :: to :: key :: (l.take i).map (·.1))) (some 0)), (11, none, .sl prT (l.map prA) none), (9, none, .ptr 4 []), (6, none, .ptr 2 []), (5, none, .ptr 1 []), (4, none, .ptr 0 []), (8, none, .v (.bool false))],
            [(.ba 32, .ba fr), (.ba 32, .ba to), (ti25.ty, .st [.sl brT (brs s.p) none, .sl .sc (bss s.v) none]), (.ba 32, .ba key), (.ba 32, .ba h)], [], [(52, 3 + i)]⟩)
            (fun i => i ≤ l.length ∧ i ≤ 20) (fun i => 20 - i) 0 ⟨Nat.zero_le _, Nat.zero_le _⟩
            (H.to 5 1 ⟨Nat.le_trans hN (Nat.zero_le _), Nat.le_trans hR (Nat.zero_le _)⟩ ⟨rfl, rfl, rfl, rfl, rfl, rfl, rfl, rfl, trivial⟩ rfl rfl rfl rfl rfl) ?_
          clear H
          rintro i a w ⟨hi, hi20⟩ H
          refine mW ?_; clear H; intro a w H
          refine mC H (fun hb => ?_) (fun hb => ?_)
          · have hlt : i < l.length ∧ i < 20 := by
              cases hd : decide ((i : Int) < (l.length : Int))
              · rw [hd] at hb; cases hb
              · rw [hd] at hb
                have : decide ((i : Int) < 20) = true := hb
                rw [decide_eq_true_eq] at this hd; omega
            clear hb
            have hg : (l.map prA).getD i .any = .st [.ba (l[i]'hlt.1).1, .bs (l[i]'hlt.1).2 none] := by rw [List.getD_eq_getElem?_getD, List.getElem?_map, List.getElem?_eq_getElem hlt.1]; rfl
            have hq := hLo _ (List.getElem_mem hlt.1)
            have hq1 := hq.1
            have e2 : bas (fr :: to :: key :: (l.take (i + 1)).map (·.1)) = bas (fr :: to :: key :: (l.take i).map (·.1)) ++ [.ba (l[i]'hlt.1).1] := by
              rw [List.take_succ_eq_append_getElem hlt.1, List.map_append]; simp [bas]
            have hol : (bas (fr :: to :: key :: (l.take i).map (·.1))).length = 3 + i := by rw [bas_len]; simp only [List.length_cons, List.length_map, List.length_take]; omega
            generalize bas (fr :: to :: key :: (l.take i).map (·.1)) = o at *
            generalize l[i]'hlt.1 = q at *
            refine mS ?_
            clear hX; have hX := And.intro @hw1 (And.intro @hw2 (And.intro @h1 (And.intro @h2 (And.intro @h3 (And.intro @hHl (And.intro @hml (And.intro @hg (And.intro @hq1 (@hol)))))))))
            (try refine wp_region_lit ?_); refine mN 4 hN H ?_; clear H; intro a w H
            refine mW ?_; clear H; intro a w H
            rw [← e2, show (i : Int) + 1 = ((i + 1 : Nat) : Int) by omega] at H
            exact ⟨i + 1, ⟨hlt.1, hlt.2⟩, by omega, H.to 5 1 ⟨Nat.le_trans hN (Nat.zero_le _), Nat.le_trans hR (Nat.zero_le _)⟩ ⟨rfl, rfl, rfl, rfl, rfl, rfl, rfl, rfl, trivial⟩ rfl (by rfl) rfl rfl rfl⟩
          · clear hb
            have hK32 : ∀ k ∈ fr :: to :: key :: (l.take i).map (·.1), k.length = 32 := fun k hk => by
              rw [List.mem_cons, List.mem_cons, List.mem_cons] at hk
              rcases hk with rfl | rfl | rfl | hk
              · exact h1
              · exact h2
              · exact h3
              · obtain ⟨q, hq, rfl⟩ := List.mem_map.1 hk
                exact (hLo q (List.mem_of_mem_take hq)).1
            have hKl : (fr :: to :: key :: (l.take i).map (·.1)).length = 3 + i := by simp only [List.length_cons, List.length_map, List.length_take]; omega
            generalize fr :: to :: key :: (l.take i).map (·.1) = K at *
            have hbK := bas_len K
            refine mW ?_; clear H; intro a w H
            refine v_loop (fun j : Nat => ⟨[(15, none, .v (.int .i64 (j : Int))), (13, none, .sl (.ba 32) (bas K) (some 0)), (11, none, .sl prT (l.map prA) none), (9, none, .ptr 4 []), (6, none, .ptr 2 []), (5, none, .ptr 1 []), (4, none, .ptr 0 []), (8, none, .v (.bool false))],
              [(.ba 32, .ba fr), (.ba 32, .ba to), (ti25.ty, .st [.sl brT (brs s.p) none, .sl .sc (bss s.v) none]), (.ba 32, .ba key), (.ba 32, .ba h)], [], [(52, 3 + i)]⟩)
              (fun j => j ≤ K.length) (fun j => K.length - j) 0 (Nat.zero_le _)
              (H.to 5 1 ⟨Nat.le_trans hN (Nat.zero_le _), Nat.le_trans hR (Nat.zero_le _)⟩ ⟨rfl, rfl, rfl, rfl, rfl, rfl, rfl, rfl, trivial⟩ rfl rfl rfl rfl rfl) ?_
            clear H
            intro j a w hj H
            clear hX; have hX := And.intro @hw1 (And.intro @hw2 (And.intro @h1 (And.intro @h2 (And.intro @h3 (And.intro @hHl (And.intro @hml (@hbK)))))))
            refine mW ?_; clear H; intro a w H
            refine mC H (fun hb => ?_) (fun hb => ?_)
            · have hlt : j < K.length := by rw [decide_eq_true_eq] at hb; omega
              clear hb
              have hg := bas_get K j hlt
              have hk := hK32 _ (List.getElem_mem hlt)
              generalize K[j] = k at *
              have c5 := c5 k hk
              have hok := hok k hk
              have d1 := pcmp_v k fr hk h1
              have d2 := pcmp_v k to hk h2
              have hWl : ∀ hh : hasB fr to k = true, (spW fr to k s).wf := fun hh => (hok hh).wf
              generalize hWe : spW fr to k s = W at *
              obtain ⟨Ws, We⟩ := W
              have w5 : We.key.length = 32 ∧ We.v.length = 32 ∧ We.l.length = 32 ∧ We.r.length = 32 := by
                by_cases hh : hasB fr to k = true
                · exact ⟨(hWl hh).e.key, (hWl hh).e.v, (hWl hh).e.l, (hWl hh).e.r⟩
                · unfold spW at hWe
                  rw [if_neg (fun h => hh h.2)] at hWe
                  simp only [Pf.zero, Pf.mk.injEq] at hWe
                  rw [← hWe.2]; exact ⟨z32_len, z32_len, z32_len, z32_len⟩
              obtain ⟨w1, w2, w3, w4⟩ := w5
              simp only [Pf.av] at c5
              refine mS ?_
              clear hX; have hX := And.intro @hw1 (And.intro @hw2 (And.intro @h1 (And.intro @h2 (And.intro @h3 (And.intro @hHl (And.intro @hml (And.intro @hbK (And.intro @hg (And.intro @hk (And.intro @w1 (And.intro @w2 (And.intro @w3 (And.intro @w4 (@Nd.av.eq_1))))))))))))))
              (try refine wp_region_lit ?_); refine mN 4 hN H ?_; clear H; intro a w H
              refine mW ?_; clear H; intro a w H
              refine mCall [] [] (c5) H ?_; clear H; intro a w H; try refine wpList_nil ?_
              refine mW ?_; clear H; intro a w H
              refine mCall [] [] (d1) H ?_; clear H; intro a w H; try refine wpList_nil ?_
              refine mW ?_; clear H; intro a w H
              refine mCallG [] [] (d2) H ?_; clear H; intro a w H; try refine wpList_nil ?_
              refine mW ?_; clear H; intro a w H
              have hhas : (bif decide (Lib.compareBytes k fr < 0) then true else decide (0 < Lib.compareBytes k to)) = !hasB fr to k := by
                unfold hasB
                rw [show decide (0 ≤ Lib.compareBytes k fr) = !decide (Lib.compareBytes k fr < 0) by rw [← decide_not]; congr 1; rw [eq_iff_iff]; omega, show decide (Lib.compareBytes k to ≤ 0) = !decide (0 < Lib.compareBytes k to) by rw [← decide_not]; congr 1; rw [eq_iff_iff]; omega]
                cases decide (Lib.compareBytes k fr < 0) <;> cases decide (0 < Lib.compareBytes k to) <;> rfl
              simp only [hhas] at H
              refine mC H (fun hb => ?_) (fun hb => ?_)
              · have hh : hasB fr to k = false := by simpa using hb
                simp only [hh, Bool.false_eq_true, if_false, Bool.not_false] at H
                refine mW ?_; clear H; intro a w H
                refine mC H (fun hb => ?_) (fun hb => ?_)
                · exact absurd hb (by decide)
                · refine mW ?_; clear H; intro a w H
                  rw [show (j : Int) + 1 = ((j + 1 : Nat) : Int) by omega] at H
                  exact ⟨j + 1, hlt, by omega, H.to 5 1 ⟨Nat.le_trans hN (Nat.zero_le _), Nat.le_trans hR (Nat.zero_le _)⟩ ⟨rfl, rfl, rfl, rfl, rfl, rfl, rfl, rfl, trivial⟩ rfl rfl rfl rfl rfl⟩
              · have hh : hasB fr to k = true := by simpa using hb
                simp only [hh, if_true, Bool.not_true] at H
                clear hb
                obtain ⟨f1, f2, f3, f4, f5, f6⟩ := hok hh
                rw [hWe] at f1 f2
                rw [hWe, hHe] at f3 f4
                rw [hWe, hLe] at f5
                rw [hLe] at f6
                simp only [hWe] at f6
                have u1 := up_v k hk ⟨Ws, We⟩ f1 f2
                have u2 := says_v k hk ⟨Ws, We⟩ f1
                have u3 := holds_v h k hHl hk ⟨Ws, We⟩ f1 f2
                have u4 := saysH_len k ⟨Ws, We⟩ f1
                rw [f3] at u1
                rw [f4] at u3
                rw [f5] at u2
                generalize saysH k ⟨Ws, We⟩ = sh at *
                simp only [Pf.av] at u1 u2 u3
                clear hX; have hX := And.intro @hw1 (And.intro @hw2 (And.intro @h1 (And.intro @h2 (And.intro @h3 (And.intro @hHl (And.intro @hml (And.intro @hbK (And.intro @hg (And.intro @hk (And.intro @w1 (And.intro @w2 (And.intro @w3 (And.intro @w4 (And.intro @u4 (@Nd.av.eq_1)))))))))))))))
                refine mW ?_; clear H; intro a w H
                refine mCall [] [] (u1) H ?_; clear H; intro a w H; try refine wpList_nil ?_
                refine mW ?_; clear H; intro a w H
                refine mCall [] [] (u2) H ?_; clear H; intro a w H; try refine wpList_nil ?_
                refine mW ?_; clear H; intro a w H
                refine mCall [] [] (u3) H ?_; clear H; intro a w H; try refine wpList_nil ?_
                refine mW ?_; clear H; intro a w H
                refine v_loop (fun x : Nat => ⟨[(26, none, .v (.int .i64 (x : Int))), (25, none, .v (.bool ((l.take x).any fun q => decide (q.1 = k)))), (24, none, errv 0), (23, none, .v (.bool true)), (22, none, .ptr 8 []), (21, none, .v (.bool (l.any fun q => decide (q.1 = k)))), (20, none, errv 0), (19, none, .ptr 7 []), (18, none, errv 0), (17, none, .ptr 6 []), (16, none, .ptr 5 []), (15, none, .v (.int .i64 (j : Int))), (13, none, .sl (.ba 32) (bas K) (some 0)), (11, none, .sl prT (l.map prA) none), (9, none, .ptr 4 []), (6, none, .ptr 2 []), (5, none, .ptr 1 []), (4, none, .ptr 0 []), (8, none, .v (.bool false))],
                  [(.ba 32, .ba fr), (.ba 32, .ba to), (ti25.ty, .st [.sl brT (brs s.p) none, .sl .sc (bss s.v) none]), (.ba 32, .ba key), (.ba 32, .ba h), (.ba 32, .ba k), (ti68.ty, .st [.sl (.ba 32) (bas Ws) none, .st [.v (B8 We.k), .ba We.key, .ba We.v, .ba We.l, .ba We.r]]), (.ba 32, .ba h), (.ba 32, .ba sh)], [], [(52, 3 + i)]⟩)
                  (fun x => x ≤ l.length) (fun x => l.length - x) 0 (Nat.zero_le _)
                  (H.to 9 1 ⟨Nat.le_trans hN (Nat.zero_le _), Nat.le_trans hR (Nat.zero_le _)⟩ ⟨rfl, rfl, rfl, rfl, rfl, rfl, rfl, rfl, rfl, rfl, rfl, rfl, rfl, rfl, rfl, rfl, rfl, rfl, rfl, trivial⟩ rfl rfl rfl rfl rfl) ?_
                clear H
                intro x a w hx H
                refine mW ?_; clear H; intro a w H
                refine mC H (fun hb => ?_) (fun hb => ?_)
                · have hlt3 : x < l.length := by rw [decide_eq_true_eq] at hb; omega
                  clear hb
                  have hg3 : (l.map prA).getD x .any = .st [.ba l[x].1, .bs l[x].2 none] := by rw [List.getD_eq_getElem?_getD, List.getElem?_map, List.getElem?_eq_getElem hlt3]; rfl
                  have hq := hLo _ (List.getElem_mem hlt3)
                  have hq1 := hq.1
                  have f6 := f6 _ (List.getElem_mem hlt3)
                  have hvv := value_v l[x].2 (by omega)
                  have hvl3 := valH_len l[x].2
                  have ea : ((l.take (x + 1)).any fun q => decide (q.1 = k)) = (((l.take x).any fun q => decide (q.1 = k)) || decide (l[x].1 = k)) := by
                    rw [List.take_succ_eq_append_getElem hlt3, List.any_append]; simp
                  generalize l[x] = q at *
                  clear hX; have hX := And.intro @hw1 (And.intro @hw2 (And.intro @h1 (And.intro @h2 (And.intro @h3 (And.intro @hHl (And.intro @hml (And.intro @hbK (And.intro @hg (And.intro @hk (And.intro @w1 (And.intro @w2 (And.intro @w3 (And.intro @w4 (And.intro @u4 (And.intro @hg3 (And.intro @hq1 (@hvl3)))))))))))))))))
                  refine mS ?_; refine mD 9 [] [] H ?_; clear H; intro gS H
                  refine mTN 3 hN H ?_; clear H; intro a w H; simp only [List.drop_succ_cons, List.drop_zero, List.drop_nil]
                  refine mT ?_; clear H; intro a w H
                  refine v_drawNil H ?_; clear H; intro H
                  refine mC H (fun hb => ?_) (fun hb => ?_)
                  · have hqk : q.1 = k := by simpa using hb
                    have f6 := f6 hqk
                    refine mW ?_; clear H; intro a w H
                    refine mS ?_; refine mD 9 [6] [0] H ?_; clear H; intro gS H
                    refine mTN 4 hN H ?_; clear H; intro a w H; simp only [List.drop_succ_cons, List.drop_zero, List.drop_nil]
                    refine mT ?_; clear H; intro a w H
                    refine mCallT [] [] (hvv) H ?_; clear H; intro a w H
                    refine mT ?_; clear H; intro a w H
                    refine v_drawNil H ?_; clear H; intro H
                    refine mC H (fun hb => ?_) (fun hb => ?_)
                    · rw [f6] at hb; simp at hb
                    · refine mW ?_; clear H; intro a w H
                      have e2 : true = ((l.take (x + 1)).any fun q => decide (q.1 = k)) := by rw [ea, hqk]; simp
                      rw [show (x : Int) + 1 = ((x + 1 : Nat) : Int) by omega] at H
                      exact ⟨x + 1, hlt3, by omega, H.to 9 1 ⟨Nat.le_trans hN (Nat.zero_le _), Nat.le_trans hR (Nat.zero_le _)⟩ ⟨rfl, by rw [← e2]; rfl, rfl, rfl, rfl, rfl, rfl, rfl, rfl, rfl, rfl, rfl, rfl, rfl, rfl, rfl, rfl, rfl, rfl, trivial⟩ rfl rfl rfl rfl rfl⟩
                  · have hqk : ¬ q.1 = k := by simpa using hb
                    refine mW ?_; clear H; intro a w H
                    have e2 : ((l.take x).any fun q => decide (q.1 = k)) = ((l.take (x + 1)).any fun q => decide (q.1 = k)) := by rw [ea, decide_eq_false hqk, Bool.or_false]
                    rw [show (x : Int) + 1 = ((x + 1 : Nat) : Int) by omega] at H
                    exact ⟨x + 1, hlt3, by omega, H.to 9 1 ⟨Nat.le_trans hN (Nat.zero_le _), Nat.le_trans hR (Nat.zero_le _)⟩ ⟨rfl, by rw [← e2]; rfl, rfl, rfl, rfl, rfl, rfl, rfl, rfl, rfl, rfl, rfl, rfl, rfl, rfl, rfl, rfl, rfl, rfl, trivial⟩ rfl rfl rfl rfl rfl⟩
                · have hge : x = l.length := by rw [decide_eq_false_iff_not] at hb; omega
                  subst hge
                  rw [List.take_length] at H
                  generalize (l.any fun q => decide (q.1 = k)) = A at *
                  clear hX; have hX := And.intro @hw1 (And.intro @hw2 (And.intro @h1 (And.intro @h2 (And.intro @h3 (And.intro @hHl (And.intro @hml (And.intro @hbK (And.intro @hg (And.intro @hk (And.intro @w1 (And.intro @w2 (And.intro @w3 (And.intro @w4 (@u4))))))))))))))
                  refine mW ?_; clear H; intro a w H
                  refine mC H (fun hb => ?_) (fun hb => ?_)
                  · cases A <;> simp at hb
                  · refine mW ?_; clear H; intro a w H
                    rw [show (j : Int) + 1 = ((j + 1 : Nat) : Int) by omega] at H
                    exact ⟨j + 1, hlt, by omega, H.to 5 1 ⟨Nat.le_trans hN (Nat.zero_le _), Nat.le_trans hR (Nat.zero_le _)⟩ ⟨rfl, rfl, rfl, rfl, rfl, rfl, rfl, rfl, trivial⟩ rfl rfl rfl rfl rfl⟩
            · clear hb
              refine mW ?_; clear H; intro a w H
              refine wp_ret ?_; exact mEnd [] [] [.tmp 8] [_] hN hR H
end Go.Proofs.Ytigmpdhnhkdeiaa
/- Nodes among the arguments. -/
namespace Go.Proofs.Ytigmpdhnhkdeiaa
open Go Go.RowKit
end Go.Proofs.Ytigmpdhnhkdeiaa
/- Parts of sketches and spans among the arguments. -/
namespace Go.Proofs.Ytigmpdhnhkdeiaa
open Go Go.RowKit
theorem br_sh {M d : Nat} {a : AV} (h : Sh tab M (d + 2) 54 a) : ∃ b : Br, a = b.av ∧ b.wf := by
  obtain ⟨az, rfl, hs⟩ := h.rcd rfl rfl
  clear h; have h := hs; clear hs; dsimp only [List.map] at h
  obtain ⟨a0, r, rfl, h0, h⟩ := shl_cons h
  obtain ⟨a1, r, rfl, h1, h⟩ := shl_cons h
  obtain ⟨a2, r, rfl, h2, h⟩ := shl_cons h
  obtain ⟨a3, r, rfl, h3, h⟩ := shl_cons h
  obtain rfl := shl_nil h
  obtain ⟨n, rfl, hn⟩ := h0.int rfl rfl
  obtain ⟨u, hu⟩ := u8_of hn
  obtain ⟨k, rfl, hk⟩ := h1.arr rfl rfl
  obtain ⟨v, rfl, hv⟩ := h2.arr rfl rfl
  obtain ⟨g, rfl, hg⟩ := h3.arr rfl rfl
  exact ⟨⟨u, k, v, g⟩, by rw [hu]; rfl, ⟨hk, hv, hg⟩⟩
theorem brs_sh {M d : Nat} {a : AV} (h : Sh tab M (d + 3) 22 a) : ∃ l : List Br, a = .sl ti54.ty (l.map Br.av) none ∧ (∀ b ∈ l, b.wf) ∧ l.length ≤ M := by
  obtain ⟨es, rfl, hl, he⟩ := h.slc rfl rfl rfl
  obtain ⟨ys, rfl, hy⟩ := sh_list (q := Br.wf) (f := Br.av) (fun x hx => br_sh hx) he
  exact ⟨ys, rfl, hy, by simpa using hl⟩
theorem sp_sh {M d : Nat} {a : AV} (h : Sh tab M (d + 5) 25 a) : ∃ (p : List Br) (v : List (List UInt8)), a = .st [.sl ti54.ty (p.map Br.av) none, .sl .sc (bss v) none] ∧ (∀ b ∈ p, b.wf) ∧ p.length ≤ M ∧ v.length ≤ M ∧ ∀ x ∈ v, x.length ≤ M := by
  obtain ⟨az, rfl, hs⟩ := h.rcd rfl rfl
  clear h; have h := hs; clear hs; dsimp only [List.map] at h
  obtain ⟨a0, r, rfl, h0, h⟩ := shl_cons h
  obtain ⟨a1, r, rfl, h1, h⟩ := shl_cons h
  obtain rfl := shl_nil h
  obtain ⟨p, rfl, hp, hpl⟩ := brs_sh h0
  obtain ⟨es, rfl, hl, he⟩ := h1.slc rfl rfl rfl
  obtain ⟨ys, rfl, hy⟩ := sh_list (q := fun l : List UInt8 => l.length ≤ M) (f := fun l => AV.bs l none) (fun x hx => hx.bytes rfl rfl rfl) he
  exact ⟨p, ys, rfl, hp, hpl, by simpa using hl, hy⟩
end Go.Proofs.Ytigmpdhnhkdeiaa
/- SpanSingles, of all arguments of its types. -/
namespace Go.Proofs.Ytigmpdhnhkdeiaa
open Go Go.RowKit
theorem spanSingles_az (az : List AV) (h : ShL (Sh tab 1048576 6) [52, 52, 25, 52] az) : VC Try.prog 9 az [] (.v (.bool true)) := by
  obtain ⟨a0, r, rfl, h0, h⟩ := shl_cons h
  obtain ⟨a1, r, rfl, h1, h⟩ := shl_cons h
  obtain ⟨a2, r, rfl, h2, h⟩ := shl_cons h
  obtain ⟨a3, r, rfl, h3, h⟩ := shl_cons h
  obtain rfl := shl_nil h
  obtain ⟨fr, rfl, q0⟩ := h0.arr rfl rfl
  obtain ⟨to, rfl, q1⟩ := h1.arr rfl rfl
  obtain ⟨p, v, rfl, hp, hpl, hvl, hv⟩ := sp_sh h2
  obtain ⟨key, rfl, q3⟩ := h3.arr rfl rfl
  exact spanSingles_v fr to key q0 q1 q3 ⟨p, v⟩ hp (fun x hx => Nat.le_trans (hv x hx) (by decide)) hpl hvl
end Go.Proofs.Ytigmpdhnhkdeiaa
