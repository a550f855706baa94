/- slices.Clone of entries, in values. -/
import Derived.Test.YthphhnkoilcofaaVec
import Derived.Lib.SliceRun
import Derived.Test.YthphhnkoilcofaaRShaZ
import Derived.Shelf.SlicesE.Reverse
set_option linter.unusedSimpArgs false
set_option linter.unusedVariables false
namespace Go.Proofs.Ythphhnkoilcofaa
open Go Go.RowKit
section
variable {P : Program} {τ : Tab} {w0 w : World} {N : Gh} {g : Gh} {st : St} {nt : Nat} {a : Act}
/-- A slice of no elements, laid out: it may grow. -/
theorem v_mk0 {ops : Array Oper} {Q : Exit → Act → World → Prop} {rest : List Oper} {o : Oper} {t e : Nat} {i j : TI} (hτ : τ.ok P) (hi : Tab.get t τ = some i) (hid : i.d = .slc e) (hj : Tab.get e τ = some j) (hs : 0 < j.ty.size) (H : Rel P w0 N nt st a w)
    (k : ∀ a w, Rel P w0 N nt ((⟨st.t, st.bx ++ [(.vc e j.ty, .vc 0 [])], st.fz, st.rw⟩ : St).put o.dst none (.vw st.bx.length 0 0)) a w → wpList P ops Q rest a w) (hgd : o.guard = none := by rfl) (ho : o.op = .buildSlice t 0 #[] := by rfl) (hd : okDst nt none o.dst = true := by rfl) : wpList P ops Q (o :: rest) a w := by
  obtain ⟨g, HI, hF⟩ := H
  have hok := Tab.get_ok hτ hi
  have hdd := hok.d
  rw [hid] at hdd
  have hjok := Tab.get_ok hτ hj
  obtain ⟨g', l1, I1, h1⟩ := HI.boxG (x := ⟨w.heap.size, e, .vc e j.ty, [], false, 0, 0, false, none⟩) (a := .vc 0 []) (w' := w.alloc (.cells #[] e)) rfl (grown_alloc w _) (fun _ => ⟨rfl, .of rfl (Blk.new w e #[])⟩) (fun e => by cases e) (fun e => by cases e)
    (.inr (.inl ⟨j.ty, 0, [], fun _ => [], [], ⟨_, rfl, rfl⟩, rfl, rfl, rfl, hs, ⟨Nat.zero_le _, fun _ => rfl⟩, rfl, (by show 0 = 0 * _; rw [Nat.zero_mul]), fun u hu => (by cases hu), fun k hk => absurd hk (by simp)⟩))
  refine wpList_plain hgd fun K hK => ?_
  unfold Oper.wp
  have he : (execOp a.eval o).run P w = .ok (.value (.slice (some ⟨w.heap.size, 0, none⟩) 0 0)) (w.alloc (.cells #[] e)) := by
    obtain ⟨dst, op, ty, pos, after, gd⟩ := o
    dsimp only at ho
    subst ho
    simp [execOp, Instr.buildSlice, run_underlying (show P.underlying t = _ from hdd), hjok.sizeOf w, Instr.fill, newRow]
    rw [show (Array.map (fun _ : Nat => (default : Value)) (Array.range 0)) = #[] from Array.eq_empty_of_size_eq_zero (by simp)]
  rw [he, Oper.upon_value]
  refine hK _ _ (k _ _ ⟨g', ?_, (hF.mono l1.1).put hd (fun _ => (RC.vw h1 rfl (Nat.le_refl _) (Nat.le_refl _) (Nat.zero_le _) fun _ => ⟨rfl, .inr ⟨rfl, rfl⟩⟩).rv1) rfl (fun h => absurd trivial h)⟩)
  cases o.dst <;> exact I1
/-- Is a slice that stays as it is nil? -/
theorem v_isNil {ops : Array Oper} {Q : Exit → Act → World → Prop} {rest : List Oper} {o : Oper} {t e q : Nat} {x : Operand} {T : Ty} {es : List AV} (H : Rel P w0 N nt st a w) (ht : P.underlying t = some (.slice e))
    (k : ∀ b : Bool, (es ≠ [] → b = false) → ∀ a w, Rel P w0 N nt (st.put o.dst none (.v (.bool b))) a w → wpList P ops Q rest a w) (hgd : o.guard = none := by rfl) (ho : o.op = .binOp .eql t x (.const (.slice none 0 0)) q := by rfl) (hd : okDst nt none o.dst = true := by rfl) (hx : st.ev none x = .sl T es none := by rfl) : wpList P ops Q (o :: rest) a w := by
  obtain ⟨g, HI, hF⟩ := H
  have ex := ev_sound hF (c := none) trivial x
  rw [hx] at ex
  obtain ⟨_, A, c, F, e1, _, _, hr, _⟩ := ex.sl_inv.sl_inv
  injection e1 with e1
  refine wpList_plain hgd fun K hK => ?_
  unfold Oper.wp
  have he : (execOp a.eval o).run P w = .ok (.value (.bool A.isNone)) w := by
    obtain ⟨dst, op, ty, pos, after, gd⟩ := o
    dsimp only at ho
    subst ho
    have hg : (eqGuard .eql t x (.const (.slice none 0 0)) (.slice A es.length c) (.slice none 0 0)).run P w = .ok () w := by simp [eqGuard]
    have hb := Lib.run_eql_slice_nil w t e A es.length c 0 0 ht
    have ev0 : a.eval (.const (.slice none 0 0)) = .slice none 0 0 := rfl
    simp only [execOp, ev0, e1, Sem.run_bind, hg, Result.andThen_ok, hb, Sem.run_pure]
  rw [he, Oper.upon_value]
  refine hK _ _ (k A.isNone (fun hne => ?_) _ _ ⟨g, ?_, hF.put hd (fun _ => RV.v_of rfl) rfl (fun h => absurd trivial h)⟩)
  · rcases hr with h | ⟨b, o, hA, _⟩
    · exact absurd h hne
    · rw [hA]; rfl
  · cases o.dst <;> exact HI
end
theorem clone_v (l : List Pr) (hl : l ≠ []) (hn : l.length ≤ 34359738000) : VX Try.prog 132 [] [] [] [.sl prT (l.map prA) none] [(.vc 62 prT, .vc 1 (l.map prA))] [] [] (.vw 0 1 l.length) := by
  have hlm : (l.map prA).length = l.length := List.length_map ..
  have hne : l.map prA ≠ [] := fun h => hl (by simpa using h)
  refine mE Try.func132 ?_; intro N w0 a w hN hR H
  refine mW ?_; clear H; intro a w H
  refine v_isNil H Try.underlying57 ?_; clear H; intro b hb0 a w H
  have hbf := hb0 hne
  subst hbf
  replace H := nf H
  try refine wpList_nil ?_
  refine mW ?_; clear H; intro a w H
  refine mC H (fun hb => ?_) (fun hb => ?_)
  · cases hb
  · refine mS ?_
    (try refine wp_region_lit ?_)
    refine v_mk0 tab_ok (i := ti57) (j := ti62) rfl rfl rfl (by decide) H ?_; clear H; intro a w H
    replace H := nf H
    have hX := @hlm
    refine mW ?_; clear H; intro a w H
    refine wp_ret ?_; exact mEnd [0] [] [.tmp 2] [_] hN hR H
theorem clone0_v : VC Try.prog 132 [.sl prT [] none] [] (.sl prT [] none) := by
  refine mE Try.func132 ?_; intro N w0 a w hN hR H
  refine mW ?_; clear H; intro a w H
  refine v_isNil H Try.underlying57 ?_; clear H; intro b hb0 a w H
  clear hb0
  replace H := nf H
  try refine wpList_nil ?_
  refine mW ?_; clear H; intro a w H
  cases b with
  | true =>
    refine mC H (fun hb => ?_) (fun hb => ?_)
    · refine mW ?_; clear H; intro a w H
      refine wp_ret ?_; exact mEnd [] [] [.tmp 2] [_] hN hR H
    · cases hb
  | false =>
    refine mC H (fun hb => ?_) (fun hb => ?_)
    · cases hb
    · refine mS ?_
      (try refine wp_region_lit ?_)
      refine v_mk0 tab_ok (i := ti57) (j := ti62) rfl rfl rfl (by decide) H ?_; clear H; intro a w H
      replace H := nf H
      refine mW ?_; clear H; intro a w H
      have H := v_frz H 2 0 (Nat.le_trans hN (by decide)) rfl (by decide) rfl
      replace H := nf H
      refine wp_ret ?_; exact mEnd [] [] [.tmp 2] [_] hN hR H
theorem sort0_v : VC Try.prog 133 [.sl prT [] none, .v (.func (.func 134) #[] #[])] [] (.tup []) := by
  refine VC.ofA ⟨_, Try.func133, by kernel_rfl, by kernel_rfl⟩ fun w N vs hM hl hv => ?_
  obtain ⟨u, v, rfl, h1, h2⟩ := two (args := []) hl hv
  obtain ⟨_, A, c, F, e1, _⟩ := h1.sl_inv.sl_inv
  injection e1 with e1
  subst e1
  refine (AnyF.slices_SortFunc_none srtL A c _ w).mono ?_
  rintro e w' ⟨rfl, rfl⟩
  exact ⟨_, rfl, Below.refl _ _, ⟨[], rfl, rfl, fun i a u ha _ => by simp at ha⟩⟩
end Go.Proofs.Ythphhnkoilcofaa
/- node.sorted: entries by rising key, or why they may not be. -/
namespace Go.Proofs.Ythphhnkoilcofaa
open Go Go.RowKit
def chkP : List (List UInt8) → List Pr → Nat
  | _, [] => 0
  | ks, p :: l => if 1024 < p.2.length then 4 else if p.1 ∈ ks then 6 else chkP (ks ++ [p.1]) l
def errP (l : List Pr) : Nat := if 4096 < l.length then 4 else chkP [] l
def keysP (l : List Pr) : List (List UInt8) := l.map (·.1)
theorem chkP_dis : ∀ (ks : List (List UInt8)) (l : List Pr), chkP ks l = 0 → Dis l ∧ ∀ x ∈ l, x.1 ∉ ks
  | _, [], _ => ⟨List.Pairwise.nil, fun x hx => by cases hx⟩
  | ks, p :: l, h => by
    unfold chkP at h
    split at h
    · cases h
    · split at h
      · cases h
      · rename_i hn
        obtain ⟨h1, h2⟩ := chkP_dis _ l h
        refine ⟨List.pairwise_cons.2 ⟨fun y hy e => h2 y hy (by simp [e]), h1⟩, fun x hx => ?_⟩
        rcases List.mem_cons.1 hx with rfl | hx
        · exact hn
        · exact fun hm => h2 x hx (List.mem_append_left _ hm)
theorem chkP_cons (ks : List (List UInt8)) (l : List Pr) (k : Nat) (h : k < l.length) : chkP ks (l.drop k) = if 1024 < l[k].2.length then 4 else if l[k].1 ∈ ks then 6 else chkP (ks ++ [l[k].1]) (l.drop (k + 1)) := by
  rw [List.drop_eq_getElem_cons h]; rfl
def resP (l : List Pr) : AV := if errP l = 0 then .tup [.sl prT ((srt l).map prA) none, .v (.int .i64 0)] else .tup [.sl prT [] none, .v (.int .i64 (errP l : Int))]
theorem ktP : KT Try.prog 37 32 := KT.of Try.underlying37 Try.underlying5 (by kernel_rfl) (by kernel_rfl) (by kernel_rfl) (by kernel_rfl) (by kernel_rfl) (by decide +kernel)
theorem prA_get (l : List Pr) (k : Nat) (h : k < l.length) : (l.map prA).getD k .any = .st [.ba l[k].1, .bs l[k].2 none] := by simp [prA, List.getD_eq_getElem?_getD, h]
set_option maxRecDepth 20000 in
set_option maxHeartbeats 1000000 in
theorem sorted_v (l : List Pr) (hk : K32 l) (hl : l.length ≤ 34359738000) : VC Try.prog 88 [.sl prT (l.map prA) none] [] (resP l) := by
  have hlm : (l.map prA).length = l.length := List.length_map ..
  refine mE Try.func88 ?_; intro N w0 a w hN hR H
  have hX := @hlm
  refine mW ?_; clear H; intro a w H
  refine mC H (fun hb => ?_) (fun hb => ?_)
  · have he : errP l = 4 := by unfold errP; rw [if_pos (by simp at hb; omega)]
    have hr : resP l = .tup [.sl prT [] none, .v (.int .i64 4)] := by unfold resP; rw [he]; rfl
    rw [hr]
    refine mW ?_; clear H; intro a w H
    refine wp_ret ?_; exact mEnd [] [] [.tmp 2, .tmp 3] [_, _] hN hR H
  · have hle : l.length ≤ 4096 := by simp at hb; omega
    have he : errP l = chkP [] l := by unfold errP; rw [if_neg (by omega)]
    clear hb
    replace H := mK [0, 2, 3] 0 0 hN hR H
    refine mS ?_
    (try refine wp_region_lit ?_)
    refine v_mkMap (.ba 32) .sc H ?_; clear H; intro a w H
    replace H := nf H
    refine mW ?_; clear H; intro a w H
    refine v_loop (fun k : Nat => ⟨[(14, none, .v (.int .i64 (k : Int))), (13, none, .v (.int .i64 (l.length : Int))), (12, none, .sl prT (l.map prA) none), (4, none, .mr 0), (3, none, .v (.int .i64 0)), (2, none, .v (.slice none 0 0)), (0, none, .sl prT (l.map prA) none)],
      [(.mp (.ba 32) .sc, .mp ((keysP (l.take k)).map .ba) (List.replicate k (.v (.bool true))))], [], []⟩) (fun k => k ≤ l.length ∧ chkP (keysP (l.take k)) (l.drop k) = chkP [] l) (fun k => l.length - k) 0 ⟨Nat.zero_le _, rfl⟩ (H.to 1 0 ⟨Nat.le_trans hN (by decide), hR⟩ ⟨rfl, rfl, rfl, rfl, rfl, rfl, rfl, trivial⟩ rfl rfl rfl rfl rfl) ?_
    clear H
    rintro k a w ⟨hk1, hk2⟩ H
    refine mW ?_; clear H; intro a w H
    refine mC H (fun hb => ?_) (fun hb => ?_)
    · have hlt : k < l.length := by simpa using hb
      clear hb
      have hg := prA_get l k hlt
      have hp32 := hk _ (List.getElem_mem hlt)
      have hstep := chkP_cons (keysP (l.take k)) l k hlt
      rw [hk2] at hstep
      have htk : keysP (l.take (k + 1)) = keysP (l.take k) ++ [l[k].1] := by unfold keysP; rw [List.take_succ_eq_append_getElem hlt, List.map_append]; rfl
      obtain ⟨p, hpp⟩ : ∃ p, p = l[k] := ⟨_, rfl⟩
      rw [← hpp] at hg hp32 hstep htk
      obtain ⟨kb, vb⟩ := p
      dsimp only at hg hp32 hstep htk
      refine mS ?_
      clear hX; have hX := And.intro @hlm (@hg)
      (try refine wp_region_lit ?_); refine mN 3 hN H ?_; clear H; intro a w H
      refine mW ?_; clear H; intro a w H
      refine mC H (fun hb => ?_) (fun hb => ?_)
      · have hv : 1024 < vb.length := by simp at hb; omega
        have he4 : errP l = 4 := by rw [he, hstep, if_pos hv]
        have hr : resP l = .tup [.sl prT [] none, .v (.int .i64 4)] := by unfold resP; rw [he4]; rfl
        rw [hr]
        refine mW ?_; clear H; intro a w H
        refine wp_ret ?_; exact mEnd [] [] [.tmp 2, .tmp 3] [_, _] hN hR H
      · have hv : ¬ 1024 < vb.length := by simp at hb; omega
        clear hb
        rw [if_neg hv] at hstep
        refine mS ?_
        (try refine wp_region_lit ?_); refine mN 3 hN H ?_; clear H; intro a w H
        refine v_look ktP H Try.underlying205 Try.zeroValue4 (z := .v (.bool false)) (fun g => RV.v_of rfl) hp32 ?_ ?_
        · intro hnm
          clear H; intro a w H
          replace H := nf H
          rw [if_neg hnm] at hstep
          refine mW ?_; clear H; intro a w H
          refine mC H (fun hb => ?_) (fun hb => ?_)
          · cases hb
          · refine mS ?_
            (try refine wp_region_lit ?_); refine mN 3 hN H ?_; clear H; intro a w H
            refine v_mapNew ktP H Try.underlying205 hp32 hnm ?_; clear H; intro a w H
            replace H := nf H
            try refine wpList_nil ?_
            refine mW ?_; clear H; intro a w H
            exact ⟨k + 1, ⟨hlt, by rw [htk, ← hstep]⟩, by omega, H.to 1 0 ⟨Nat.le_trans hN (by decide), hR⟩ ⟨rfl, rfl, rfl, rfl, rfl, rfl, rfl, trivial⟩ (by rw [htk, List.map_append, List.replicate_succ']; rfl) rfl rfl rfl rfl⟩
        · intro j v hj hvj
          clear H; intro a w H
          have hvt : v = .v (.bool true) := by
            have := List.mem_of_getElem? hvj
            exact (List.mem_replicate.1 this).2
          subst hvt
          rw [if_pos (List.mem_of_getElem? hj)] at hstep
          have he6 : errP l = 6 := by rw [he, hstep]
          have hr : resP l = .tup [.sl prT [] none, .v (.int .i64 6)] := by unfold resP; rw [he6]; rfl
          rw [hr]
          replace H := nf H
          refine mW ?_; clear H; intro a w H
          refine mC H (fun hb => ?_) (fun hb => ?_)
          · refine mW ?_; clear H; intro a w H
            refine wp_ret ?_; exact mEnd [] [] [.tmp 2, .tmp 3] [_, _] hN hR H
          · cases hb
    · have hge : k = l.length := by simp at hb; omega
      clear hb
      subst hge
      rw [List.drop_length] at hk2
      have he0 : errP l = 0 := by rw [he, ← hk2]; rfl
      have hdis := (chkP_dis [] l (by rw [← hk2]; rfl)).1
      have hr : resP l = .tup [.sl prT ((srt l).map prA) none, .v (.int .i64 0)] := by unfold resP; rw [if_pos he0]
      rw [hr]
      replace H := mK [0, 2, 3] 0 0 hN hR H
      by_cases hl0 : l = []
      · subst hl0
        have hs0 : srt [] = [] := rfl
        rw [hs0]
        simp only [List.map_nil] at H ⊢
        refine mS ?_
        clear hX
        (try refine wp_region_lit ?_); refine mN 1 hN H ?_; clear H; intro a w H
        refine mCall [] [] (clone0_v) H ?_; clear H; intro a w H; try refine wpList_nil ?_
        refine mW ?_; clear H; intro a w H
        refine mCall [] [] (sort0_v) H ?_; clear H; intro a w H; try refine wpList_nil ?_
        refine mW ?_; clear H; intro a w H
        refine wp_ret ?_; exact mEnd [] [] [.tmp 2, .tmp 3] [_, _] hN hR H
      · have hc := clone_v l hl0 hl
        have hs := sort_v l 1 hdis (by omega)
        have hsl : (srt l).length = l.length := (srt_perm l).length_eq
        refine mS ?_
        clear hX
        (try refine wp_region_lit ?_); refine mN 1 hN H ?_; clear H; intro a w H
        refine mCall [] [] (hc) H ?_; clear H; intro a w H; try refine wpList_nil ?_
        refine mW ?_; clear H; intro a w H
        refine mCall [0] [] (hs) H ?_; clear H; intro a w H; try refine wpList_nil ?_
        refine mW ?_; clear H; intro a w H
        have H := v_frz H 2 0 (Nat.le_trans hN (by decide)) rfl (by rw [List.length_map, hsl]; exact Nat.le_refl _) rfl
        replace H := nf H
        have htl : ((srt l).map prA).take l.length = (srt l).map prA := List.take_of_length_le (by rw [List.length_map, hsl]; exact Nat.le_refl _)
        rw [htl] at H
        refine wp_ret ?_; exact mEnd [] [] [.tmp 2, .tmp 3] [_, _] hN hR H
end Go.Proofs.Ythphhnkoilcofaa
/- Digests of a byte and parts: the program's. -/
namespace Go.Proofs.Ythphhnkoilcofaa
open Go Go.RowKit
theorem of_v (t : UInt8) (ls : List (List UInt8)) (hb : ls.flatten.length ≤ 34359737000) (hl : ls.length ≤ 34359737000) : VC Try.prog 80 [.v (B8 t), .sl .sc (bss ls) none] [] (.ba (sum (t :: ls.flatten))) := by
  have hbl := bss_len ls
  have ht := t.toNat_lt
  refine mE Try.func80 ?_; intro N w0 a w hN hR H
  have hX := And.intro @ren_s8v (@ren_shv)
  have hY := And.intro @s8v.eq_1 (And.intro @shv.eq_1 (And.intro @W32.eq_1 (@h0.eq_1)))
  refine mW ?_; clear H; intro a w H
  refine mCall [] [] (new_v) H ?_; clear H; intro a w H; try refine wpList_nil ?_
  refine mW ?_; clear H; intro a w H
  obtain ⟨s1, b1, n1, h1, hw1⟩ := write_g [] [t] h0 (List.replicate 64 0) 0 good_nil (by simp) 0 (by decide)
  refine mCall [1] [] (hw1) H ?_; clear H; intro a w H; try refine wpList_nil ?_
  refine mW ?_; clear H; intro a w H
  refine v_loop (fun i : S8 × List UInt8 × Nat × Nat => ⟨[(4, none, .ptr 0 []), (5, none, .ptr 1 []), (15, none, .v (.int .i64 (i.2.2.2 : Int))), (14, none, .v (.int .i64 (ls.length : Int))), (13, none, .sl .sc (bss ls) none)], [(.ba 32, .ba (List.replicate 32 0)), (ti248.ty, shv i.1 i.2.1 i.2.2.1 (1 + (ls.take i.2.2.2).flatten.length))], [], []⟩)
    (fun i => Good (t :: (ls.take i.2.2.2).flatten) i.1 i.2.1 i.2.2.1 ∧ i.2.2.2 ≤ ls.length) (fun i => ls.length - i.2.2.2) (s1, b1, n1, 0) ⟨by simpa using h1, Nat.zero_le _⟩
    (H.to 2 0 ⟨Nat.le_trans hN (by decide), hR⟩ ⟨rfl, rfl, rfl, by rw [hbl]; rfl, rfl, trivial⟩ rfl rfl rfl rfl rfl) ?_
  clear H
  rintro ⟨s2, b2, n2, k⟩ a w ⟨h2, hk⟩ H
  dsimp only at h2 hk H
  refine mW ?_; clear H; intro a w H
  refine mC H (fun hb => ?_) (fun hb => ?_)
  · have hlt : k < ls.length := by simpa using hb
    have hf := flat_take_le ls (k + 1)
    rw [flat_take ls k hlt, List.length_append] at hf
    refine wp_skip ?_
    refine wp_seq ?_
    refine wp_block ?_
    refine wp_seq ?_
    (try refine wp_region_lit ?_); refine mN 2 hN H ?_; clear H; intro a w H
    rw [bss_get ls k hlt] at H
    refine mW ?_; clear H; intro a w H
    obtain ⟨s3, b3, n3, h3, hw3⟩ := write_g _ ls[k] s2 b2 n2 h2 (by omega) (1 + (ls.take k).flatten.length) (by omega)
    refine mCall [1] [] (hw3) H ?_; clear H; intro a w H; try refine wpList_nil ?_
    refine mW ?_; clear H; intro a w H
    refine ⟨(s3, b3, n3, k + 1), ⟨by rw [flat_take ls k hlt]; simpa using h3, hlt⟩, by dsimp only; omega, H.to 2 0 ⟨Nat.le_trans hN (by decide), hR⟩ ⟨rfl, rfl, rfl, rfl, rfl, trivial⟩ (by rw [flat_take ls k hlt, List.length_append]; simp only [List.take_succ_cons, List.take_zero]; rw [Nat.add_assoc]) rfl rfl rfl rfl⟩
  · have hge : k = ls.length := by simp at hb; omega
    subst hge
    rw [List.take_length] at h2 H
    have hsl := sum_length (t :: ls.flatten)
    have h1l : (t :: ls.flatten).length = 1 + ls.flatten.length := by simp; omega
    have hsum := sumS_v (t :: ls.flatten) s2 b2 n2 h2 (by rw [h1l]; omega)
    rw [h1l] at hsum
    refine mW ?_; clear H; intro a w H
    refine mCall [1] [] (hsum) H ?_; clear H; intro a w H; try refine wpList_nil ?_
    refine mW ?_; clear H; intro a w H
    refine wp_ret ?_; exact mEnd [] [] [.cell 4 27] [_] hN hR H
theorem empty_v : VC Try.prog 65 [] [] (.ba (sum [0])) := by
  have hsl := sum_length [0]
  refine mE Try.func65 ?_; intro N w0 a w hN hR H
  have hX := And.intro @ren_s8v (@ren_shv)
  have hY := And.intro @s8v.eq_1 (And.intro @shv.eq_1 (And.intro @W32.eq_1 (@h0.eq_1)))
  refine mW ?_; clear H; intro a w H
  refine mCall [] [] (of_v 0 [] (by simp) (by simp)) H ?_; clear H; intro a w H; try refine wpList_nil ?_
  refine mW ?_; clear H; intro a w H
  refine wp_ret ?_; exact mEnd [] [] [.cell 0 27] [_] hN hR H
end Go.Proofs.Ythphhnkoilcofaa
/- Nodes: what is read. -/
namespace Go.Proofs.Ythphhnkoilcofaa
open Go Go.RowKit
def Nd.one (a b : List UInt8) : Nd := ⟨1, a, b, z32, z32⟩
def Nd.two (a b : List UInt8) : Nd := ⟨2, z32, z32, a, b⟩
def decOk (l : List UInt8) : Prop := l = [0] ∨ (l.length = 65 ∧ (l.getD 0 0 = 1 ∨ l.getD 0 0 = 2))
instance (l : List UInt8) : Decidable (decOk l) := inferInstanceAs (Decidable (_ ∨ _))
def dec (l : List UInt8) : Nd := if l.length = 65 ∧ l.getD 0 0 = 1 then .one ((l.drop 1).take 32) (l.drop 33) else if l.length = 65 ∧ l.getD 0 0 = 2 then .two ((l.drop 1).take 32) (l.drop 33) else .zero
end Go.Proofs.Ythphhnkoilcofaa
/- What the statements share: bytes that are lent, and kept. -/
namespace Go.Proofs.Ythphhnkoilcofaa
open Go Go.RowKit
/-- The marks in the spare room. -/
def marks (n : Nat) : Nat → List UInt8
  | 0 => []
  | k + 1 => marks n k ++ [UInt8.ofNat (200 + (n + k) % 50)]
theorem marks_len (n k : Nat) : (marks n k).length = k := by
  induction k with
  | zero => rfl
  | succ k ih => simp [marks, ih]
theorem set_end (pre : List UInt8) (m : Nat) (z x : UInt8) (hm : 0 < m) : (pre ++ List.replicate m z).set pre.length x = pre ++ [x] ++ List.replicate (m - 1) z := by
  obtain ⟨m, rfl⟩ : ∃ k, m = k + 1 := ⟨m - 1, by omega⟩
  rw [List.set_append_right _ _ (Nat.le_refl _), Nat.sub_self, List.replicate_succ]
  simp
def lentOf (l : List UInt8) : List UInt8 := l ++ marks l.length 5
theorem lent_len (l : List UInt8) : (lentOf l).length = l.length + 5 := by simp [lentOf, marks_len]
theorem lent_v (l : List UInt8) (hl : l.length ≤ 34359738000) : VX Try.prog 81 [] [] [] [.bs l none] [(.ba (l.length + 5), .ba (lentOf l))] [0] [] (.bc (lentOf l) l.length (some 0)) := by
  have hml := fun k => marks_len l.length k
  refine mE Try.func81 ?_; intro N w0 a w hN hR H
  have h5 : ((l.length : Int) + 5).toNat = l.length + 5 := by omega
  have ht : List.take (l.length + 5) l = l := List.take_of_length_le (by omega)
  have hd : List.drop l.length (List.replicate (l.length + 5) (0 : UInt8)) = List.replicate 5 0 := by rw [List.drop_replicate]; congr 1; omega
  have hX := And.intro @h5 (And.intro @ht (@hd))
  refine mW ?_; clear H; intro a w H
  refine v_loop (fun k : Nat => ⟨[(0, none, .bs l none), (3, none, .win 0 [] 0 (l.length + 5)), (4, none, .v (.int .i64 ((l.length + k : Nat) : Int)))], [(.ba (l.length + 5), .ba (l ++ marks l.length k ++ List.replicate (5 - k) 0))], [], []⟩) (fun k => k ≤ 5) (fun k => 5 - k) 0 (by decide) (H.to 1 0 ⟨Nat.le_trans hN (by decide), hR⟩ ⟨rfl, rfl, rfl, trivial⟩ (by simp [marks]) rfl rfl rfl rfl) ?_
  clear H
  intro k a w hk H
  clear hX
  refine mW ?_; clear H; intro a w H
  refine mC H (fun hb => ?_) (fun hb => ?_)
  · have hlt : k < 5 := by simp at hb; omega
    have hpl : (l ++ marks l.length k).length = l.length + k := by rw [List.length_append, hml]
    have hs := set_end (l ++ marks l.length k) (5 - k) 0 (UInt8.ofNat (200 + (l.length + k) % 50)) (by omega)
    rw [hpl] at hs
    have hx : UInt8.ofNat ((200 + ((l.length + k : Nat) : Int) % 50) % 256).toNat = UInt8.ofNat (200 + (l.length + k) % 50) := by congr 1; omega
    refine mW ?_; clear H; intro a w H
    rw [hx, hs] at H
    exact ⟨k + 1, by omega, by omega, H.to 1 0 ⟨Nat.le_trans hN (by decide), hR⟩ ⟨rfl, rfl, by simp only [find]; rfl, trivial⟩ (by simp only [List.take_succ_cons, List.take_zero, marks, List.append_assoc, Nat.sub_sub]) rfl rfl rfl rfl⟩
  · have : k = 5 := by simp at hb; omega
    subst this
    rw [Nat.sub_self, List.replicate_zero, List.append_nil] at H
    refine mW ?_; clear H; intro a w H
    have H := v_bc H 2 0 hN rfl (by omega) rfl
    simp only [nilT, reduceIte, Nat.reduceEqDiff] at H
    have hX := @lentOf.eq_1
    refine wp_ret ?_; exact mEnd [0] [] [.tmp 2] [_] hN hR H
end Go.Proofs.Ythphhnkoilcofaa
/- The document's digests and nodes. -/
namespace Go.Proofs.Ythphhnkoilcofaa
open Go Go.RowKit
theorem textR_v (t : UInt8) (ls : List (List UInt8)) (hb : ls.flatten.length ≤ 34359738367) (hl : ls.length ≤ 34359738367) :
    VC Try.prog 188 [.v (B8 t), .sl .sc (bss ls) none] [(5, (t :: ls.flatten).length)] (.bs (t :: ls.flatten) (some 0)) := by
  have hbl := bss_len ls
  have ht : t.toNat < 256 := t.toNat_lt
  refine mE Try.func188 ?_; intro N w0 a w hN hR H
  refine mW ?_; clear H; intro a w H
  refine v_loop (fun k : Nat => ⟨[(6, none, .v (.int .i64 (k : Int))), (5, none, .bs (t :: (ls.take k).flatten) (some 0)), (1, none, .sl .sc (bss ls) none)], [], [], [(5, (t :: (ls.take k).flatten).length)]⟩) (fun k => k ≤ ls.length) (fun k => ls.length - k) 0 (Nat.zero_le _) (H.to 0 1 ⟨hN, Nat.le_trans hR (by decide)⟩ ⟨rfl, rfl, rfl, trivial⟩ rfl rfl rfl rfl rfl) ?_
  clear H
  intro k a w hk H
  refine mW ?_; clear H; intro a w H
  refine mC H (fun hb => ?_) (fun hb => ?_)
  · have hlt : k < ls.length := by rw [hbl] at hb; simpa using hb
    have hf := flat_take_le ls (k + 1)
    rw [flat_take ls k hlt, List.length_append] at hf
    refine wp_skip ?_
    repeat (first | refine wp_seq ?_ | refine wp_block ?_)
    (try refine wp_region_lit ?_); refine mN 5 hN H ?_; clear H; intro a w H
    rw [bss_get ls k hlt] at H
    refine mW ?_; clear H; intro a w H
    exact ⟨k + 1, hlt, by omega, H.to 0 1 ⟨hN, Nat.le_trans hR (by decide)⟩ ⟨rfl, by rw [flat_take ls k hlt]; rfl, rfl, trivial⟩ rfl (by rw [flat_take ls k hlt]; simp only [List.take_succ_cons, List.take_zero, List.length_cons, List.length_append, List.cons.injEq, Prod.mk.injEq, true_and, and_true]; omega) rfl rfl rfl⟩
  · have hge : k = ls.length := by rw [hbl] at hb; simp at hb; omega
    subst hge
    rw [List.take_length] at H
    refine mW ?_; clear H; intro a w H
    refine wp_ret ?_; exact mEnd [] [0] [.tmp 4] [_] hN hR H
set_option maxRecDepth 20000 in
theorem leafR_v (k v : List UInt8) (hk : k.length = 32) (hv : v.length = 32) :
    VC Try.prog 166 [.ba k, .ba v] [(5, 65)] (.bs (1 :: (k ++ v)) (some 0)) := by
  refine mE Try.func166 ?_; intro N w0 a w hN hR H
  refine mW ?_; clear H; intro a w H
  have hX := And.intro (List.take_of_length_le (Nat.le_of_eq hk)) (List.take_of_length_le (Nat.le_of_eq hv))
  refine mS ?_; refine mD 2 [2, 3] [] H ?_; clear H; intro gS H; refine mT ?_; clear H; intro a w H
  refine mCallT [] [] (textR_v 1 [k, v] (by simp; omega) (by simp)) H ?_; clear H; intro a w H
  refine mT ?_; clear H; intro a w H
  refine v_drawNil H ?_; clear H; intro H
  refine mW ?_; clear H; intro a w H
  clear hX; have hX := And.intro @hk (@hv)
  refine wp_ret ?_; exact mEnd [] [1] [.tmp 4] [_] hN hR H
set_option maxRecDepth 20000 in
theorem innerR_v (k v : List UInt8) (hk : k.length = 32) (hv : v.length = 32) :
    VC Try.prog 145 [.ba k, .ba v] [(5, 65)] (.bs (2 :: (k ++ v)) (some 0)) := by
  refine mE Try.func145 ?_; intro N w0 a w hN hR H
  refine mW ?_; clear H; intro a w H
  have hX := And.intro (List.take_of_length_le (Nat.le_of_eq hk)) (List.take_of_length_le (Nat.le_of_eq hv))
  refine mS ?_; refine mD 2 [2, 3] [] H ?_; clear H; intro gS H; refine mT ?_; clear H; intro a w H
  refine mCallT [] [] (textR_v 2 [k, v] (by simp; omega) (by simp)) H ?_; clear H; intro a w H
  refine mT ?_; clear H; intro a w H
  refine v_drawNil H ?_; clear H; intro H
  refine mW ?_; clear H; intro a w H
  clear hX; have hX := And.intro @hk (@hv)
  refine wp_ret ?_; exact mEnd [] [1] [.tmp 4] [_] hN hR H
end Go.Proofs.Ythphhnkoilcofaa
/- The document's look at a node. -/
namespace Go.Proofs.Ythphhnkoilcofaa
open Go Go.RowKit
end Go.Proofs.Ythphhnkoilcofaa
/- The document's nodes, written and read. -/
namespace Go.Proofs.Ythphhnkoilcofaa
open Go Go.RowKit
end Go.Proofs.Ythphhnkoilcofaa
/- Digests of the empty place, of leaves, of inner nodes. -/
namespace Go.Proofs.Ythphhnkoilcofaa
open Go Go.RowKit
def leafH (k v : List UInt8) : List UInt8 := sum (1 :: (k ++ v))
def innerH (l r : List UInt8) : List UInt8 := sum (2 :: (l ++ r))
theorem leafH_len (k v : List UInt8) : (leafH k v).length = 32 := sum_length _
theorem innerH_len (k v : List UInt8) : (innerH k v).length = 32 := sum_length _
set_option maxRecDepth 20000 in
theorem leaf_v (k v : List UInt8) (hk : k.length = 32) (hv : v.length = 32) : VC Try.prog 136 [.ba k, .ba v] [] (.ba (leafH k v)) := by
  have h := of_v 1 [k, v] (by simp; omega) (by simp)
  have e : [k, v].flatten = k ++ v := by simp
  rw [e] at h
  have hsl := sum_length (1 :: (k ++ v))
  unfold leafH
  refine mE Try.func136 ?_; intro N w0 a w hN hR H
  refine mW ?_; clear H; intro a w H
  have hX := And.intro (List.take_of_length_le (Nat.le_of_eq hk)) (List.take_of_length_le (Nat.le_of_eq hv))
  refine mS ?_; refine mD 0 [2, 3, 4] [] H ?_; clear H; intro gS H; refine mT ?_; clear H; intro a w H
  refine mCallT [] [] (h) H ?_; clear H; intro a w H
  refine mT ?_; clear H; intro a w H
  refine v_drawNil H ?_; clear H; intro H
  clear hX; have hX := And.intro @hk (@hv)
  refine wp_ret ?_; exact mEnd [] [] [.cell 4 27] [_] hN hR H
set_option maxRecDepth 20000 in
theorem inner_v (k v : List UInt8) (hk : k.length = 32) (hv : v.length = 32) : VC Try.prog 67 [.ba k, .ba v] [] (.ba (innerH k v)) := by
  have h := of_v 2 [k, v] (by simp; omega) (by simp)
  have e : [k, v].flatten = k ++ v := by simp
  rw [e] at h
  have hsl := sum_length (2 :: (k ++ v))
  unfold innerH
  refine mE Try.func67 ?_; intro N w0 a w hN hR H
  refine mW ?_; clear H; intro a w H
  have hX := And.intro (List.take_of_length_le (Nat.le_of_eq hk)) (List.take_of_length_le (Nat.le_of_eq hv))
  refine mS ?_; refine mD 0 [2, 3, 4] [] H ?_; clear H; intro gS H; refine mT ?_; clear H; intro a w H
  refine mCallT [] [] (h) H ?_; clear H; intro a w H
  refine mT ?_; clear H; intro a w H
  refine v_drawNil H ?_; clear H; intro H
  clear hX; have hX := And.intro @hk (@hv)
  refine wp_ret ?_; exact mEnd [] [] [.cell 4 27] [_] hN hR H
end Go.Proofs.Ythphhnkoilcofaa
/- Roots of entries at a depth; entries that rise part where their bit does. In plain Lean. -/
namespace Go.Proofs.Ythphhnkoilcofaa
open Go Go.RowKit
abbrev En := List UInt8 × List UInt8
def base (l : List En) : List UInt8 := match l with
  | [] => sum [0]
  | x :: _ => leafH x.1 x.2
def half (b : Bool) (d : Nat) (l : List En) : List En := l.filter fun x => bitN x.1 d == b
def rootA : Nat → Nat → List En → List UInt8
  | 0, _, l => base l
  | f + 1, d, l => if l.length < 2 then base l else innerH (rootA f (d + 1) (half false d l)) (rootA f (d + 1) (half true d l))
theorem rootA_len : ∀ f d l, (rootA f d l).length = 32
  | 0, _, [] => sum_length _
  | 0, _, _ :: _ => leafH_len _ _
  | f + 1, d, l => by
    unfold rootA
    split
    · exact rootA_len 0 d l
    · exact innerH_len _ _
theorem rootA_small (f d : Nat) (l : List En) (h : l.length < 2) : rootA f d l = base l := by
  cases f with
  | zero => rfl
  | succ f => rw [rootA, if_pos h]
/-- Unlike keys that share their first d bits. -/
def Sep (d : Nat) (l : List En) : Prop := l.Pairwise fun x y => agree d x.1 y.1 ∧ ¬ agree 256 x.1 y.1
theorem Sep.side {d : Nat} {l : List En} (h : Sep d l) (b : Bool) : Sep (d + 1) (half b d l) := by
  unfold Sep half
  have h2 : (l.filter fun x => bitN x.1 d == b).Pairwise fun x y => agree d x.1 y.1 ∧ ¬ agree 256 x.1 y.1 := h.filter _
  refine List.Pairwise.imp_of_mem (fun {x y} hx hy hp => ⟨fun t ht => ?_, hp.2⟩) h2
  by_cases h1 : t < d
  · exact hp.1 t h1
  · rw [show t = d by omega]
    have e1 : bitN x.1 d = b := by simpa using (List.mem_filter.1 hx).2
    have e2 : bitN y.1 d = b := by simpa using (List.mem_filter.1 hy).2
    rw [e1, e2]
theorem Sep.deep {d : Nat} {l : List En} (h : Sep d l) (hd : 256 ≤ d) : l.length < 2 := by
  match l, h with
  | [], _ => simp
  | [_], _ => simp
  | x :: y :: l, h =>
    exfalso
    have := (List.pairwise_cons.1 h).1 y List.mem_cons_self
    exact this.2 fun t ht => this.1 t (by omega)
/-- Keys that rise and share their first d bits. -/
def Rise (d : Nat) (l : List En) : Prop := l.Pairwise fun x y => agree d x.1 y.1 ∧ ltB x.1 y.1
theorem Rise.sep {d : Nat} {l : List En} (h : Rise d l) : Sep d l := List.Pairwise.imp (fun {x y} hp => ⟨hp.1, fun ha => by
  obtain ⟨c, hc, _, h2, h3⟩ := hp.2
  rw [ha c hc, h3] at h2; cases h2⟩) h
theorem Rise.side {d : Nat} {l : List En} (h : Rise d l) (b : Bool) : Rise (d + 1) (half b d l) := by
  have h1 := h.sep.side b
  have h2 : (half b d l).Pairwise fun x y => agree d x.1 y.1 ∧ ltB x.1 y.1 := h.filter _
  exact List.Pairwise.imp₂ (fun x y p q => ⟨q.1, p.2⟩) h2 h1
/-- How many entries have the bit 0. -/
def partN (d : Nat) (l : List En) : Nat := (l.takeWhile fun x => !bitN x.1 d).length
theorem Rise.part {d : Nat} (hd : d < 256) : ∀ {l : List En}, Rise d l → half false d l = l.take (partN d l) ∧ half true d l = l.drop (partN d l)
  | [], _ => ⟨rfl, rfl⟩
  | x :: l, h => by
    obtain ⟨h1, h2⟩ := List.pairwise_cons.1 h
    obtain ⟨e1, e2⟩ := Rise.part hd h2
    cases hb : bitN x.1 d
    · have e : partN d (x :: l) = partN d l + 1 := by simp [partN, List.takeWhile_cons, hb]
      rw [e]
      refine ⟨?_, ?_⟩
      · rw [List.take_succ_cons, ← e1]; simp [half, List.filter_cons, hb]
      · rw [List.drop_succ_cons, ← e2]; simp [half, List.filter_cons, hb]
    · have e : partN d (x :: l) = 0 := by simp [partN, List.takeWhile_cons, hb]
      have hall : ∀ y ∈ l, bitN y.1 d = true := fun y hy => by
        obtain ⟨ha, c, hc, g1, g2, g3⟩ := h1 y hy
        rcases Nat.lt_trichotomy c d with hl | rfl | hg
        · have := ha c hl; rw [g2, g3] at this; cases this
        · rw [hb] at g2; cases g2
        · rw [← g1 d hg]; exact hb
      rw [e]
      refine ⟨?_, ?_⟩
      · rw [List.take_zero]
        simp only [half, List.filter_cons, hb]
        simp only [Bool.true_beq, Bool.false_eq_true, if_false]
        refine List.filter_eq_nil_iff.2 fun y hy => ?_
        simp [hall y hy]
      · rw [List.drop_zero]
        refine List.filter_eq_self.2 fun y hy => ?_
        rcases List.mem_cons.1 hy with rfl | hy
        · simp [hb]
        · simp [hall y hy]
theorem partN_le (d : Nat) (l : List En) : partN d l ≤ l.length := by
  unfold partN
  exact (List.takeWhile_sublist _).length_le
theorem Rise.chain {d : Nat} : ∀ {l : List En}, (∀ k (h : k + 1 < l.length), agree d (l[k]'(by omega)).1 l[k + 1].1 ∧ ltB (l[k]'(by omega)).1 l[k + 1].1) → Rise d l
  | [], _ => List.Pairwise.nil
  | [_], _ => by unfold Rise; simp
  | x :: y :: l, h => by
    have ih := Rise.chain (l := y :: l) fun k hk => h (k + 1) (by simpa using hk)
    have h0 := h 0 (by simp)
    refine List.pairwise_cons.2 ⟨fun z hz => ?_, ih⟩
    rcases List.mem_cons.1 hz with rfl | hz
    · exact h0
    · have := (List.pairwise_cons.1 ih).1 z hz
      exact ⟨h0.1.trans this.1, h0.2.trans this.2⟩
theorem half_mem {b : Bool} {d : Nat} {l : List En} {x : En} (h : x ∈ half b d l) : x ∈ l := (List.mem_filter.1 h).1
end Go.Proofs.Ythphhnkoilcofaa
/- A region that draws its order, in which one loud operation (new memory) may come up before or behind another one (a call): both are walked. -/
namespace Go.Proofs.Ythphhnkoilcofaa
open Go
section
variable {P : Program} {ops : Array Oper} {Q : Exit → Act → World → Prop} {S : World → Prop} {L A : List Nat} {c f : Nat}
/-- Which operations are listed: those below k; f besides. -/
def Upto (n : Nat) (k : Nat) (x : Bool) (f : Nat) (listed : Array Bool) : Prop := listed.size = n ∧ ∀ i, i < n → ∀ d, listed.getD i d = (decide (i < k) || (x && i == f))
theorem Upto.set {n k f : Nat} {x : Bool} {listed : Array Bool} (h : Upto n k x f listed) (hk : k < n) : Upto n (k + 1) x f (listed.setIfInBounds k true) := by
  refine ⟨by simpa using h.1, fun i hi d => ?_⟩
  by_cases hik : k = i
  · subst hik; simp [h.1, hk]
  · rw [getD_set_ne d hik, h.2 i hi d]
    congr 1
    simp; omega
theorem Upto.down {n k f : Nat} {x : Bool} {listed : Array Bool} (hn : n = ops.size) (h : Upto n k x f listed) (he : ∀ (j : Nat) (o : Oper), ops[j]? = some o → ∀ e ∈ o.after, Region.binds .any e = true → e.on < j)
    (hfe : x = true → ∀ o, ops[f]? = some o → ∀ e ∈ o.after, Region.binds .any e = true → e.on < k) : Down ops listed := by
  intro j o hj hl e hm hb
  have hjlt := (Array.getElem?_eq_some_iff.1 hj).1
  rw [h.2 j (by omega) false] at hl
  have h1 := he j o hj e hm hb
  rw [h.2 e.on (by omega) false]
  simp only [Bool.or_eq_true, decide_eq_true_eq, Bool.and_eq_true, beq_iff_eq] at hl ⊢
  rcases hl with hl | ⟨hx, rfl⟩
  · exact .inl (by omega)
  · exact .inl (hfe hx o hj e hm hb)
end
section
variable {P : Program} {τ : Tab} {w0 w : World} {N : Gh} {g gS : Gh} {st st' sq sq' : St} {nt : Nat} {a : Act}
/-- Only boxes that are there may be frozen. -/
theorem v_fz (H : Rel P w0 N nt st a w) : Rel P w0 N nt ⟨st.t, st.bx, st.fz.filter fun i => decide (i < st.bx.length), st.rw⟩ a w := by
  obtain ⟨g, HI, hF⟩ := H
  refine ⟨g, ⟨HI.mem, HI.fr, HI.br, fun i x hx hf => ?_, HI.wr, HI.wz⟩, ⟨hF.sz, hF.df, hF.t, hF.u⟩⟩
  have h1 := HI.fz i x hx hf
  have h2 := (List.getElem?_eq_some_iff.1 hx).1
  rw [HI.br.len] at h2
  simp only [List.mem_filter, decide_eq_true_eq]
  exact ⟨h1, h2⟩
/-- A slot seen as something that says less. -/
theorem v_sub (H : Rel P w0 N nt st a w) (d : Nat) {x y : AV} (hs : sub 4 x y) (hx : isAny x = false) (ht : ∀ az, x ≠ .tup az) (hd : find d st.t = some (none, x)) : Rel P w0 N nt ⟨nilT d y st.t, st.bx, st.fz, st.rw⟩ a w := by
  obtain ⟨g, HI, hF⟩ := H
  refine ⟨g, HI, hF.sz, hF.df, fun p hp hg => ?_, fun p hp hg => by rcases nilT_mem hp with h | h; (subst h; exact absurd trivial hg); exact hF.u p h hg⟩
  rcases nilT_mem hp with h | h
  · subst h
    have h1 : RV g x (a.tmps.getD d undef) := hF.t _ (find_mem hd) trivial
    exact ((h1.rv1 hx ht).sub_ hs).rv
  · exact hF.t p h hg
end
end Go.Proofs.Ythphhnkoilcofaa
/- Values seen as others: a nil slice inside a box as a row that is none yet; an empty window as no bytes. -/
namespace Go.Proofs.Ythphhnkoilcofaa
open Go Go.RowKit
section
variable {P : Program} {τ : Tab} {w0 w w' : World} {N : Gh} {g g1 g2 : Gh} {st st' : St} {nt : Nat} {a : Act}
end
end Go.Proofs.Ythphhnkoilcofaa
/- Proofs as bytes: what may be, how it is told. -/
namespace Go.Proofs.Ythphhnkoilcofaa
open Go Go.RowKit
structure Pf where
  s : List (List UInt8)
  e : Nd
  deriving DecidableEq
structure Pf.wf (p : Pf) : Prop where
  s : ∀ h ∈ p.s, h.length = 32
  e : p.e.wf
def Pf.chk (p : Pf) : Int := if 256 < p.s.length then 4 else if p.e.ok ∧ p.e.k ≠ 2 then 0 else 2
/-- The digest of nothing. -/
def E0 : List UInt8 := sum [0]
def hidesB (s : List (List UInt8)) (t : Nat) : Bool := match s[t]? with | some h => h != E0 | none => false
def Pf.bits (p : Pf) : List UInt8 := bitsB p.s.length (hidesB p.s)
def hashes (s : List (List UInt8)) : List UInt8 := (s.filter (· != E0)).flatten
def Pf.text (p : Pf) : List UInt8 := [UInt8.ofNat (p.s.length / 256), UInt8.ofNat p.s.length] ++ (p.bits ++ (hashes p.s ++ p.e.text))
theorem hashes_len : ∀ (s : List (List UInt8)), (∀ h ∈ s, h.length = 32) → (hashes s).length ≤ 32 * s.length
  | [], _ => by simp [hashes]
  | h :: s, hs => by
    have ih := hashes_len s fun x hx => hs x (List.mem_cons_of_mem _ hx)
    have h1 := hs h List.mem_cons_self
    unfold hashes at ih ⊢
    rw [List.filter_cons]
    split
    · simp only [List.flatten_cons, List.length_append, List.length_cons]; omega
    · simp only [List.length_cons]; omega
end Go.Proofs.Ythphhnkoilcofaa
/- Roots of entries that rise: the program's. -/
namespace Go.Proofs.Ythphhnkoilcofaa
open Go Go.RowKit
def partK (d : Nat) (ks : List (List UInt8)) : Nat := (ks.takeWhile fun x => !bitN x d).length
theorem partK_of (d : Nat) : ∀ (ks : List (List UInt8)) (k : Nat), k ≤ ks.length → (∀ j (h : j < ks.length), j < k → bitN ks[j] d = false) → (∀ h : k < ks.length, bitN ks[k] d = true) → partK d ks = k
  | [], k, hk, _, _ => by simp at hk; subst hk; rfl
  | x :: ks, 0, _, _, h2 => by
    have := h2 (by simp)
    simp only [List.getElem_cons_zero] at this
    simp [partK, List.takeWhile_cons, this]
  | x :: ks, k + 1, hk, h1, h2 => by
    have h0 := h1 0 (by simp) (by omega)
    simp only [List.getElem_cons_zero] at h0
    have ih := partK_of d ks k (by simpa using hk) (fun j h hj => by have := h1 (j + 1) (by simpa using h) (by omega); rwa [List.getElem_cons_succ] at this) (fun h => by have := h2 (by simpa using h); rwa [List.getElem_cons_succ] at this)
    unfold partK at ih ⊢
    simp [List.takeWhile_cons, h0, ih]
theorem partN_K (d : Nat) (l : List En) : partK d (l.map Prod.fst) = partN d l := by
  unfold partK partN
  induction l with
  | nil => rfl
  | cons x l ih => simp only [List.map_cons, List.takeWhile_cons]; cases bitN x.1 d <;> simp [ih]
theorem pbit_zero (p : List UInt8) (d : Nat) (hd : d < 256) : decide (pbit p (d : Int) = 0) = !bitN p d := by
  rw [pbit, if_pos (by omega), Int.toNat_natCast]
  cases bitN p d <;> rfl
def Wd (l : List En) : Prop := ∀ x ∈ l, x.1.length = 32 ∧ x.2.length = 32
theorem Wd.half {l : List En} (h : Wd l) (b : Bool) (d : Nat) : Wd (half b d l) := fun x hx => h x (half_mem hx)
end Go.Proofs.Ythphhnkoilcofaa
/- Keys as ways down: the document's functions. -/
namespace Go.Proofs.Ythphhnkoilcofaa
open Go Go.RowKit
theorem half_bit (c : UInt8) (m : Nat) (hm : m < 8) : c.toNat / 2 ^ (7 - m) % 2 = if bitAt c m then 1 else 0 := by
  rw [bitAt_test c m hm, Nat.testBit_eq_decide_div_mod_eq]
  have := Nat.mod_two_eq_zero_or_one (c.toNat / 2 ^ (7 - m))
  rcases this with h | h <;> rw [h] <;> rfl
set_option maxRecDepth 20000 in
theorem bitR_v (p : List UInt8) (hp : p.length = 32) (d : Int) : VC Try.prog 103 [.ba p, .v (.int .i64 d)] [] (.v (.int .i64 (pbit p d))) := by
  refine mE Try.func103 ?_; intro N w0 a w hN hR H
  refine mW ?_; clear H; intro a w H
  by_cases h : 0 ≤ d ∧ d < 256
  · have e8 := e8w d h.1
    skip
    refine mC H (fun hb => ?_) (fun hb => ?_)
    · exfalso; simp at hb; omega
    · obtain ⟨c, hc⟩ : ∃ c, c = p.getD (d.toNat / 8) 0 := ⟨_, rfl⟩
      have hc8 := c.toNat_lt
      have hX := And.intro @e8 (Eq.symm (hc))
      have hY := @e8
      refine mW ?_; clear H; intro a w H
      refine v_loop (fun k : Nat => ⟨[(6, none, .v (.int .i64 (k : Int))), (5, none, .v (.int .i64 ((c.toNat / 2 ^ k : Nat) : Int))), (1, none, .v (.int .i64 d))], [(.ba 32, .ba p)], [], []⟩) (fun k => k ≤ 7 - d.toNat % 8) (fun k => 8 - k) 0 (Nat.zero_le _) (H.to 1 0 ⟨Nat.le_trans hN (by decide), hR⟩ ⟨rfl, by rw [Nat.pow_zero, Nat.div_one]; rfl, rfl, trivial⟩ rfl rfl rfl rfl rfl) ?_
      clear H
      intro k a w hk H
      have hlt2 : c.toNat / 2 ^ k < 256 := Nat.lt_of_le_of_lt (Nat.div_le_self _ _) hc8
      obtain ⟨v, hv⟩ : ∃ v, v = c.toNat / 2 ^ k := ⟨_, rfl⟩
      rw [← hv] at H hlt2
      have hv' : PLift (v = c.toNat / 2 ^ k) := ⟨hv⟩
      clear hv
      clear hX
      clear hY
      refine mW ?_; clear H; intro a w H
      refine mC H (fun hb => ?_) (fun hb => ?_)
      · have hlt : k < 7 - d.toNat % 8 := by simp at hb; omega
        refine mW ?_; clear H; intro a w H
        have e2 : (v : Int) / 2 = ((c.toNat / 2 ^ (k + 1) : Nat) : Int) := by
          have hv : v = c.toNat / 2 ^ k := hv'.down
          rw [Nat.pow_succ, ← Nat.div_div_eq_div_mul, ← hv]; omega
        rw [e2] at H
        exact ⟨k + 1, hlt, by omega, H.to 1 0 ⟨Nat.le_trans hN (by decide), hR⟩ ⟨rfl, rfl, rfl, trivial⟩ rfl rfl rfl rfl rfl⟩
      · have hge : k = 7 - d.toNat % 8 := by simp at hb; omega
        subst hge
        have hb2 := half_bit c (d.toNat % 8) (by omega)
        have hv : v = c.toNat / 2 ^ (7 - d.toNat % 8) := hv'.down
        rw [← hv] at hb2
        clear hv
        have e3 : pbit p d = ((v % 2 : Nat) : Int) := by
          rw [pbit, if_pos h, hb2, hc]; unfold bitN; split <;> rfl
        rw [e3]
        refine mW ?_; clear H; intro a w H
        refine wp_ret ?_; exact mEnd [] [] [.tmp 4] [_] hN hR H
  · rw [pbit, if_neg h]
    refine mC H (fun hb => ?_) (fun hb => ?_)
    · refine mW ?_; clear H; intro a w H
      refine wp_ret ?_; exact mEnd [] [] [.tmp 4] [_] hN hR H
    · exfalso; simp at hb; omega
theorem pbit_nat (p : List UInt8) (k : Nat) (hk : k < 256) : pbit p (k : Int) = if bitN p k then 1 else 0 := by
  rw [pbit, if_pos (by omega), Int.toNat_natCast]
set_option maxRecDepth 20000 in
theorem commonR_v (p q : List UInt8) (hp : p.length = 32) (hq : q.length = 32) : VC Try.prog 91 [.ba p, .ba q] [] (.v (.int .i64 (com p q))) := by
  refine mE Try.func91 ?_; intro N w0 a w hN hR H
  refine mW ?_; clear H; intro a w H
  refine v_loop (fun k : Nat => ⟨[(5, none, .v (.int .i64 (k : Int))), (4, none, .v (.int .i64 0)), (3, none, .ptr 1 []), (2, none, .ptr 0 [])], [(.ba 32, .ba p), (.ba 32, .ba q)], [], []⟩) (fun k => k ≤ 256 ∧ agree k p q) (fun k => 256 - k) 0 ⟨Nat.zero_le _, fun t ht => by omega⟩ (H.to 2 0 ⟨Nat.le_trans hN (by decide), hR⟩ ⟨rfl, rfl, rfl, rfl, trivial⟩ rfl rfl rfl rfl rfl) ?_
  clear H
  rintro k a w ⟨hk, hag⟩ H
  have hp1 := bitR_v p hp (k : Int)
  have hq1 := bitR_v q hq (k : Int)
  refine mS ?_; refine mD 2 [5, 8] [6, 7] H ?_; clear H; intro gS H; refine mT ?_; clear H; intro a w H
  refine mCallTG [] [] (hp1) H ?_; clear H; intro a w H
  refine mT ?_; clear H; intro a w H
  refine mCallTG [] [] (hq1) H ?_; clear H; intro a w H
  refine mT ?_; clear H; intro a w H
  refine v_drawNil H ?_; clear H; intro H
  by_cases hk2 : k < 256
  · rw [pbit_nat p k hk2, pbit_nat q k hk2] at H
    refine mC H (fun hb => ?_) (fun hb => ?_)
    · have he : bitN p k = bitN q k := by
        revert hb
        cases bitN p k <;> cases bitN q k <;> simp
      refine mW ?_; clear H; intro a w H
      exact ⟨k + 1, ⟨hk2, fun t ht => by
        by_cases h1 : t < k
        · exact hag t h1
        · rw [show t = k by omega]; exact he⟩, by omega, H.to 2 0 ⟨Nat.le_trans hN (by decide), hR⟩ ⟨rfl, rfl, rfl, rfl, trivial⟩ rfl rfl rfl rfl rfl⟩
    · have hne : bitN p k ≠ bitN q k := fun e => by
        rw [e] at hb; simp at hb; omega
      have e := com_of hk hag fun _ => hne
      rw [e]
      refine mW ?_; clear H; intro a w H
      refine wp_ret ?_; exact mEnd [] [] [.tmp 4] [_] hN hR H
  · have e := com_of hk hag fun h => absurd h hk2
    rw [e]
    refine mC H (fun hb => ?_) (fun hb => ?_)
    · exfalso; simp at hb; omega
    · refine mW ?_; clear H; intro a w H
      refine wp_ret ?_; exact mEnd [] [] [.tmp 4] [_] hN hR H
end Go.Proofs.Ythphhnkoilcofaa
/- Digests of the empty place, of leaves, of inner nodes: the document's. -/
namespace Go.Proofs.Ythphhnkoilcofaa
open Go Go.RowKit
theorem ofHR_v (t : UInt8) (ls : List (List UInt8)) (hb : ls.flatten.length ≤ 34359737000) (hl : ls.length ≤ 34359737000) : VC Try.prog 142 [.v (B8 t), .sl .sc (bss ls) none] [] (.ba (sum (t :: ls.flatten))) := by
  have h1 := textR_v t ls (by omega) (by omega)
  have h2 := sumR_v (t :: ls.flatten) (by simp only [List.length_cons]; omega)
  have hsl := sum_length (t :: ls.flatten)
  refine mE Try.func142 ?_; intro N w0 a w hN hR H
  refine mW ?_; clear H; intro a w H
  refine mCall [] [] (h1) H ?_; clear H; intro a w H; try refine wpList_nil ?_
  refine mW ?_; clear H; intro a w H
  refine mCall [] [] (h2) H ?_; clear H; intro a w H; try refine wpList_nil ?_
  refine mW ?_; clear H; intro a w H
  refine wp_ret ?_; exact mEnd [] [] [.cell 4 26] [_] hN hR H
theorem emptyR_v : VC Try.prog 130 [] [] (.ba (sum [0])) := by
  have hsl := sum_length [0]
  refine mE Try.func130 ?_; intro N w0 a w hN hR H
  refine mW ?_; clear H; intro a w H
  refine mCall [] [] (ofHR_v 0 [] (by simp) (by simp)) H ?_; clear H; intro a w H; try refine wpList_nil ?_
  refine mW ?_; clear H; intro a w H
  refine wp_ret ?_; exact mEnd [] [] [.cell 0 26] [_] hN hR H
theorem leafHR_v (k v : List UInt8) (hk : k.length = 32) (hv : v.length = 32) : VC Try.prog 131 [.ba k, .ba v] [] (.ba (leafH k v)) := by
  have h1 := leafR_v k v hk hv
  have h2 := sumR_v (1 :: (k ++ v)) (by simp; omega)
  have hsl := sum_length (1 :: (k ++ v))
  have hl : (1 :: (k ++ v)).length = 65 := by simp; omega
  unfold leafH
  refine mE Try.func131 ?_; intro N w0 a w hN hR H
  refine mW ?_; clear H; intro a w H
  refine mCall [] [] (h1) H ?_; clear H; intro a w H; try refine wpList_nil ?_
  refine mW ?_; clear H; intro a w H
  refine mCall [] [] (h2) H ?_; clear H; intro a w H; try refine wpList_nil ?_
  refine mW ?_; clear H; intro a w H
  refine wp_ret ?_; exact mEnd [] [] [.cell 4 26] [_] hN hR H
theorem innerHR_v (k v : List UInt8) (hk : k.length = 32) (hv : v.length = 32) : VC Try.prog 110 [.ba k, .ba v] [] (.ba (innerH k v)) := by
  have h1 := innerR_v k v hk hv
  have h2 := sumR_v (2 :: (k ++ v)) (by simp; omega)
  have hsl := sum_length (2 :: (k ++ v))
  unfold innerH
  refine mE Try.func110 ?_; intro N w0 a w hN hR H
  refine mW ?_; clear H; intro a w H
  refine mCall [] [] (h1) H ?_; clear H; intro a w H; try refine wpList_nil ?_
  refine mW ?_; clear H; intro a w H
  refine mCall [] [] (h2) H ?_; clear H; intro a w H; try refine wpList_nil ?_
  refine mW ?_; clear H; intro a w H
  refine wp_ret ?_; exact mEnd [] [] [.cell 4 26] [_] hN hR H
end Go.Proofs.Ythphhnkoilcofaa
/- Proofs as bytes: how they are read. -/
namespace Go.Proofs.Ythphhnkoilcofaa
open Go Go.RowKit
/-- The sides that marks and bytes say, what is left, and whether bytes were lacking. -/
def runS : List Bool → List UInt8 → List (List UInt8) × List UInt8 × Bool
  | [], r => ([], r, false)
  | m :: ms, r => if m = true ∧ r.length < 32 then ([E0], r, true) else ((if m then r.take 32 else E0) :: (runS ms (if m then r.drop 32 else r)).1, (runS ms (if m then r.drop 32 else r)).2)
def marksOf (bits : List UInt8) (n : Nat) : List Bool := (List.range n).map fun i => bitAt (bits.getD (i / 8) 0) (i % 8)
def rdQ (l : List UInt8) : Pf × Bool :=
  if l.length < 2 then (⟨[], .zero⟩, false) else
  if 256 < num 0 (l.take 2) then (⟨[], .zero⟩, false) else
  if (l.drop 2).length < (num 0 (l.take 2) + 7) / 8 then (⟨[], .zero⟩, false) else
  let x := runS (marksOf ((l.drop 2).take ((num 0 (l.take 2) + 7) / 8)) (num 0 (l.take 2))) ((l.drop 2).drop ((num 0 (l.take 2) + 7) / 8))
  if x.2.2 then (⟨x.1, .zero⟩, false) else (⟨x.1, dec x.2.1⟩, decide (decOk x.2.1))
/-- Where the reading stands. -/
structure At (ms : List Bool) (l : List UInt8) (i : Nat × List (List UInt8) × List UInt8 × Bool) : Prop where
  k : i.1 ≤ ms.length
  len : i.2.1.length = i.1
  lr : i.2.2.1.length ≤ l.length
  ok : i.2.2.2 = false → runS ms l = (i.2.1 ++ (runS (ms.drop i.1) i.2.2.1).1, (runS (ms.drop i.1) i.2.2.1).2)
  no : i.2.2.2 = true → runS ms l = (i.2.1, i.2.2.1, true)
end Go.Proofs.Ythphhnkoilcofaa
/- Proofs as bytes: read, and told again. -/
namespace Go.Proofs.Ythphhnkoilcofaa
open Go Go.RowKit
def Pf.zero : Pf := ⟨[], .zero⟩
def pOk (l : List UInt8) : Prop := (rdQ l).2 = true ∧ (rdQ l).1.chk = 0 ∧ (rdQ l).1.text = l
instance (l : List UInt8) : Decidable (pOk l) := inferInstanceAs (Decidable (_ ∧ _))
end Go.Proofs.Ythphhnkoilcofaa
/- The digest at the top of a way: node.Up, and the document's. -/
namespace Go.Proofs.Ythphhnkoilcofaa
open Go Go.RowKit
end Go.Proofs.Ythphhnkoilcofaa
/- Proofs as bytes: the document's. -/
namespace Go.Proofs.Ythphhnkoilcofaa
open Go Go.RowKit
end Go.Proofs.Ythphhnkoilcofaa
/- A region at a function's end in which the named results are loaded and stored again: nothing changes. -/
namespace Go.Proofs.Ythphhnkoilcofaa
open Go Go.RowKit
section
variable {P : Program} {τ : Tab} {w0 w : World} {N : Gh} {st : St} {nt : Nat} {a : Act}
end
end Go.Proofs.Ythphhnkoilcofaa
/- What bytes say to whoever knows the root: verify, and the document's. -/
namespace Go.Proofs.Ythphhnkoilcofaa
open Go Go.RowKit
def valH (v : List UInt8) : List UInt8 := sum (3 :: v)
theorem valH_len (v : List UInt8) : (valH v).length = 32 := sum_length _
theorem value_v (v : List UInt8) (hv : v.length ≤ 34359730000) : VC Try.prog 23 [.bs v none] [] (.ba (valH v)) := by
  have h := of_v 3 [v] (by simp; omega) (by simp)
  have e : [v].flatten = v := by simp
  rw [e] at h
  have hsl := sum_length (3 :: v)
  unfold valH
  refine mE Try.func23 ?_; intro N w0 a w hN hR H
  refine mW ?_; clear H; intro a w H
  refine mCall [] [] (h) H ?_; clear H; intro a w H; try refine wpList_nil ?_
  refine mW ?_; clear H; intro a w H
  refine wp_ret ?_; exact mEnd [] [] [.cell 2 27] [_] hN hR H
theorem valueR_v (v : List UInt8) (hv : v.length ≤ 34359730000) : VC Try.prog 105 [.bs v none] [] (.ba (valH v)) := by
  have h := ofHR_v 3 [v] (by simp; omega) (by simp)
  have e : [v].flatten = v := by simp
  rw [e] at h
  have hsl := sum_length (3 :: v)
  unfold valH
  refine mE Try.func105 ?_; intro N w0 a w hN hR H
  refine mW ?_; clear H; intro a w H
  refine mCall [] [] (h) H ?_; clear H; intro a w H; try refine wpList_nil ?_
  refine mW ?_; clear H; intro a w H
  refine wp_ret ?_; exact mEnd [] [] [.cell 2 26] [_] hN hR H
end Go.Proofs.Ythphhnkoilcofaa
/- The root of entries that rise: node.parted, node.root. -/
namespace Go.Proofs.Ythphhnkoilcofaa
open Go Go.RowKit
def dgs (l : List Pr) : List En := l.map fun p => (p.1, valH p.2)
def V0 (l : List Pr) : Prop := ∀ x ∈ l, x.2.length ≤ 34359730000
theorem dgs_len (l : List Pr) : (dgs l).length = l.length := by simp [dgs]
theorem dgs_keys (l : List Pr) : (dgs l).map Prod.fst = keysP l := by simp [dgs, keysP]
theorem dgs_take (l : List Pr) (n : Nat) : (dgs l).take n = dgs (l.take n) := by simp [dgs, List.map_take]
theorem dgs_drop (l : List Pr) (n : Nat) : (dgs l).drop n = dgs (l.drop n) := by simp [dgs, List.map_drop]
theorem prs_take (l : List Pr) (n : Nat) : (l.map prA).take n = (l.take n).map prA := by simp [List.map_take]
theorem prs_drop (l : List Pr) (n : Nat) : (l.map prA).drop n = (l.drop n).map prA := by simp [List.map_drop]
set_option maxRecDepth 20000 in
theorem npart_v (l : List Pr) (hw : K32 l) (d : Nat) (hd : d < 256) (hl : l.length ≤ 34359730000) : VC Try.prog 102 [.sl prT (l.map prA) none, .v (.int .i64 (d : Int))] [] (.v (.int .i64 (partN d (dgs l) : Int))) := by
  have hxl : (l.map prA).length = l.length := List.length_map ..
  have hkl : (keysP l).length = l.length := by simp [keysP]
  rw [← partN_K, dgs_keys]
  refine mE Try.func102 ?_; intro N w0 a w hN hR H
  have hX := @hxl
  refine mW ?_; clear H; intro a w H
  refine v_loop (fun k : Nat => ⟨[(5, none, .v (.int .i64 (k : Int))), (4, none, .v (.int .i64 0)), (0, none, .sl prT (l.map prA) none), (1, none, .v (.int .i64 (d : Int)))], [], [], []⟩) (fun k => k ≤ l.length ∧ ∀ j (h : j < (keysP l).length), j < k → bitN (keysP l)[j] d = false) (fun k => l.length - k) 0 ⟨Nat.zero_le _, fun j h hj => by omega⟩ (H.to 0 0 ⟨hN, hR⟩ ⟨rfl, rfl, rfl, rfl, trivial⟩ rfl rfl rfl rfl rfl) ?_
  clear H
  rintro k a w ⟨hk, hall⟩ H
  by_cases hlt : k < l.length
  · have g1 := prA_get l k hlt
    have l1 := hw _ (List.getElem_mem hlt)
    have hb1 := bit_v l[k].1 l1 (d : Int)
    have hkk : (keysP l)[k]'(by omega) = l[k].1 := by simp [keysP]
    generalize l[k] = p at *
    obtain ⟨kb, vb⟩ := p
    dsimp only at g1 l1 hb1 hkk
    refine mS ?_
    clear hX; have hX := And.intro @hxl (@g1)
    have hY := @l1
    (try refine wp_region_lit ?_); refine mN 8 hN H ?_; clear H; intro a w H
    refine mW ?_; clear H; intro a w H
    refine mCallG [] [] (hb1) H ?_; clear H; intro a w H; try refine wpList_nil ?_
    refine mW ?_; clear H; intro a w H
    simp only [pbit_zero _ _ hd] at H
    refine mC H (fun hb => ?_) (fun hb => ?_)
    · have hbf : bitN kb d = false := by
        cases h : bitN kb d
        · rfl
        · rw [h] at hb; simp at hb
      refine mW ?_; clear H; intro a w H
      exact ⟨k + 1, ⟨hlt, fun j h hj => by
        by_cases h1 : j < k
        · exact hall j h h1
        · obtain rfl : j = k := by omega
          rw [hkk]; exact hbf⟩, by omega, H.to 0 0 ⟨hN, hR⟩ ⟨rfl, rfl, rfl, rfl, trivial⟩ rfl rfl rfl rfl rfl⟩
    · have hbt : bitN kb d = true := by
        cases h : bitN kb d
        · rw [h] at hb; simp [hlt] at hb
        · rfl
      have e := partK_of d (keysP l) k (by omega) hall fun _ => by rw [hkk]; exact hbt
      rw [e]
      refine mW ?_; clear H; intro a w H
      refine wp_ret ?_; exact mEnd [] [] [.tmp 4] [_] hN hR H
  · have hge : k = l.length := by omega
    subst hge
    have e := partK_of d (keysP l) l.length (by omega) hall fun h => absurd h (by omega)
    rw [e]
    refine mS ?_
    (try refine wp_region_lit ?_); refine mN 5 hN H ?_; clear H; intro a w H
    have hdd : (decide ((l.length : Int) < (l.length : Int))) = false := by simp
    simp only [hdd] at H
    refine mSk (.v (.bool false)) H ?_; clear H; intro a w H
    refine mSk (.v (.bool false)) H ?_; clear H; intro a w H
    refine mSk (.v (.bool false)) H ?_; clear H; intro a w H
    refine mSk (.v (.bool false)) H ?_; clear H; intro a w H
    refine mSk (.v (.bool false)) H ?_; clear H; intro a w H
    refine mSk (.v (.bool false)) H ?_; clear H; intro a w H
    refine mSk (.v (.bool false)) H ?_; clear H; intro a w H
    refine mSk (.v (.bool false)) H ?_; clear H; intro a w H
    refine mW ?_; clear H; intro a w H
    refine mC H (fun hb => ?_) (fun hb => ?_)
    · simp at hb
    · refine mW ?_; clear H; intro a w H
      refine wp_ret ?_; exact mEnd [] [] [.tmp 4] [_] hN hR H
set_option maxRecDepth 20000 in
theorem nroot_small (f d : Nat) (l : List Pr) (hs : l.length < 2) (hw : K32 l) (hv : V0 l) : VC Try.prog 90 [.sl prT (l.map prA) none, .v (.int .i64 (d : Int))] [] (.ba (rootA f d (dgs l))) := by
  rw [rootA_small f d _ (by rw [dgs_len]; exact hs)]
  match l, hs with
  | [], _ =>
    have hsl := sum_length [0]
    refine mE Try.func90 ?_; intro N w0 a w hN hR H
    simp only [List.map_nil] at H
    refine mW ?_; clear H; intro a w H
    refine mC H (fun hb => ?_) (fun hb => ?_)
    · refine mW ?_; clear H; intro a w H
      refine mCall [] [] (empty_v) H ?_; clear H; intro a w H; try refine wpList_nil ?_
      refine mW ?_; clear H; intro a w H
      refine wp_ret ?_; exact mEnd [] [] [.cell 4 27] [_] hN hR H
    · simp at hb
  | [x], _ =>
    have h1 := hw x List.mem_cons_self
    have h2 := value_v x.2 (hv x List.mem_cons_self)
    have h3 := valH_len x.2
    have hlf := leaf_v x.1 (valH x.2) h1 h3
    have hsl := leafH_len x.1 (valH x.2)
    obtain ⟨kb, vb⟩ := x
    dsimp only at h1 h2 h3 hlf hsl
    refine mE Try.func90 ?_; intro N w0 a w hN hR H
    simp only [List.map_cons, List.map_nil, prA] at H
    refine mW ?_; clear H; intro a w H
    refine mC H (fun hb => ?_) (fun hb => ?_)
    · simp at hb
    · refine mW ?_; clear H; intro a w H
      refine mC H (fun hb => ?_) (fun hb => ?_)
      · refine mW ?_; clear H; intro a w H
        refine mS ?_; refine mD 0 [8, 9, 10] [0, 1, 2, 3] H ?_; clear H; intro gS H; refine mT ?_; clear H; intro a w H
        refine mCallT [] [] (h2) H ?_; clear H; intro a w H
        refine mT ?_; clear H; intro a w H
        refine mCallT [] [] (hlf) H ?_; clear H; intro a w H
        refine mT ?_; clear H; intro a w H
        refine v_drawNil H ?_; clear H; intro H
        refine wp_ret ?_; exact mEnd [] [] [.cell 4 27] [_] hN hR H
      · simp at hb
theorem V0.take {l : List Pr} (h : V0 l) (n : Nat) : V0 (l.take n) := fun x hx => h x (List.mem_of_mem_take hx)
theorem V0.drop {l : List Pr} (h : V0 l) (n : Nat) : V0 (l.drop n) := fun x hx => h x (List.mem_of_mem_drop hx)
theorem K32.take {l : List Pr} (h : K32 l) (n : Nat) : K32 (l.take n) := fun x hx => h x (List.mem_of_mem_take hx)
theorem K32.drop {l : List Pr} (h : K32 l) (n : Nat) : K32 (l.drop n) := fun x hx => h x (List.mem_of_mem_drop hx)
set_option maxRecDepth 20000 in
theorem nroot_v : ∀ (f d : Nat) (l : List Pr), f + d = 256 → Rise d (dgs l) → K32 l → V0 l → l.length ≤ 34359730000 →
    VC Try.prog 90 [.sl prT (l.map prA) none, .v (.int .i64 (d : Int))] [] (.ba (rootA f d (dgs l))) := by
  intro f
  induction f with
  | zero =>
    intro d l hd hr hw hv hl
    exact nroot_small 0 d l (by have := hr.sep.deep (by omega); rwa [dgs_len] at this) hw hv
  | succ f ih =>
    intro d l hd hr hw hv hl
    by_cases hs : l.length < 2
    · exact nroot_small _ d l hs hw hv
    · rw [rootA, if_neg (by rw [dgs_len]; exact hs)]
      have hxl : (l.map prA).length = l.length := List.length_map ..
      obtain ⟨e1, e2⟩ := hr.part (by omega)
      have hn := partN_le d (dgs l)
      rw [dgs_len] at hn
      have hp := npart_v l hw d (by omega) hl
      have s1 := hr.side false
      have s2 := hr.side true
      rw [e1, dgs_take] at s1
      rw [e2, dgs_drop] at s2
      rw [e1, e2, dgs_take, dgs_drop]
      have c1 := ih (d + 1) (l.take (partN d (dgs l))) (by omega) s1 (hw.take _) (hv.take _) (by rw [List.length_take]; omega)
      have c2 := ih (d + 1) (l.drop (partN d (dgs l))) (by omega) s2 (hw.drop _) (hv.drop _) (by rw [List.length_drop]; omega)
      have r1 := rootA_len f (d + 1) (dgs (l.take (partN d (dgs l))))
      have r2 := rootA_len f (d + 1) (dgs (l.drop (partN d (dgs l))))
      generalize rootA f (d + 1) (dgs (l.take (partN d (dgs l)))) = a1 at *
      generalize rootA f (d + 1) (dgs (l.drop (partN d (dgs l)))) = a2 at *
      generalize partN d (dgs l) = n at *
      have hin := inner_v a1 a2 r1 r2
      have hsl := innerH_len a1 a2
      clear ih e1 e2 s1 s2
      refine mE Try.func90 ?_; intro N w0 a w hN hR H
      have hX := @hxl
      refine mW ?_; clear H; intro a w H
      refine mC H (fun hb => ?_) (fun hb => ?_)
      · exfalso; rw [decide_eq_true_eq] at hb; omega
      · refine mW ?_; clear H; intro a w H
        refine mC H (fun hb => ?_) (fun hb => ?_)
        · exfalso; rw [decide_eq_true_eq] at hb; omega
        · refine mW ?_; clear H; intro a w H
          refine mCall [] [] (hp) H ?_; clear H; intro a w H; try refine wpList_nil ?_
          refine mW ?_; clear H; intro a w H
          clear hX; have hX := And.intro @hxl (And.intro @prs_take (@prs_drop))
          refine mS ?_; refine mD 0 [5, 11, 12, 13] [6, 7, 8, 9, 10] H ?_; clear H; intro gS H; refine mT ?_; clear H; intro a w H
          refine mCallT [] [] (c1) H ?_; clear H; intro a w H
          refine mT ?_; clear H; intro a w H
          refine mCallT [] [] (c2) H ?_; clear H; intro a w H
          refine mT ?_; clear H; intro a w H
          refine mCallT [] [] (hin) H ?_; clear H; intro a w H
          refine mT ?_; clear H; intro a w H
          refine v_drawNil H ?_; clear H; intro H
          clear hX
          refine wp_ret ?_; exact mEnd [] [] [.cell 4 27] [_] hN hR H
end Go.Proofs.Ythphhnkoilcofaa
/- node.RootAt, node.Root: any entries. -/
namespace Go.Proofs.Ythphhnkoilcofaa
open Go Go.RowKit
def endsP (l : List Pr) : Nat := com (l.getD 0 ([], [])).1 (l.getD (l.length - 1) ([], [])).1
def rootE (l : List Pr) (d : Int) : List UInt8 × Nat :=
  if d < 0 ∨ 256 < d then (z32, 2) else if errP l ≠ 0 then (z32, errP l) else if 1 < l.length ∧ (endsP (srt l) : Int) < d then (z32, 2) else (rootA (256 - d.toNat) d.toNat (dgs (srt l)), 0)
theorem ends_rise {d : Nat} (l : List Pr) (hk : K32 l) (hr : Ris l) (hd : d ≤ 256) (h : l.length < 2 ∨ d ≤ endsP l) : Rise d (dgs l) := by
  unfold Rise dgs
  rw [List.pairwise_map]
  rw [List.pairwise_iff_getElem]
  intro i j hi hj hij
  have hlt := List.pairwise_iff_getElem.1 hr i j hi hj hij
  refine ⟨?_, hlt⟩
  rcases h with h | h
  · omega
  · have h0 : l.getD 0 ([], []) = l[0]'(by omega) := by simp [List.getD_eq_getElem?_getD, show 0 < l.length by omega]
    have h1 : l.getD (l.length - 1) ([], []) = l[l.length - 1]'(by omega) := by simp [List.getD_eq_getElem?_getD, show l.length - 1 < l.length by omega]
    unfold endsP at h
    rw [h0, h1] at h
    have ha := (com_ge hd).1 h
    have le : ∀ (a b : Nat) (ha : a < l.length) (hb : b < l.length), a ≤ b → l[a].1 = l[b].1 ∨ ltB l[a].1 l[b].1 := fun a b ha hb hab => by
      by_cases e : a = b
      · subst e; exact .inl rfl
      · exact .inr (List.pairwise_iff_getElem.1 hr a b ha hb (by omega))
    have mid : ∀ p q r : List UInt8, (p = q ∨ ltB p q) → (q = r ∨ ltB q r) → agree d p r → agree d p q := fun p q r h1 h2 ha => by
      rcases h1 with rfl | ⟨c, hc, g1, g2, g3⟩
      · exact agree_refl _ _
      · rcases h2 with rfl | ⟨e, he, k1, k2, k3⟩
        · exact ha
        · intro t ht
          by_cases htc : t < c
          · exact g1 t htc
          · exfalso
            rcases Nat.lt_trichotomy c e with hl | rfl | hg
            · have := ha c (by omega); rw [g2, ← k1 c hl, g3] at this; cases this
            · rw [g3] at k2; cases k2
            · have := ha e (by omega); rw [k3, g1 e hg, k2] at this; cases this
    have a1 := mid _ _ _ (le 0 i (by omega) hi (Nat.zero_le _)) (le i (l.length - 1) hi (by omega) (by omega)) ha
    have a2 := mid _ _ _ (le 0 j (by omega) hj (Nat.zero_le _)) (le j (l.length - 1) hj (by omega) (by omega)) ha
    exact a1.symm.trans a2
theorem chkP_vals : ∀ (ks : List (List UInt8)) (l : List Pr), chkP ks l = 0 → ∀ x ∈ l, x.2.length ≤ 1024
  | _, [], _, x, hx => by cases hx
  | ks, p :: l, h, x, hx => by
    unfold chkP at h
    split at h
    · cases h
    · split at h
      · cases h
      · rcases List.mem_cons.1 hx with rfl | hx
        · omega
        · exact chkP_vals _ l h x hx
theorem errP_ok {l : List Pr} (h : errP l = 0) : l.length ≤ 4096 ∧ Dis l ∧ ∀ x ∈ l, x.2.length ≤ 1024 := by
  unfold errP at h
  split at h
  · cases h
  · exact ⟨by omega, (chkP_dis _ _ h).1, chkP_vals _ _ h⟩
set_option maxRecDepth 20000 in
set_option maxHeartbeats 1000000 in
theorem nrootAt_v (l : List Pr) (hk : K32 l) (hl : l.length ≤ 34359730000) (d : Int) : VC Try.prog 40 [.sl prT (l.map prA) none, .v (.int .i64 d)] [] (.tup [.ba (rootE l d).1, .v (.int .i64 ((rootE l d).2 : Int))]) := by
  have hs := sorted_v l hk (by omega)
  by_cases he : errP l = 0
  · obtain ⟨hle, hdis, hvals⟩ := errP_ok he
    have hr : resP l = .tup [.sl prT ((srt l).map prA) none, .v (.int .i64 0)] := by unfold resP; rw [if_pos he]
    rw [hr] at hs
    have hsl : (srt l).length = l.length := (srt_perm l).length_eq
    have hsk : K32 (srt l) := hk.perm (srt_perm l)
    have hsr := srt_ris l hk hdis
    have hsv : V0 (srt l) := fun x hx => Nat.le_trans (hvals x ((srt_perm l).mem_iff.1 hx)) (by decide)
    have hro : rootE l d = if d < 0 ∨ 256 < d then (z32, 2) else if 1 < l.length ∧ (endsP (srt l) : Int) < d then (z32, 2) else (rootA (256 - d.toNat) d.toNat (dgs (srt l)), 0) := by
      unfold rootE; rw [if_neg (show ¬ errP l ≠ 0 by omega)]
    rw [hro]
    generalize srt l = m at *
    have hml : (m.map prA).length = l.length := by rw [List.length_map, hsl]
    refine mE Try.func40 ?_; intro N w0 a w hN hR H
    refine mW ?_; clear H; intro a w H
    refine mC H (fun hb => ?_) (fun hb => ?_)
    · have hd : d < 0 ∨ 256 < d := by
        by_cases h0 : d < 0
        · exact .inl h0
        · right; simpa [h0] using hb
      rw [if_pos hd]
      refine mW ?_; clear H; intro a w H
      refine wp_ret ?_; exact mEnd [] [] [.cell 4 27, .tmp 5] [_, _] hN hR H
    · have hd : ¬ (d < 0 ∨ 256 < d) := by
        rintro (h | h)
        · simp [h] at hb
        · by_cases h0 : d < 0
          · simp [h0] at hb
          · simp [h0] at hb; omega
      rw [if_neg hd]
      clear hb
      obtain ⟨dn, rfl⟩ := Int.eq_ofNat_of_zero_le (show 0 ≤ d by omega)
      simp only [Int.toNat_natCast]
      have hroot := fun (h : l.length < 2 ∨ dn ≤ endsP m) => nroot_v (256 - dn) dn m (by omega) (ends_rise m hsk hsr (by omega) (by rw [hsl]; exact h)) hsk hsv (by omega)
      have hrl := rootA_len (256 - dn) dn (dgs m)
      replace H := mK [0, 1, 4, 5] 1 0 hN hR H
      refine mW ?_; clear H; intro a w H
      refine mCall [] [] (hs) H ?_; clear H; intro a w H; try refine wpList_nil ?_
      refine mW ?_; clear H; intro a w H
      refine mC H (fun hb => ?_) (fun hb => ?_)
      · simp at hb
      · clear hb
        replace H := mK [1, 4, 5, 6] 1 0 hN hR H
        by_cases h1 : 1 < l.length
        · have g0 := prA_get m 0 (by omega)
          have g1 := prA_get m (l.length - 1) (by omega)
          have q0 := hsk _ (List.getElem_mem (show 0 < m.length by omega))
          have q1 := hsk _ (List.getElem_mem (show l.length - 1 < m.length by omega))
          have hen : endsP m = com m[0].1 (m[l.length - 1]'(by omega)).1 := by
            have e1 : m.getD 0 ([], []) = m[0] := by simp [List.getD_eq_getElem?_getD, show 0 < m.length by omega]
            have e2 : m.getD (l.length - 1) ([], []) = m[l.length - 1]'(by omega) := by simp [List.getD_eq_getElem?_getD, show l.length - 1 < m.length by omega]
            unfold endsP
            rw [show m.length - 1 = l.length - 1 by omega, e1, e2]
          have hcm := common_v _ _ q0 q1
          rw [← hen] at hcm
          have hti : ((l.length : Int) - 1).toNat = l.length - 1 := by omega
          have hdt : decide ((1 : Int) < (l.length : Int)) = true := by simp; omega
          generalize m[0] = p0 at *
          generalize m[l.length - 1]'(by omega) = p1 at *
          obtain ⟨k0, v0⟩ := p0
          obtain ⟨k1, v1⟩ := p1
          dsimp only at g0 g1 q0 q1 hcm
          have hX := And.intro @hml (And.intro @g0 (And.intro @g1 (And.intro @hti (@hdt))))
          refine mS ?_; refine mD 0 [15] [16] H ?_; clear H; intro gS H
          refine mTN 6 hN H ?_; clear H; intro a w H; simp only [List.drop_succ_cons, List.drop_zero, List.drop_nil]
          replace H := v_knownT H 27 true (by rfl)
          simp only [unG, gdEq, Nat.reduceBEq, cond_true, cond_false] at H
          replace H := ntf H
          refine mTN 7 hN H ?_; clear H; intro a w H; simp only [List.drop_succ_cons, List.drop_zero, List.drop_nil]
          refine mTN 2 hN H ?_; clear H; intro a w H; simp only [List.drop_succ_cons, List.drop_zero, List.drop_nil]
          replace H := v_knownT H 27 true (by rfl)
          simp only [unG, gdEq, Nat.reduceBEq, cond_true, cond_false] at H
          replace H := ntf H
          refine v_guardT H (by rfl) (by rfl) (by rfl) ?_
          refine mCallT [] [] (hcm) H ?_; clear H; intro a w H
          refine mT ?_; clear H; intro a w H
          refine v_drawNil H ?_; clear H; intro H
          refine mC H (fun hb => ?_) (fun hb => ?_)
          · rw [if_pos ⟨h1, by simpa using hb⟩]
            refine mW ?_; clear H; intro a w H
            refine wp_ret ?_; exact mEnd [] [] [.cell 4 27, .tmp 5] [_, _] hN hR H
          · have hnb : ¬ ((endsP m : Int) < (dn : Int)) := by simpa using hb
            rw [if_neg (fun h => hnb h.2)]
            have hrt := hroot (.inr (by omega))
            clear hb hroot
            generalize rootA (256 - dn) dn (dgs m) = r at *
            clear hX; have hX := @hrl
            refine mW ?_; clear H; intro a w H
            refine mCall [] [] (hrt) H ?_; clear H; intro a w H; try refine wpList_nil ?_
            refine mW ?_; clear H; intro a w H
            refine wp_ret ?_; exact mEnd [] [] [.cell 4 27, .tmp 5] [_, _] hN hR H
        · rw [if_neg (fun h => h1 h.1)]
          have hrt := hroot (.inl (by omega))
          clear hroot
          generalize rootA (256 - dn) dn (dgs m) = r at *
          have hdt : decide ((1 : Int) < (l.length : Int)) = false := by simp; omega
          have hX := And.intro @hml (And.intro @hdt (@hrl))
          refine mS ?_; refine mD 0 [15] [16] H ?_; clear H; intro gS H
          refine mTN 4 hN H ?_; clear H; intro a w H; simp only [List.drop_succ_cons, List.drop_zero, List.drop_nil]
          refine mSkT (.v (.bool false)) H ?_; clear H; intro a w H
          refine mSkT (.v (.bool false)) H ?_; clear H; intro a w H
          refine mSkT (.v (.bool false)) H ?_; clear H; intro a w H
          refine mSkT (.v (.bool false)) H ?_; clear H; intro a w H
          refine mSkT (.v (.bool false)) H ?_; clear H; intro a w H
          refine mSkT (.v (.bool false)) H ?_; clear H; intro a w H
          refine mSkT (.v (.bool false)) H ?_; clear H; intro a w H
          refine mSkT (.v (.bool false)) H ?_; clear H; intro a w H
          refine mSkT (.v (.bool false)) H ?_; clear H; intro a w H
          refine mSkT (.v (.bool false)) H ?_; clear H; intro a w H
          refine mSkT (.v (.bool false)) H ?_; clear H; intro a w H
          refine mSkT (.v (.bool false)) H ?_; clear H; intro a w H
          refine mSkT (.v (.bool false)) H ?_; clear H; intro a w H
          refine mSkT (.v (.bool false)) H ?_; clear H; intro a w H
          refine mT ?_; clear H; intro a w H
          refine v_drawNil H ?_; clear H; intro H
          refine mC H (fun hb => ?_) (fun hb => ?_)
          · cases hb
          · refine mW ?_; clear H; intro a w H
            refine mCall [] [] (hrt) H ?_; clear H; intro a w H; try refine wpList_nil ?_
            refine mW ?_; clear H; intro a w H
            refine wp_ret ?_; exact mEnd [] [] [.cell 4 27, .tmp 5] [_, _] hN hR H
  · have hr : resP l = .tup [.sl prT [] none, .v (.int .i64 (errP l : Int))] := by unfold resP; rw [if_neg he]
    rw [hr] at hs
    have hro : rootE l d = if d < 0 ∨ 256 < d then (z32, 2) else (z32, errP l) := by unfold rootE; rw [if_pos (show errP l ≠ 0 from he)]
    rw [hro]
    generalize errP l = er at *
    refine mE Try.func40 ?_; intro N w0 a w hN hR H
    refine mW ?_; clear H; intro a w H
    refine mC H (fun hb => ?_) (fun hb => ?_)
    · have hd : d < 0 ∨ 256 < d := by
        by_cases h0 : d < 0
        · exact .inl h0
        · right; simpa [h0] using hb
      rw [if_pos hd]
      refine mW ?_; clear H; intro a w H
      refine wp_ret ?_; exact mEnd [] [] [.cell 4 27, .tmp 5] [_, _] hN hR H
    · have hd : ¬ (d < 0 ∨ 256 < d) := by
        rintro (h | h)
        · simp [h] at hb
        · by_cases h0 : d < 0
          · simp [h0] at hb
          · simp [h0] at hb; omega
      rw [if_neg hd]
      clear hb
      replace H := mK [0, 1, 4, 5] 1 0 hN hR H
      refine mW ?_; clear H; intro a w H
      refine mCall [] [] (hs) H ?_; clear H; intro a w H; try refine wpList_nil ?_
      refine mW ?_; clear H; intro a w H
      refine mC H (fun hb => ?_) (fun hb => ?_)
      · refine mW ?_; clear H; intro a w H
        refine wp_ret ?_; exact mEnd [] [] [.cell 4 27, .tmp 5] [_, _] hN hR H
      · simp at hb; omega
theorem nroot0_v (l : List Pr) (hk : K32 l) (hl : l.length ≤ 34359730000) : VC Try.prog 38 [.sl prT (l.map prA) none] [] (.tup [.ba (rootE l 0).1, .v (.int .i64 ((rootE l 0).2 : Int))]) := by
  have hs := nrootAt_v l hk hl 0
  have h32 : (rootE l 0).1.length = 32 := by
    unfold rootE; (repeat' split) <;> first | exact rootA_len _ _ _ | exact List.length_replicate ..
  generalize rootE l 0 = r at *
  refine mE Try.func38 ?_; intro N w0 a w hN hR H
  have hX := @h32
  refine mW ?_; clear H; intro a w H
  refine mCall [] [] (hs) H ?_; clear H; intro a w H; try refine wpList_nil ?_
  refine mW ?_; clear H; intro a w H
  refine wp_ret ?_; exact mEnd [] [] [.cell 2 27, .tmp 3] [_, _] hN hR H
end Go.Proofs.Ythphhnkoilcofaa
/- The document's entries: side, At. -/
namespace Go.Proofs.Ythphhnkoilcofaa
open Go Go.RowKit
def halfP (b : Bool) (d : Nat) (l : List Pr) : List Pr := l.filter fun x => bitN x.1 d == b
theorem halfP_dgs (b : Bool) (d : Nat) (l : List Pr) : dgs (halfP b d l) = half b d (dgs l) := by
  unfold dgs halfP half
  rw [List.filter_map]; rfl
theorem halfP_le (b : Bool) (d : Nat) (l : List Pr) : (halfP b d l).length ≤ l.length := List.length_filter_le _ _
theorem halfP_yes (b : Bool) (d : Nat) (l : List Pr) (k : Nat) (hk : k < l.length) (h : bitN l[k].1 d = b) : halfP b d (l.take (k + 1)) = halfP b d (l.take k) ++ [l[k]] := by
  unfold halfP; rw [List.take_succ_eq_append_getElem hk, List.filter_append]; congr 1; simp [List.filter_cons, h]
theorem halfP_no (b : Bool) (d : Nat) (l : List Pr) (k : Nat) (hk : k < l.length) (h : bitN l[k].1 d = !b) : halfP b d (l.take (k + 1)) = halfP b d (l.take k) := by
  unfold halfP; rw [List.take_succ_eq_append_getElem hk, List.filter_append]; simp [List.filter_cons, h]
theorem rootA_perm : ∀ (f d : Nat) (l m : List En), f + d = 256 → Sep d l → l.Perm m → rootA f d l = rootA f d m := by
  have small : ∀ (l m : List En), l.length < 2 → l.Perm m → l = m := fun l m hl hp => by
    match l, hl with
    | [], _ => exact (List.nil_perm.1 hp).symm
    | [x], _ => exact (List.singleton_perm.1 hp)
  intro f
  induction f with
  | zero => intro d l m hd hs hp; rw [small l m (hs.deep (by omega)) hp]
  | succ f ih =>
    intro d l m hd hs hp
    by_cases h : l.length < 2
    · rw [small l m h hp]
    · rw [rootA, rootA, if_neg h, if_neg (by rw [← hp.length_eq]; exact h), ih (d + 1) _ _ (by omega) (hs.side false) (hp.filter _), ih (d + 1) _ _ (by omega) (hs.side true) (hp.filter _)]
      rfl
theorem prs_app (l : List Pr) (x : Pr) : (l ++ [x]).map prA = l.map prA ++ [.st [.ba x.1, .bs x.2 none]] := by simp [prA]
set_option maxRecDepth 20000 in
set_option maxHeartbeats 1000000 in
theorem sideR_v (l : List Pr) (hw : K32 l) (b : Bool) (c : Int) (hc : c = if b then 1 else 0) (d : Nat) (hd : d < 256) (hl : l.length ≤ 34359730000) : VC Try.prog 104 [.sl prT (l.map prA) none, .v (.int .i64 (d : Int)), .v (.int .i64 c)] [] (.sl prT ((halfP b d l).map prA) none) := by
  have hxl : (l.map prA).length = l.length := List.length_map ..
  refine mE Try.func104 ?_; intro N w0 a w hN hR H
  refine mW ?_; clear H; intro a w H
  have H := v_nilE tab_ok H 7 62 (j := ti62) prT rfl (by decide) (by rfl)
  refine v_loop (fun k : Nat => ⟨[(8, none, .v (.int .i64 (k : Int))), (7, none, .sl prT ((halfP b d (l.take k)).map prA) (some 0)), (0, none, .sl prT (l.map prA) none), (1, none, .v (.int .i64 (d : Int))), (2, none, .v (.int .i64 c))], [], [], [(62, (halfP b d (l.take k)).length)]⟩) (fun k => k ≤ l.length) (fun k => l.length - k) 0 (Nat.zero_le _) (H.to 0 1 ⟨Nat.le_trans hN (by decide), Nat.le_trans hR (by decide)⟩ ⟨rfl, rfl, rfl, rfl, rfl, trivial⟩ rfl rfl rfl rfl rfl) ?_
  clear H
  intro k a w hk H
  have hh1 : (halfP b d (l.take k)).length ≤ l.length := Nat.le_trans (halfP_le _ _ _) (List.length_take_le' _ _)
  have hx1 : ((halfP b d (l.take k)).map prA).length = (halfP b d (l.take k)).length := List.length_map ..
  have hX := @hxl
  refine mW ?_; clear H; intro a w H
  refine mC H (fun hb => ?_) (fun hb => ?_)
  · have hlt : k < l.length := by rw [decide_eq_true_eq] at hb; omega
    clear hb
    have g1 := prA_get l k hlt
    have w1 := hw _ (List.getElem_mem hlt)
    have hbit := bitR_v l[k].1 w1 (d : Int)
    have hpb : pbit l[k].1 (d : Int) = if bitN l[k].1 d then 1 else 0 := by unfold pbit; rw [if_pos (by omega), Int.toNat_natCast]
    have q1 := halfP_yes b d l k hlt
    have q2 := halfP_no b d l k hlt
    have q3 := prs_app (halfP b d (l.take k)) l[k]
    generalize l[k] = p at *
    obtain ⟨kb, vb⟩ := p
    dsimp only at g1 w1 hbit hpb q1 q2 q3
    refine mS ?_
    clear hX; have hX := And.intro @hxl (And.intro @hx1 (@g1))
    have hY := @w1
    (try refine wp_region_lit ?_); refine mN 3 hN H ?_; clear H; intro a w H
    refine mW ?_; clear H; intro a w H
    refine mCall [] [] (hbit) H ?_; clear H; intro a w H; try refine wpList_nil ?_
    refine mW ?_; clear H; intro a w H
    cases hbb : bitN kb d == b with
    | true =>
      have hbe : bitN kb d = b := by simpa using hbb
      have q1 := q1 hbe
      have he : decide (pbit kb (d : Int) = c) = true := by rw [hpb, hc, hbe]; simp
      simp only [he] at H
      refine mC H (fun hb => ?_) (fun hb => ?_)
      · refine mS ?_
        (try refine wp_region_lit ?_); refine mN 4 hN H ?_; clear H; intro a w H
        refine mW ?_; clear H; intro a w H
        exact ⟨k + 1, hlt, by omega, H.to 0 1 ⟨Nat.le_trans hN (by decide), Nat.le_trans hR (by decide)⟩ ⟨rfl, by rw [q1, q3]; rfl, rfl, rfl, rfl, trivial⟩ rfl (by rw [q1, List.length_append]; rfl) rfl rfl rfl⟩
      · cases hb
    | false =>
      have hbe : bitN kb d = !b := by
        cases h1 : bitN kb d <;> cases h2 : b <;> rw [h1, h2] at hbb <;> first | rfl | cases hbb
      have q2 := q2 hbe
      have he : decide (pbit kb (d : Int) = c) = false := by rw [hpb, hc, hbe]; cases b <;> simp
      simp only [he] at H
      refine mC H (fun hb => ?_) (fun hb => ?_)
      · cases hb
      · refine mW ?_; clear H; intro a w H
        exact ⟨k + 1, hlt, by omega, H.to 0 1 ⟨Nat.le_trans hN (by decide), Nat.le_trans hR (by decide)⟩ ⟨rfl, by rw [q2]; rfl, rfl, rfl, rfl, trivial⟩ rfl (by rw [q2]; rfl) rfl rfl rfl⟩
  · have hge : k = l.length := by rw [decide_eq_false_iff_not] at hb; omega
    subst hge
    rw [List.take_length] at H
    clear hX
    refine mW ?_; clear H; intro a w H
    refine wp_ret ?_; exact mEnd [] [] [.tmp 6] [_] hN hR H
theorem K32.half {l : List Pr} (h : K32 l) (b : Bool) (d : Nat) : K32 (halfP b d l) := fun x hx => h x (List.mem_filter.1 hx).1
theorem V0.half {l : List Pr} (h : V0 l) (b : Bool) (d : Nat) : V0 (halfP b d l) := fun x hx => h x (List.mem_filter.1 hx).1
set_option maxRecDepth 20000 in
theorem atP_small (f d : Nat) (l : List Pr) (hs : l.length < 2) (hw : K32 l) (hv : V0 l) : VC Try.prog 87 [.sl prT (l.map prA) none, .v (.int .i64 (d : Int))] [] (.ba (rootA f d (dgs l))) := by
  rw [rootA_small f d _ (by rw [dgs_len]; exact hs)]
  match l, hs with
  | [], _ =>
    have hsl := sum_length [0]
    refine mE Try.func87 ?_; intro N w0 a w hN hR H
    simp only [List.map_nil] at H
    refine mW ?_; clear H; intro a w H
    refine mC H (fun hb => ?_) (fun hb => ?_)
    · refine mW ?_; clear H; intro a w H
      refine mCall [] [] (emptyR_v) H ?_; clear H; intro a w H; try refine wpList_nil ?_
      refine mW ?_; clear H; intro a w H
      refine wp_ret ?_; exact mEnd [] [] [.cell 4 26] [_] hN hR H
    · simp at hb
  | [x], _ =>
    have h1 := hw x List.mem_cons_self
    have h2 := valueR_v x.2 (hv x List.mem_cons_self)
    have h3 := valH_len x.2
    have hlf := leafHR_v x.1 (valH x.2) h1 h3
    have hsl := leafH_len x.1 (valH x.2)
    obtain ⟨kb, vb⟩ := x
    dsimp only at h1 h2 h3 hlf hsl
    refine mE Try.func87 ?_; intro N w0 a w hN hR H
    simp only [List.map_cons, List.map_nil, prA] at H
    refine mW ?_; clear H; intro a w H
    refine mC H (fun hb => ?_) (fun hb => ?_)
    · simp at hb
    · refine mW ?_; clear H; intro a w H
      refine mC H (fun hb => ?_) (fun hb => ?_)
      · refine mW ?_; clear H; intro a w H
        refine mS ?_; refine mD 0 [8, 9, 10] [0, 1, 2, 3] H ?_; clear H; intro gS H; refine mT ?_; clear H; intro a w H
        refine mCallT [] [] (h2) H ?_; clear H; intro a w H
        refine mT ?_; clear H; intro a w H
        refine mCallT [] [] (hlf) H ?_; clear H; intro a w H
        refine mT ?_; clear H; intro a w H
        refine v_drawNil H ?_; clear H; intro H
        refine wp_ret ?_; exact mEnd [] [] [.cell 4 26] [_] hN hR H
      · simp at hb
set_option maxRecDepth 20000 in
set_option maxHeartbeats 1000000 in
theorem atP_v : ∀ (f d : Nat) (l : List Pr), f + d = 256 → Sep d (dgs l) → K32 l → V0 l → l.length ≤ 34359730000 →
    VC Try.prog 87 [.sl prT (l.map prA) none, .v (.int .i64 (d : Int))] [] (.ba (rootA f d (dgs l))) := by
  intro f
  induction f with
  | zero =>
    intro d l hd hr hw hv hl
    exact atP_small 0 d l (by have := hr.deep (by omega); rwa [dgs_len] at this) hw hv
  | succ f ih =>
    intro d l hd hr hw hv hl
    by_cases hs : l.length < 2
    · exact atP_small _ d l hs hw hv
    · rw [rootA, if_neg (by rw [dgs_len]; exact hs)]
      have hxl : (l.map prA).length = l.length := List.length_map ..
      have s0 := sideR_v l hw false 0 rfl d (by omega) hl
      have s1 := sideR_v l hw true 1 rfl d (by omega) hl
      have r0 := hr.side false
      have r1 := hr.side true
      rw [← halfP_dgs] at r0 r1
      rw [← halfP_dgs, ← halfP_dgs]
      have c1 := ih (d + 1) (halfP false d l) (by omega) r0 (hw.half _ _) (hv.half _ _) (Nat.le_trans (halfP_le _ _ _) hl)
      have c2 := ih (d + 1) (halfP true d l) (by omega) r1 (hw.half _ _) (hv.half _ _) (Nat.le_trans (halfP_le _ _ _) hl)
      have e1 := rootA_len f (d + 1) (dgs (halfP false d l))
      have e2 := rootA_len f (d + 1) (dgs (halfP true d l))
      generalize rootA f (d + 1) (dgs (halfP false d l)) = a1 at *
      generalize rootA f (d + 1) (dgs (halfP true d l)) = a2 at *
      have hin := innerHR_v a1 a2 e1 e2
      have hsl := innerH_len a1 a2
      clear ih r0 r1
      generalize halfP false d l = l0 at *
      generalize halfP true d l = l1 at *
      refine mE Try.func87 ?_; intro N w0 a w hN hR H
      have hX := @hxl
      refine mW ?_; clear H; intro a w H
      refine mC H (fun hb => ?_) (fun hb => ?_)
      · exfalso; rw [decide_eq_true_eq] at hb; omega
      · refine mW ?_; clear H; intro a w H
        refine mC H (fun hb => ?_) (fun hb => ?_)
        · exfalso; rw [decide_eq_true_eq] at hb; omega
        · refine mW ?_; clear H; intro a w H
          refine mCall [] [] (s0) H ?_; clear H; intro a w H; try refine wpList_nil ?_
          refine mW ?_; clear H; intro a w H
          refine mCall [] [] (c1) H ?_; clear H; intro a w H; try refine wpList_nil ?_
          refine mW ?_; clear H; intro a w H
          refine mCall [] [] (s1) H ?_; clear H; intro a w H; try refine wpList_nil ?_
          refine mW ?_; clear H; intro a w H
          refine mCall [] [] (c2) H ?_; clear H; intro a w H; try refine wpList_nil ?_
          refine mW ?_; clear H; intro a w H
          refine mCall [] [] (hin) H ?_; clear H; intro a w H; try refine wpList_nil ?_
          refine mW ?_; clear H; intro a w H
          refine wp_ret ?_; exact mEnd [] [] [.cell 4 26] [_] hN hR H
end Go.Proofs.Ythphhnkoilcofaa
/- The document's List, RootAt, Root: any entries. -/
namespace Go.Proofs.Ythphhnkoilcofaa
open Go Go.RowKit
set_option maxRecDepth 20000 in
set_option maxHeartbeats 1000000 in
theorem listR_v (l : List Pr) (hk : K32 l) (hl : l.length ≤ 34359730000) : VC Try.prog 86 [.sl prT (l.map prA) none] [] (.v (.int .i64 (errP l : Int))) := by
  have hlm : (l.map prA).length = l.length := List.length_map ..
  refine mE Try.func86 ?_; intro N w0 a w hN hR H
  have hX := @hlm
  refine mW ?_; clear H; intro a w H
  refine mC H (fun hb => ?_) (fun hb => ?_)
  · have he : errP l = 4 := by unfold errP; rw [if_pos (by simp at hb; omega)]
    rw [he]
    refine mW ?_; clear H; intro a w H
    refine wp_ret ?_; exact mEnd [] [] [.tmp 2] [_] hN hR H
  · have hle : l.length ≤ 4096 := by simp at hb; omega
    have he : errP l = chkP [] l := by unfold errP; rw [if_neg (by omega)]
    clear hb
    replace H := mK [0, 2] 0 0 hN hR H
    refine mW ?_; clear H; intro a w H
    refine v_loop (fun k : Nat => ⟨[(3, none, .v (.int .i64 (k : Int))), (2, none, .v (.int .i64 0)), (0, none, .sl prT (l.map prA) none)], [], [], []⟩) (fun k => k ≤ l.length ∧ chkP (keysP (l.take k)) (l.drop k) = chkP [] l) (fun k => l.length - k) 0 ⟨Nat.zero_le _, rfl⟩ (H.to 0 0 ⟨hN, hR⟩ ⟨rfl, rfl, rfl, trivial⟩ rfl rfl rfl rfl rfl) ?_
    clear H
    rintro k a w ⟨hk1, hk2⟩ H
    refine mW ?_; clear H; intro a w H
    refine mC H (fun hb => ?_) (fun hb => ?_)
    · have hlt : k < l.length := by simpa using hb
      clear hb
      have hg := prA_get l k hlt
      have hp32 := hk _ (List.getElem_mem hlt)
      have hstep := chkP_cons (keysP (l.take k)) l k hlt
      rw [hk2] at hstep
      have htk : keysP (l.take (k + 1)) = keysP (l.take k) ++ [l[k].1] := by unfold keysP; rw [List.take_succ_eq_append_getElem hlt, List.map_append]; rfl
      obtain ⟨p, hpp⟩ : ∃ p, p = l[k] := ⟨_, rfl⟩
      rw [← hpp] at hg hp32 hstep htk
      obtain ⟨kb, vb⟩ := p
      dsimp only at hg hp32 hstep htk
      refine mS ?_
      clear hX; have hX := And.intro @hlm (@hg)
      (try refine wp_region_lit ?_); refine mN 3 hN H ?_; clear H; intro a w H
      refine mW ?_; clear H; intro a w H
      refine mC H (fun hb => ?_) (fun hb => ?_)
      · have hv : 1024 < vb.length := by simp at hb; omega
        have he4 : errP l = 4 := by rw [he, hstep, if_pos hv]
        rw [he4]
        refine mW ?_; clear H; intro a w H
        refine wp_ret ?_; exact mEnd [] [] [.tmp 2] [_] hN hR H
      · have hv : ¬ 1024 < vb.length := by simp at hb; omega
        clear hb
        rw [if_neg hv] at hstep
        replace H := mK [0, 2, 3] 0 0 hN hR H
        refine mW ?_; clear H; intro a w H
        refine v_loop (fun j : Nat => ⟨[(4, none, .v (.int .i64 (j : Int))), (3, none, .v (.int .i64 (k : Int))), (2, none, .v (.int .i64 0)), (0, none, .sl prT (l.map prA) none)], [], [], []⟩) (fun j => j ≤ k ∧ kb ∉ keysP (l.take j)) (fun j => k - j) 0 ⟨Nat.zero_le _, by simp [keysP]⟩ (H.to 0 0 ⟨hN, hR⟩ ⟨rfl, rfl, rfl, rfl, trivial⟩ rfl rfl rfl rfl rfl) ?_
        clear H
        rintro j a w ⟨hj1, hj2⟩ H
        refine mW ?_; clear H; intro a w H
        refine mC H (fun hb => ?_) (fun hb => ?_)
        · have hjt : j < k := by simpa using hb
          clear hb
          have hjl : j < l.length := by omega
          have hgj := prA_get l j hjl
          have htj : keysP (l.take (j + 1)) = keysP (l.take j) ++ [l[j].1] := by unfold keysP; rw [List.take_succ_eq_append_getElem hjl, List.map_append]; rfl
          have hmj : l[j].1 ∈ keysP (l.take k) := by
            unfold keysP
            exact List.mem_map.2 ⟨l[j], List.mem_take_iff_getElem.2 ⟨j, by omega, rfl⟩, rfl⟩
          have hj32 := hk _ (List.getElem_mem hjl)
          generalize l[j] = q at *
          obtain ⟨kj, vj⟩ := q
          dsimp only at hgj htj hmj hj32
          have hee : (kj = kb) = (kj = kb) := rfl
          clear hX; have hX := And.intro @hlm (And.intro @hg (@hgj))
          have hY := And.intro @hp32 (@hj32)
          refine mS ?_; refine mD 0 [] [] H ?_; clear H; intro gS H
          refine mTN 3 hN H ?_; clear H; intro a w H; simp only [List.drop_succ_cons, List.drop_zero, List.drop_nil]
          refine mTN 5 hN H ?_; clear H; intro a w H; simp only [List.drop_succ_cons, List.drop_zero, List.drop_nil]
          refine mT ?_; clear H; intro a w H
          refine v_drawNil H ?_; clear H; intro H
          refine mC H (fun hb => ?_) (fun hb => ?_)
          · have hkk : kj = kb := by simpa using hb
            have he6 : errP l = 6 := by rw [he, hstep, if_pos (hkk ▸ hmj)]
            rw [he6]
            refine mW ?_; clear H; intro a w H
            refine wp_ret ?_; exact mEnd [] [] [.tmp 2] [_] hN hR H
          · have hkk : kj ≠ kb := by simpa using hb
            clear hb
            clear hX; have hX := And.intro @hlm (@hg)
            clear hY
            refine mW ?_; clear H; intro a w H
            exact ⟨j + 1, ⟨hjt, by rw [htj]; intro hm; rcases List.mem_append.1 hm with hm | hm; exact hj2 hm; exact hkk (List.mem_singleton.1 hm).symm⟩, by omega, H.to 0 0 ⟨hN, hR⟩ ⟨rfl, rfl, rfl, rfl, trivial⟩ rfl rfl rfl rfl rfl⟩
        · have hje : j = k := by simp at hb; omega
          clear hb
          subst hje
          rw [if_neg hj2] at hstep
          refine mW ?_; clear H; intro a w H
          exact ⟨j + 1, ⟨hlt, by rw [htk, ← hstep]⟩, by omega, H.to 0 0 ⟨hN, hR⟩ ⟨rfl, rfl, rfl, trivial⟩ rfl rfl rfl rfl rfl⟩
    · have hge : k = l.length := by simp at hb; omega
      clear hb
      subst hge
      rw [List.drop_length] at hk2
      have he0 : errP l = 0 := by rw [he, ← hk2]; rfl
      rw [he0]
      refine mW ?_; clear H; intro a w H
      refine wp_ret ?_; exact mEnd [] [] [.tmp 2] [_] hN hR H
theorem ends_iff (l : List Pr) (hk : K32 l) (hd : Dis l) (d : Nat) (h256 : d ≤ 256) : (l.length < 2 ∨ d ≤ endsP (srt l)) ↔ ∀ x ∈ l, ∀ y ∈ l, agree d x.1 y.1 := by
  have hsl : (srt l).length = l.length := (srt_perm l).length_eq
  have hmem : ∀ x, x ∈ srt l ↔ x ∈ l := fun x => (srt_perm l).mem_iff
  constructor
  · intro h x hx y hy
    have hr := ends_rise (srt l) (hk.perm (srt_perm l)) (srt_ris l hk hd) h256 (by rw [hsl]; exact h)
    unfold Rise dgs at hr
    rw [List.pairwise_map] at hr
    obtain ⟨i, hi, rfl⟩ := List.getElem_of_mem ((hmem x).2 hx)
    obtain ⟨j, hj, rfl⟩ := List.getElem_of_mem ((hmem y).2 hy)
    rcases Nat.lt_trichotomy i j with q | q | q
    · exact (List.pairwise_iff_getElem.1 hr i j hi hj q).1
    · subst q; exact agree_refl _ _
    · exact (List.pairwise_iff_getElem.1 hr j i hj hi q).1.symm
  · intro h
    by_cases h2 : l.length < 2
    · exact .inl h2
    · right
      unfold endsP
      have e1 : (srt l).getD 0 ([], []) = (srt l)[0]'(by omega) := by simp [List.getD_eq_getElem?_getD, show 0 < (srt l).length by omega]
      have e2 : (srt l).getD ((srt l).length - 1) ([], []) = (srt l)[(srt l).length - 1]'(by omega) := by simp [List.getD_eq_getElem?_getD, show (srt l).length - 1 < (srt l).length by omega]
      rw [e1, e2]
      exact (com_ge h256).2 (h _ ((hmem _).1 (List.getElem_mem _)) _ ((hmem _).1 (List.getElem_mem _)))
theorem sep_of (l : List Pr) (hk : K32 l) (hd : Dis l) (d : Nat) (h : ∀ x ∈ l, ∀ y ∈ l, agree d x.1 y.1) : Sep d (dgs l) := by
  unfold Sep dgs
  rw [List.pairwise_map]
  exact List.Pairwise.imp_of_mem (fun {x y} hx hy hp => ⟨h x hx y hy, fun ha => hp (agree_eq (hk x hx) (hk y hy) ha)⟩) hd
theorem root_srt (l : List Pr) (hk : K32 l) (hd : Dis l) (f d : Nat) (hf : f + d = 256) (h : ∀ x ∈ l, ∀ y ∈ l, agree d x.1 y.1) : rootA f d (dgs (srt l)) = rootA f d (dgs l) :=
  (rootA_perm f d (dgs l) (dgs (srt l)) hf (sep_of l hk hd d h) ((srt_perm l).symm.map _)).symm
end Go.Proofs.Ythphhnkoilcofaa
/- The document's RootAt, Root. -/
namespace Go.Proofs.Ythphhnkoilcofaa
open Go Go.RowKit
set_option maxRecDepth 20000 in
set_option maxHeartbeats 2000000 in
theorem rootAtR_v (l : List Pr) (hk : K32 l) (hl : l.length ≤ 34359730000) (d : Int) : VC Try.prog 41 [.sl prT (l.map prA) none, .v (.int .i64 d)] [] (.tup [.ba (rootE l d).1, .v (.int .i64 ((rootE l d).2 : Int))]) := by
  have hs := listR_v l hk hl
  have hlm : (l.map prA).length = l.length := List.length_map ..
  refine mE Try.func41 ?_; intro N w0 a w hN hR H
  refine mW ?_; clear H; intro a w H
  refine mC H (fun hb => ?_) (fun hb => ?_)
  · have hd : d < 0 ∨ 256 < d := by
      by_cases h0 : d < 0
      · exact .inl h0
      · right; simpa [h0] using hb
    have hro : rootE l d = (z32, 2) := by unfold rootE; rw [if_pos hd]
    rw [hro]
    refine mW ?_; clear H; intro a w H
    refine wp_ret ?_; exact mEnd [] [] [.cell 4 27, .tmp 5] [_, _] hN hR H
  · have hd : ¬ (d < 0 ∨ 256 < d) := by
      rintro (h | h)
      · simp [h] at hb
      · by_cases h0 : d < 0
        · simp [h0] at hb
        · simp [h0] at hb; omega
    clear hb
    obtain ⟨dn, rfl⟩ := Int.eq_ofNat_of_zero_le (show 0 ≤ d by omega)
    have h256 : dn ≤ 256 := by omega
    replace H := mK [0, 1, 4, 5] 1 0 hN hR H
    refine mW ?_; clear H; intro a w H
    refine mCall [] [] (hs) H ?_; clear H; intro a w H; try refine wpList_nil ?_
    refine mW ?_; clear H; intro a w H
    by_cases he : errP l = 0
    · obtain ⟨hle, hdis, hvals⟩ := errP_ok he
      have hv0 : V0 l := fun x hx => Nat.le_trans (hvals x hx) (by decide)
      have hei := ends_iff l hk hdis dn h256
      have hro : rootE l (dn : Int) = if 1 < l.length ∧ (endsP (srt l) : Int) < (dn : Int) then (z32, 2) else (rootA (256 - dn) dn (dgs (srt l)), 0) := by
        unfold rootE; rw [if_neg hd, if_neg (show ¬ errP l ≠ 0 by omega), Int.toNat_natCast]
      rw [he] at H
      refine mC H (fun hb => ?_) (fun hb => ?_)
      · simp at hb
      · clear hb
        replace H := mK [0, 1, 4, 5] 1 0 hN hR H
        refine mW ?_; clear H; intro a w H
        have h00 : ∀ j (h : j < l.length), j ≤ 0 → agree dn (l[0]'(by omega)).1 l[j].1 := fun j h hj => by
          have e : j = 0 := by omega
          subst e
          exact agree_refl _ _
        refine v_loop (fun k : Nat => ⟨[(7, none, .v (.int .i64 ((k + 1 : Nat) : Int))), (5, none, .v (.int .i64 0)), (4, none, .ptr 0 []), (0, none, .sl prT (l.map prA) none), (1, none, .v (.int .i64 (dn : Int)))], [(.ba 32, .ba (List.replicate 32 0))], [], []⟩) (fun k => (k = 0 ∨ k < l.length) ∧ ∀ j (h : j < l.length), j ≤ k → agree dn (l[0]'(by omega)).1 l[j].1) (fun k => l.length - k) 0 ⟨.inl rfl, h00⟩ (H.to 1 0 ⟨Nat.le_trans hN (by decide), hR⟩ ⟨rfl, rfl, rfl, rfl, rfl, trivial⟩ rfl rfl rfl rfl rfl) ?_
        clear H
        rintro k a w ⟨hk1, hk2⟩ H
        have hX := @hlm
        refine mW ?_; clear H; intro a w H
        refine mC H (fun hb => ?_) (fun hb => ?_)
        · have hlt : k + 1 < l.length := by rw [decide_eq_true_eq] at hb; omega
          clear hb
          have g0 := prA_get l 0 (by omega)
          have g1 := prA_get l (k + 1) hlt
          have q0 := hk _ (List.getElem_mem (show 0 < l.length by omega))
          have q1 := hk _ (List.getElem_mem hlt)
          have hcm := commonR_v _ _ q0 q1
          have hm0 := List.getElem_mem (show 0 < l.length by omega)
          have hm1 := List.getElem_mem hlt
          have hnext : agree dn (l[0]'(by omega)).1 l[k + 1].1 → ∀ j (h : j < l.length), j ≤ k + 1 → agree dn (l[0]'(by omega)).1 l[j].1 := fun hag j h hj => by
            by_cases e : j ≤ k
            · exact hk2 j h e
            · have e2 : j = k + 1 := by omega
              subst e2; exact hag
          have hfin : agree dn (l[0]'(by omega)).1 l[k + 1].1 → ∃ k', (k' = 0 ∨ k' < l.length) ∧ (∀ j (h : j < l.length), j ≤ k' → agree dn (l[0]'(by omega)).1 l[j].1) ∧ k' = k + 1 := fun hag => ⟨k + 1, .inr hlt, hnext hag, rfl⟩
          clear hk2 hnext
          generalize hp0 : l[0]'(by omega) = p0 at *
          generalize hp1 : l[k + 1] = p1 at *
          obtain ⟨k0, v0⟩ := p0
          obtain ⟨kb, vb⟩ := p1
          dsimp only at g0 g1 q0 q1 hcm hfin
          clear hX; have hX := And.intro @hlm (And.intro @g0 (@g1))
          refine mS ?_; refine mD 1 [9] [10] H ?_; clear H; intro gS H
          refine mTN 2 hN H ?_; clear H; intro a w H; simp only [List.drop_succ_cons, List.drop_zero, List.drop_nil]
          refine mTN 5 hN H ?_; clear H; intro a w H; simp only [List.drop_succ_cons, List.drop_zero, List.drop_nil]
          refine mTN 2 hN H ?_; clear H; intro a w H; simp only [List.drop_succ_cons, List.drop_zero, List.drop_nil]
          refine mCallT [] [] (hcm) H ?_; clear H; intro a w H
          refine mT ?_; clear H; intro a w H
          refine v_drawNil H ?_; clear H; intro H
          refine mC H (fun hb => ?_) (fun hb => ?_)
          · have hcl : (com k0 kb : Int) < (dn : Int) := by simpa using hb
            have hna : ¬ agree dn k0 kb := fun h => by have := (com_ge h256).2 h; omega
            have hnn : ¬ (l.length < 2 ∨ dn ≤ endsP (srt l)) := fun h => hna (hei.1 h _ hm0 _ hm1)
            rw [not_or] at hnn
            rw [hro, if_pos ⟨by omega, by omega⟩]
            clear hX; have hX := @hlm
            refine mW ?_; clear H; intro a w H
            refine wp_ret ?_; exact mEnd [] [] [.cell 4 27, .tmp 5] [_, _] hN hR H
          · have hcl : ¬ ((com k0 kb : Int) < (dn : Int)) := by simpa using hb
            clear hb
            obtain ⟨k', c1, c2, c3⟩ := hfin ((com_ge h256).1 (by omega))
            subst c3
            clear hX; have hX := @hlm
            refine mW ?_; clear H; intro a w H
            exact ⟨k + 1, ⟨c1, c2⟩, by omega, H.to 1 0 ⟨Nat.le_trans hN (by decide), hR⟩ ⟨rfl, rfl, rfl, rfl, rfl, trivial⟩ rfl rfl rfl rfl rfl⟩
        · have hge : l.length ≤ k + 1 := by rw [decide_eq_false_iff_not] at hb; omega
          clear hb
          have hall : ∀ x ∈ l, ∀ y ∈ l, agree dn x.1 y.1 := fun x hx y hy => by
            obtain ⟨i, hi, rfl⟩ := List.getElem_of_mem hx
            obtain ⟨j, hj, rfl⟩ := List.getElem_of_mem hy
            exact (hk2 i hi (by omega)).symm.trans (hk2 j hj (by omega))
          have hyes := hei.2 hall
          have hat := atP_v (256 - dn) dn l (by omega) (sep_of l hk hdis dn hall) hk hv0 hl
          have hrl := rootA_len (256 - dn) dn (dgs l)
          rw [hro, if_neg (fun h => by rcases hyes with q | q <;> omega), root_srt l hk hdis _ dn (by omega) hall]
          generalize rootA (256 - dn) dn (dgs l) = r at *
          clear hX; have hX := And.intro @hlm (@hrl)
          refine mW ?_; clear H; intro a w H
          refine mCall [] [] (hat) H ?_; clear H; intro a w H; try refine wpList_nil ?_
          refine mW ?_; clear H; intro a w H
          refine wp_ret ?_; exact mEnd [] [] [.cell 4 27, .tmp 5] [_, _] hN hR H
    · have hro : rootE l (dn : Int) = (z32, errP l) := by unfold rootE; rw [if_neg hd, if_pos he]
      rw [hro]
      generalize errP l = er at *
      refine mC H (fun hb => ?_) (fun hb => ?_)
      · have hX := @hlm
        refine mW ?_; clear H; intro a w H
        refine wp_ret ?_; exact mEnd [] [] [.cell 4 27, .tmp 5] [_, _] hN hR H
      · simp at hb; omega
theorem rootE_len (l : List Pr) (d : Int) : (rootE l d).1.length = 32 := by
  unfold rootE; (repeat' split) <;> first | exact rootA_len _ _ _ | exact List.length_replicate ..
theorem rootR_v (l : List Pr) (hk : K32 l) (hl : l.length ≤ 34359730000) : VC Try.prog 39 [.sl prT (l.map prA) none] [] (.tup [.ba (rootE l 0).1, .v (.int .i64 ((rootE l 0).2 : Int))]) := by
  have hs := listR_v l hk hl
  have hlm : (l.map prA).length = l.length := List.length_map ..
  refine mE Try.func39 ?_; intro N w0 a w hN hR H
  refine mW ?_; clear H; intro a w H
  refine mCall [] [] (hs) H ?_; clear H; intro a w H; try refine wpList_nil ?_
  refine mW ?_; clear H; intro a w H
  by_cases he : errP l = 0
  · obtain ⟨hle, hdis, hvals⟩ := errP_ok he
    have hv0 : V0 l := fun x hx => Nat.le_trans (hvals x hx) (by decide)
    have hall : ∀ x ∈ l, ∀ y ∈ l, agree 0 x.1 y.1 := fun x _ y _ t ht => absurd ht (Nat.not_lt_zero t)
    have hro : rootE l 0 = (rootA 256 0 (dgs l), 0) := by
      unfold rootE
      rw [if_neg (by omega), if_neg (show ¬ errP l ≠ 0 by omega), if_neg (fun h => by omega)]
      show (rootA 256 0 (dgs (srt l)), 0) = _
      rw [root_srt l hk hdis 256 0 (by omega) hall]
    have hat := atP_v 256 0 l (by omega) (sep_of l hk hdis 0 hall) hk hv0 hl
    have hrl := rootA_len 256 0 (dgs l)
    rw [hro]
    rw [he] at H
    generalize rootA 256 0 (dgs l) = r at *
    refine mC H (fun hb => ?_) (fun hb => ?_)
    · simp at hb
    · clear hb
      have hX := @hrl
      refine mW ?_; clear H; intro a w H
      refine mCall [] [] (hat) H ?_; clear H; intro a w H; try refine wpList_nil ?_
      refine mW ?_; clear H; intro a w H
      refine wp_ret ?_; exact mEnd [] [] [.cell 2 27, .tmp 3] [_, _] hN hR H
  · have hro : rootE l 0 = (z32, errP l) := by unfold rootE; rw [if_neg (by omega), if_pos he]
    rw [hro]
    generalize errP l = er at *
    refine mC H (fun hb => ?_) (fun hb => ?_)
    · have hX := @hlm
      refine mW ?_; clear H; intro a w H
      refine wp_ret ?_; exact mEnd [] [] [.cell 2 27, .tmp 3] [_, _] hN hR H
    · simp at hb; omega
end Go.Proofs.Ythphhnkoilcofaa
/- The statements' kit: proofs compared and copied. -/
namespace Go.Proofs.Ythphhnkoilcofaa
open Go Go.RowKit
end Go.Proofs.Ythphhnkoilcofaa
/- A contract that says less: rows that nobody will make longer. -/
namespace Go.Proofs.Ythphhnkoilcofaa
open Go Go.RowKit
end Go.Proofs.Ythphhnkoilcofaa
/- CopyPairs: entries in new memory, which may be written. -/
namespace Go.Proofs.Ythphhnkoilcofaa
open Go Go.RowKit
end Go.Proofs.Ythphhnkoilcofaa
/- Bytes that were lent are as they were. -/
namespace Go.Proofs.Ythphhnkoilcofaa
open Go Go.RowKit
set_option maxRecDepth 20000 in
theorem kept_v (l : List UInt8) (hl : l.length ≤ 34359738000) : VC Try.prog 84 [.bc (lentOf l) l.length none, .bs l none] [] (.v (.bool true)) := by
  have hll := lent_len l
  have e1 := lent_v l hl
  have h5 : ((l.length : Int) + 5).toNat = l.length + 5 := by omega
  have hT : (lentOf l).take (l.length + 5) = lentOf l := List.take_of_length_le (by omega)
  refine mE Try.func84 ?_; intro N w0 a w hN hR H
  refine mW ?_; clear H; intro a w H
  have hX := And.intro @h5 (And.intro @hT (And.intro @strOf_list (@beq_self_eq_true.{0})))
  refine mS ?_; refine mD 0 [6] [0, 1, 2, 3, 4, 7, 8, 9] H ?_; clear H; intro gS H; refine mT ?_; clear H; intro a w H
  refine mCallT [] [] (e1) H ?_; clear H; intro a w H
  refine mT ?_; clear H; intro a w H
  refine v_drawNil H ?_; clear H; intro H
  refine mW ?_; clear H; intro a w H
  refine wp_ret ?_; exact mEnd [] [] [.tmp 4] [_] hN hR H
end Go.Proofs.Ythphhnkoilcofaa
/- Slices whose room is known: made, frozen, seen without their room. -/
namespace Go.Proofs.Ythphhnkoilcofaa
open Go Go.RowKit
section
variable {P : Program} {τ : Tab} {w0 w : World} {N : Gh} {g : Gh} {st : St} {nt : Nat} {a : Act}
/-- make with room: all elements, and how much room there is. -/
theorem v_mkC {ops : Array Oper} {Q : Exit → Act → World → Prop} {rest : List Oper} {o : Oper} {t e : Nat} {i j : TI} {l k : Operand} {k1 k2 : IntKind} (m m2 : Nat) (hτ : τ.ok P) (hi : Tab.get t τ = some i) (hid : i.d = .slc e) (hj : Tab.get e τ = some j) (hs : 0 < j.ty.size) (H : Rel P w0 N nt st a w)
    (h1 : m ≤ m2) (h2 : (j.bytes : Int) * m2 ≤ 281474976710656) (h3 : m2 ≤ maxLen)
    (kk : ∀ a w, Rel P w0 N nt ((⟨st.t, st.bx ++ [(.vc e j.ty, .vc 0 (List.replicate m2 j.zero))], st.fz, st.rw⟩ : St).put o.dst none (.vwc st.bx.length 0 m m2)) a w → wpList P ops Q rest a w)
    (hgd : o.guard = none := by rfl) (ho : o.op = .makeSlice t l k := by rfl) (hd : okDst nt none o.dst = true := by rfl) (hl : st.ev none l = .v (.int k1 (m : Int)) := by rfl) (hk : st.ev none k = .v (.int k2 (m2 : Int)) := by rfl) : wpList P ops Q (o :: rest) a w := by
  obtain ⟨g, HI, hF⟩ := H
  have hd0 := (Tab.get_ok hτ hi).d
  rw [hid] at hd0
  have hjok := Tab.get_ok hτ hj
  obtain ⟨inf, z, e1, e2, e3, e4, e5⟩ := hjok.info
  have hlv := ev_sound hF (c := none) trivial l
  rw [hl] at hlv
  have hlv := hlv.v_inv
  have hkv := ev_sound hF (c := none) trivial k
  rw [hk] at hkv
  have hkv := hkv.v_inv
  have hzs : z.cells.size = j.ty.size := by rw [← Array.length_toList]; exact (e5 ⟨fun _ _ => none, [], []⟩).size
  have hrun := run_make (P := P) w t e inf z hd0 e1 e4 k1 k2 (m : Int) (m2 : Int) (by omega) (by omega) (by rw [e3]; exact h2) (by simp only [maxLen] at h3; omega)
  have hcs : (madeCells z.cells (m2 * inf.size)).toList = (List.replicate m2 z.cells.toList).flatten := by
    have := initCells z.cells m2 j.ty.size hzs
    rw [e2]; unfold madeCells; rw [this]
  have hz1 : ∀ u ∈ z.cells.toList, u.oneCell' = true := (e5 ⟨fun _ _ => none, [], []⟩).one
  have hlen : (List.replicate m2 z.cells.toList).flatten.length = m2 * j.ty.size := by rw [List.length_flatten]; simp [hzs]
  obtain ⟨g', l1, I1, hx1⟩ := HI.boxG (x := ⟨w.heap.size, e, .vc e j.ty, (List.replicate m2 z.cells.toList).flatten, false, 0, m2, false, none⟩) (a := .vc 0 (List.replicate m2 j.zero)) (w' := w.alloc (.cells (List.replicate m2 z.cells.toList).flatten.toArray e)) rfl (grown_alloc w _) (fun _ => ⟨rfl, .of rfl (Blk.new w e _)⟩) (fun e => by cases e) (fun e => by cases e)
    (.inr (.inl ⟨j.ty, 0, List.replicate m2 j.zero, fun _ => z.cells.toList, [], ⟨_, rfl, rfl⟩, rfl, rfl, rfl, hs, ⟨h3, fun e => (by cases e)⟩, by
      rw [List.length_replicate, flat_rep, List.append_nil], hlen, fun u hu => (by cases hu), fun q hq => by simp only [List.getElem_replicate]; exact e5 _⟩))
  refine wpList_plain hgd fun K hK => ?_
  unfold Oper.wp
  have he : (execOp a.eval o).run P w = .ok (.value (.slice (some ⟨w.heap.size, 0, none⟩) m m2)) (w.alloc (.cells (List.replicate m2 z.cells.toList).flatten.toArray e)) := by
    obtain ⟨dst, op, ty, pos, after, gd⟩ := o
    dsimp only at ho
    subst ho
    have e9 : (madeCells z.cells (m2 * inf.size)) = (List.replicate m2 z.cells.toList).flatten.toArray := by apply Array.toList_inj.1; rw [hcs]
    rw [← e9]
    simp only [execOp, hlv, hkv, Sem.run_bind, hrun, Result.andThen_ok, Sem.run_pure, Int.toNat_natCast]
  rw [he, Oper.upon_value]
  have hvw : RC g' .sc (.vw st.bx.length 0 m) [.slice (some ⟨w.heap.size, 0, none⟩) m m2] := RC.vw (c := m2) hx1 rfl (Nat.le_refl _) h1 h3 fun _ => ⟨rfl, .inr ⟨rfl, rfl⟩⟩
  refine hK _ _ (kk _ _ ⟨g', ?_, (hF.mono l1.1).put hd (fun _ => (RC.vwc hvw fun x hx _ => by rw [hx1] at hx; injection hx with hx; subst hx; rfl).rv1) rfl (fun h => absurd trivial h)⟩)
  cases o.dst <;> exact I1
/-- What is done with growing, with its room. -/
theorem v_frzC (H : Rel P w0 N nt st a w) (d d2 i : Nat) {e γ n m k : Nat} {T : Ty} {es : List AV} (hN : N.bx.length ≤ i) (hb : st.bx[i]? = some (.vc e T, .vc γ es)) (hn : n ≤ es.length) (hk : es.length = k) (hd : find d st.t = some (none, .vw i γ n)) (hd2 : find d2 st.t = some (none, .vwc i γ m k)) :
    Rel P w0 N nt ⟨nilT d (.slc T es n) st.t, st.bx, i :: st.fz, st.rw⟩ a w := by
  obtain ⟨g, HI, hF⟩ := H
  obtain ⟨y, hy, hyT, hbc⟩ := HI.br.at_ i _ _ hb
  obtain ⟨T2, F, sp, ⟨e2, he2, htid⟩, hmp, hgen, h0, hcm, hcs, hcl, hsp, hFk⟩ := hbc.vc_inv
  injection he2 with he20 he2; subst he20 he2
  have hv := (hF.t _ (find_mem hd) trivial).vw_inv.vw_inv
  obtain ⟨_, y', e3, T3, A, c, hval, hy', hty', hle, hnc, hm, hxx⟩ := hv
  rw [hy] at hy'; injection hy' with hy'; subst hy'
  injection hval with hval
  obtain ⟨hcc, hA⟩ := hxx hgen
  have hval : a.tmps.getD d undef = .slice A n c := hval
  have hcap : y.cap = k := by
    have h2 : RV g (.vwc i γ m k) (a.tmps.getD d2 undef) := hF.t _ (find_mem hd2) trivial
    rcases (show RV1 g _ _ from h2) with ⟨T, cs, q1, q2, q3⟩ | q
    · cases q2; simp [Ty.agg] at q1
    · cases q with | vwc q1 q2 => exact q2 _ hy hgen
  have hck : c = es.length := by rw [hcc, hcap, hk]
  subst hck
  rcases hA with ⟨ho, hA⟩ | ⟨ho, hA⟩
  · have hc0 : es.length = 0 := by rw [hcc]; exact hcm.2 ho
    refine ⟨g, ⟨HI.mem, HI.fr, HI.br, fun j x hj hf => List.mem_cons_of_mem _ (HI.fz j x hj hf), HI.wr, HI.wz⟩, hF.sz, hF.df, fun p hp' hg => ?_, fun p hp hg => by rcases nilT_mem hp with h | h; (subst h; exact absurd trivial hg); exact hF.u p h hg⟩
    rcases nilT_mem hp' with h | h
    · subst h
      show RV g (.slc T es n) (a.tmps.getD d undef)
      rw [hval]
      exact (RC.slc hn hm F (.inl (List.length_eq_zero_iff.1 hc0)) fun k hk => hFk k hk).rv1
    · exact hF.t p h hg
  · obtain ⟨g1, l1, I1, _, hro⟩ := HI.freeze hy ho hmp hN
    refine ⟨g1, I1, (hF.mono l1.1).sz, hF.df, fun p hp' hg => ?_, fun p hp hg => by rcases nilT_mem hp with h | h; (subst h; exact absurd trivial hg); exact hF.u p h hg⟩
    rcases nilT_mem hp' with h | h
    · subst h
      show RV g1 (.slc T es n) (a.tmps.getD d undef)
      rw [hval, hA]
      exact (RC.slc (g := g1) (T := T) (es := es) (n := n) (A := some ⟨y.blk, 0, none⟩) hn hm F (.inr ⟨y.blk, 0, rfl, fun k hk j u hu => by
        rw [Nat.zero_add]
        refine hro _ _ ?_
        rw [hcs]
        exact flat_at hFk (by omega) hu⟩) fun k hk => (hFk k hk).mono l1.1.base).rv1
    · exact (hF.mono l1.1).t p h hg
/-- A slice seen without its room, its elements seen as others. -/
theorem v_slcL (H : Rel P w0 N nt st a w) (d : Nat) {T : Ty} {es es' : List AV} {n : Nat} (hd : find d st.t = some (none, .slc T es n)) (hn : n ≤ es.length) (hl : es'.length = n) (h : ∀ k (h1 : k < es'.length), sub 3 (es[k]'(by omega)) es'[k]) : Rel P w0 N nt ⟨nilT d (.sl T es' none) st.t, st.bx, st.fz, st.rw⟩ a w := by
  obtain ⟨g, HI, hF⟩ := H
  refine ⟨g, HI, hF.sz, hF.df, fun p hp hg => ?_, fun p hp hg => by rcases nilT_mem hp with h | h; (subst h; exact absurd trivial hg); exact hF.u p h hg⟩
  rcases nilT_mem hp with h1 | h1
  · subst h1
    have h2 : RV g (.slc T es n) (a.tmps.getD d undef) := hF.t _ (find_mem hd) trivial
    obtain ⟨_, A, F, e1, hn1, hm, hr, hv⟩ := h2.slc_inv.slc_inv
    injection e1 with e1
    show RV g (.sl T es' none) (a.tmps.getD d undef)
    rw [e1]
    have := RC.sl (g := g) (T := T) (es := es') (tok := none) (A := A) (c := es.length) (by omega) hm F ?_ (fun k hk => (hv k (by omega)).sub_ (h k hk)) (fun i hi => by cases hi)
    · rw [hl] at this; exact this.rv1
    · rcases hr with h3 | ⟨b, o, hA, hj⟩
      · subst h3; left; exact List.length_eq_zero_iff.1 (by simp at hn; omega)
      · exact .inr ⟨b, o, hA, fun k hk j u hu => hj k (by omega) j u hu⟩
  · exact hF.t p h1 hg
/-- Is what is nil not nil? -/
theorem v_nilNeq {ops : Array Oper} {Q : Exit → Act → World → Prop} {rest : List Oper} {o : Oper} {t e q : Nat} {x : Operand} (H : Rel P w0 N nt st a w) (ht : P.underlying t = some (.slice e))
    (k : ∀ a w, Rel P w0 N nt (st.put o.dst none (.v (.bool false))) a w → wpList P ops Q rest a w) (hgd : o.guard = none := by rfl) (ho : o.op = .binOp .neq t x (.const (.slice none 0 0)) q := by rfl) (hd : okDst nt none o.dst = true := by rfl) (hx : st.ev none x = .v (.slice none 0 0) := by rfl) : wpList P ops Q (o :: rest) a w := by
  obtain ⟨g, HI, hF⟩ := H
  have ex := ev_sound hF (c := none) trivial x
  rw [hx] at ex
  have ex := ex.v_inv
  refine wpList_plain hgd fun K hK => ?_
  unfold Oper.wp
  have he : (execOp a.eval o).run P w = .ok (.value (.bool false)) w := by
    obtain ⟨dst, op, ty, pos, after, gd⟩ := o
    dsimp only at ho
    subst ho
    have hg : (eqGuard .neq t x (.const (.slice none 0 0)) (.slice none 0 0) (.slice none 0 0)).run P w = .ok () w := by simp [eqGuard]
    have hb : (binOp .neq t (.slice none 0 0) (.slice none 0 0)).run P w = .ok (.bool false) w := by simp [binOp, Op.equal, Op.maxDepth, Lib.run_equalIn_slice_nil w 9999 t e none 0 0 0 0 ht]
    have ev0 : a.eval (.const (.slice none 0 0)) = .slice none 0 0 := rfl
    simp only [execOp, ev0, ex, Sem.run_bind, hg, Result.andThen_ok, hb, Sem.run_pure]
  rw [he, Oper.upon_value]
  refine hK _ _ (k _ _ ⟨g, ?_, hF.put hd (fun _ => RV.v_of rfl) rfl (fun h => absurd trivial h)⟩)
  cases o.dst <;> exact HI
end
end Go.Proofs.Ythphhnkoilcofaa
/- Entries that are lent, and kept. -/
namespace Go.Proofs.Ythphhnkoilcofaa
open Go Go.RowKit
/-- A lent entry: its value with room. -/
def lentA (p : Pr) : AV := .st [.ba p.1, .bc (lentOf p.2) p.2.length none]
def zeroP : AV := .st [.ba (List.replicate 32 0), .v (.slice none 0 0)]
def lentPs (l : List Pr) : List AV := l.map lentA ++ List.replicate 2 zeroP
theorem lentPs_len (l : List Pr) : (lentPs l).length = l.length + 2 := by simp [lentPs]
/-- How far the copy has come. -/
def lentK (l : List Pr) (k : Nat) : List AV := (l.take k).map lentA ++ List.replicate (l.length + 2 - k) zeroP
theorem lentK_len (l : List Pr) (k : Nat) (h : k ≤ l.length) : (lentK l k).length = l.length + 2 := by simp [lentK]; omega
theorem lentK_set (l : List Pr) (k : Nat) (h : k < l.length) : (lentK l k).set k (lentA l[k]) = lentK l (k + 1) := by
  unfold lentK
  have h1 : ((l.take k).map lentA).length = k := by rw [List.length_map, List.length_take]; omega
  obtain ⟨q, hq⟩ : ∃ q, l.length + 2 - k = q + 1 := ⟨l.length + 1 - k, by omega⟩
  rw [hq, show l.length + 2 - (k + 1) = q by omega, List.take_succ_eq_append_getElem h, List.map_append, List.replicate_succ]
  rw [List.set_append_right _ _ (by omega), h1, Nat.sub_self]
  simp
theorem lentK_all (l : List Pr) : lentK l l.length = lentPs l := by unfold lentK lentPs; rw [List.take_length, show l.length + 2 - l.length = 2 by omega]
theorem lentPs_get (l : List Pr) (k : Nat) (h : k < l.length) : ((lentPs l).take l.length).getD k .any = lentA l[k] := by
  simp [lentPs, List.getD_eq_getElem?_getD, List.getElem?_take, List.getElem?_append, h]
theorem lentPs_end (l : List Pr) (k : Nat) (h : l.length ≤ k) (h2 : k < l.length + 2) : ((lentPs l).take (l.length + 2)).getD k .any = zeroP := by
  have e1 : ((lentPs l).take (l.length + 2)) = lentPs l := List.take_of_length_le (by rw [lentPs_len]; omega)
  rw [e1, lentPs, List.getD_eq_getElem?_getD, List.getElem?_append_right (by rw [List.length_map]; exact h), List.length_map]
  have e2 : k - l.length = 0 ∨ k - l.length = 1 := by omega
  rcases e2 with e2 | e2 <;> rw [e2] <;> rfl
set_option maxRecDepth 20000 in
set_option maxHeartbeats 1000000 in
theorem lentP_v (l : List Pr) (hk : K32 l) (hv : V0 l) (hl : l.length ≤ 1048576) : VC Try.prog 24 [.sl prT (l.map prA) none] [] (.slc prT (lentPs l) l.length) := by
  have hlm : (l.map prA).length = l.length := List.length_map ..
  refine mE Try.func24 ?_; intro N w0 a w hN hR H
  refine mS ?_
  have hX := @hlm
  (try refine wp_region_lit ?_); refine mN 1 hN H ?_; clear H; intro a w H
  refine mS ?_
  (try refine wpList_nil ?_)
  refine mS ?_
  (try refine wp_region_lit ?_); refine mN 5 hN H ?_; clear H; intro a w H
  have hi2 : ((l.length : Int) + 2) = ((l.length + 2 : Nat) : Int) := by omega
  rw [hi2] at H
  refine v_mkC l.length (l.length + 2) tab_ok (i := ti57) (j := ti62) rfl rfl rfl (by decide) H (by omega) (by simp; omega) (by simp only [maxLen]; omega) ?_; clear H; intro a w H
  replace H := nf H
  refine mW ?_; clear H; intro a w H
  replace H := v_sub H 3 (x := .vwc 0 0 l.length (l.length + 2)) (y := .vw 0 0 l.length) (by exact ⟨rfl, rfl, rfl⟩) rfl (fun _ e => by cases e) rfl
  simp only [nilT, reduceIte, Nat.reduceEqDiff] at H
  refine v_loop (fun k : Nat => ⟨[(4, none, .v (.int .i64 (k : Int))), (3, none, .vw 0 0 l.length), (10, none, .vwc 0 0 l.length (l.length + 2)), (0, none, .sl prT (l.map prA) none)], [(.vc 62 prT, .vc 0 (lentK l k))], [], []⟩) (fun k => k ≤ l.length) (fun k => l.length - k) 0 (Nat.zero_le _) (H.to 1 0 ⟨Nat.le_trans hN (by decide), hR⟩ ⟨rfl, rfl, rfl, rfl, trivial⟩ (by simp [lentK]; rfl) rfl rfl rfl rfl) ?_
  clear H
  intro k a w hk1 H
  have hll := lentK_len l k hk1
  refine mW ?_; clear H; intro a w H
  refine mC H (fun hb => ?_) (fun hb => ?_)
  · have hlt : k < l.length := by rw [decide_eq_true_eq] at hb; omega
    clear hb
    have g1 := prA_get l k hlt
    have w1 := hk _ (List.getElem_mem hlt)
    have v1 := hv _ (List.getElem_mem hlt)
    have hset := lentK_set l k hlt
    generalize l[k] = q at *
    obtain ⟨kb, vb⟩ := q
    dsimp only at g1 w1 v1
    simp only [lentA] at hset
    have hc := lent_v vb (by omega)
    clear hX; have hX := And.intro @hlm (And.intro @g1 (@hll))
    have hY := @w1
    refine mS ?_; refine mD 0 [12, 15] [0, 1, 2, 3, 4, 5, 6] H ?_; clear H; intro gS H
    refine mTN 5 hN H ?_; clear H; intro a w H; simp only [List.drop_succ_cons, List.drop_zero, List.drop_nil]
    refine mTN 2 hN H ?_; clear H; intro a w H; simp only [List.drop_succ_cons, List.drop_zero, List.drop_nil]
    refine mTN 3 hN H ?_; clear H; intro a w H; simp only [List.drop_succ_cons, List.drop_zero, List.drop_nil]
    refine mTN 2 hN H ?_; clear H; intro a w H; simp only [List.drop_succ_cons, List.drop_zero, List.drop_nil]
    refine mCallT [] [] (hc) H ?_; clear H; intro a w H
    refine mTN 1 hN H ?_; clear H; intro a w H; simp only [List.drop_succ_cons, List.drop_zero, List.drop_nil]
    refine mTN 1 hN H ?_; clear H; intro a w H; simp only [List.drop_succ_cons, List.drop_zero, List.drop_nil]
    refine mT ?_; clear H; intro a w H
    refine v_drawNil H ?_; clear H; intro H
    rw [hset] at H
    replace H := mK [0, 3, 4, 10] 1 0 hN hR H
    replace H := v_fz H
    simp only [List.filter_cons, List.filter_nil, List.length_cons, List.length_nil, Nat.reduceAdd, Nat.zero_add, Nat.lt_irrefl, decide_false, Bool.false_eq_true, reduceIte] at H
    clear hX; have hX := @hlm
    clear hY
    refine mW ?_; clear H; intro a w H
    exact ⟨k + 1, hlt, by omega, H.to 1 0 ⟨Nat.le_trans hN (by decide), hR⟩ ⟨rfl, rfl, rfl, rfl, trivial⟩ rfl rfl rfl rfl rfl⟩
  · have hge : k = l.length := by rw [decide_eq_false_iff_not] at hb; omega
    subst hge
    rw [lentK_all] at H
    refine mW ?_; clear H; intro a w H
    replace H := v_frzC H 2 10 0 hN rfl (by rw [lentPs_len]; omega) (lentPs_len l) rfl rfl
    simp only [nilT, reduceIte, Nat.reduceEqDiff] at H
    refine wp_ret ?_; exact mEnd [] [] [.tmp 2] [_] hN hR H
set_option maxRecDepth 20000 in
set_option maxHeartbeats 1000000 in
theorem keptP_v (l : List Pr) (hk : K32 l) (hv : V0 l) (hl : l.length ≤ 1048576) : VC Try.prog 33 [.slc prT (lentPs l) l.length, .sl prT (l.map prA) none] [] (.v (.bool true)) := by
  have hlm : (l.map prA).length = l.length := List.length_map ..
  have hpl := lentPs_len l
  have htl : ((lentPs l).take l.length).length = l.length := by rw [List.length_take, hpl]; omega
  refine mE Try.func33 ?_; intro N w0 a w hN hR H
  have hX := @hlm
  refine mW ?_; clear H; intro a w H
  refine mC H (fun hb => ?_) (fun hb => ?_)
  · simp at hb
  · clear hb
    refine mW ?_; clear H; intro a w H
    refine v_loop (fun k : Nat => ⟨[(5, none, .v (.int .i64 (k : Int))), (0, none, .slc prT (lentPs l) l.length), (1, none, .sl prT (l.map prA) none)], [], [], []⟩) (fun k => k ≤ l.length) (fun k => l.length - k) 0 (Nat.zero_le _) (H.to 0 0 ⟨hN, hR⟩ ⟨rfl, rfl, rfl, trivial⟩ rfl rfl rfl rfl rfl) ?_
    clear H
    intro k a w hk1 H
    refine mW ?_; clear H; intro a w H
    refine mC H (fun hb => ?_) (fun hb => ?_)
    · have hlt : k < l.length := by rw [decide_eq_true_eq] at hb; omega
      clear hb
      have g1 := prA_get l k hlt
      have g2 := lentPs_get l k hlt
      have w1 := hk _ (List.getElem_mem hlt)
      have v1 := hv _ (List.getElem_mem hlt)
      generalize l[k] = q at *
      obtain ⟨kb, vb⟩ := q
      simp only [lentA] at g2
      dsimp only at g1 w1 v1
      have hc := kept_v vb (by omega)
      clear hX; have hX := And.intro @hlm (And.intro @g1 (And.intro @g2 (@htl)))
      have hY := @w1
      refine mS ?_; refine mD 0 [22] [] H ?_; clear H; intro gS H
      refine mTN 3 hN H ?_; clear H; intro a w H; simp only [List.drop_succ_cons, List.drop_zero, List.drop_nil]
      refine mTN 2 hN H ?_; clear H; intro a w H; simp only [List.drop_succ_cons, List.drop_zero, List.drop_nil]
      refine mTN 3 hN H ?_; clear H; intro a w H; simp only [List.drop_succ_cons, List.drop_zero, List.drop_nil]
      refine mTN 2 hN H ?_; clear H; intro a w H; simp only [List.drop_succ_cons, List.drop_zero, List.drop_nil]
      refine mTN 2 hN H ?_; clear H; intro a w H; simp only [List.drop_succ_cons, List.drop_zero, List.drop_nil]
      refine mTN 3 hN H ?_; clear H; intro a w H; simp only [List.drop_succ_cons, List.drop_zero, List.drop_nil]
      refine mTN 2 hN H ?_; clear H; intro a w H; simp only [List.drop_succ_cons, List.drop_zero, List.drop_nil]
      refine mTN 3 hN H ?_; clear H; intro a w H; simp only [List.drop_succ_cons, List.drop_zero, List.drop_nil]
      refine mTN 2 hN H ?_; clear H; intro a w H; simp only [List.drop_succ_cons, List.drop_zero, List.drop_nil]
      replace H := v_knownT H 30 false (by rfl)
      simp only [unG, gdEq, Nat.reduceBEq, cond_true, cond_false] at H
      replace H := ntf H
      refine v_guardT H (by rfl) (by rfl) (by rfl) ?_
      refine mCallT [] [] (hc) H ?_; clear H; intro a w H
      refine mTN 1 hN H ?_; clear H; intro a w H; simp only [List.drop_succ_cons, List.drop_zero, List.drop_nil]
      replace H := v_knownT H 30 false (by rfl)
      simp only [unG, gdEq, Nat.reduceBEq, cond_true, cond_false] at H
      replace H := ntf H
      refine mT ?_; clear H; intro a w H
      refine v_drawNil H ?_; clear H; intro H
      refine mC H (fun hb => ?_) (fun hb => ?_)
      · cases hb
      · clear hb
        clear hX; have hX := @hlm
        clear hY
        refine mW ?_; clear H; intro a w H
        exact ⟨k + 1, hlt, by omega, H.to 0 0 ⟨hN, hR⟩ ⟨rfl, rfl, rfl, trivial⟩ rfl rfl rfl rfl rfl⟩
    · have hge : k = l.length := by rw [decide_eq_false_iff_not] at hb; omega
      subst hge
      clear hX; have hX := And.intro @hlm (@hpl)
      refine mW ?_; clear H; intro a w H
      refine v_loop (fun k : Nat => ⟨[(7, none, .v (.int .i64 (k : Int))), (6, none, .slc prT (lentPs l) (l.length + 2))], [], [], []⟩) (fun k => l.length ≤ k ∧ k ≤ l.length + 2) (fun k => l.length + 2 - k) l.length ⟨Nat.le_refl _, by omega⟩ (H.to 0 0 ⟨hN, hR⟩ ⟨rfl, rfl, trivial⟩ rfl rfl rfl rfl rfl) ?_
      clear H
      rintro k a w ⟨hk1, hk2⟩ H
      refine mW ?_; clear H; intro a w H
      refine mC H (fun hb => ?_) (fun hb => ?_)
      · have hlt : k < l.length + 2 := by rw [decide_eq_true_eq] at hb; omega
        clear hb
        have g1 := lentPs_end l k hk1 hlt
        have htl2 : ((lentPs l).take (l.length + 2)).length = l.length + 2 := by rw [List.length_take, hpl]; omega
        have hzz : (List.replicate 32 (0 : UInt8)).length = 32 := List.length_replicate
        simp only [zeroP] at g1
        refine mS ?_
        clear hX; have hX := And.intro @g1 (And.intro @htl2 (@hzz))
        (try refine wp_region_lit ?_); refine mN 3 hN H ?_; clear H; intro a w H
        (try refine wp_region_lit ?_); refine mN 5 hN H ?_; clear H; intro a w H
        replace H := v_known H 63 false (by rfl)
        simp only [unG, gdEq, Nat.reduceBEq, cond_true, cond_false] at H
        replace H := nf H
        (try refine wp_region_lit ?_); refine mN 3 hN H ?_; clear H; intro a w H
        (try refine wp_region_lit ?_); refine mN 2 hN H ?_; clear H; intro a w H
        replace H := v_known H 63 false (by rfl)
        simp only [unG, gdEq, Nat.reduceBEq, cond_true, cond_false] at H
        replace H := nf H
        refine mG H ?_
        refine v_nilNeq H Try.underlying60 ?_; clear H; intro a w H
        replace H := nf H
        refine mW ?_; clear H; intro a w H
        refine mC H (fun hb => ?_) (fun hb => ?_)
        · cases hb
        · clear hb
          refine mW ?_; clear H; intro a w H
          exact ⟨k + 1, ⟨by omega, hlt⟩, by omega, H.to 0 0 ⟨hN, hR⟩ ⟨rfl, rfl, trivial⟩ rfl rfl rfl rfl rfl⟩
      · clear hb
        clear hX; have hX := @hlm
        refine mW ?_; clear H; intro a w H
        refine wp_ret ?_; exact mEnd [] [] [.tmp 4] [_] hN hR H
end Go.Proofs.Ythphhnkoilcofaa
/- Rows of slices turned round in place; regions in every order of their loud operations. -/
namespace Go.Proofs.Ythphhnkoilcofaa
open Go Go.RowKit
abbrev OneV := { v : Value // v.oneCell' = true }
instance : Inhabited OneV := ⟨⟨.bool false, rfl⟩⟩
end Go.Proofs.Ythphhnkoilcofaa
namespace Go.Proofs.Ythphhnkoilcofaa
open Go Go.RowKit
/-- Values that lean on no cell but bytes. -/
def leafA : AV → Bool
  | .v _ => true
  | .ba _ => true
  | .bs _ none => true
  | .bc _ _ none => true
  | .ptr _ _ => true
  | .pti _ _ _ => true
  | .win _ _ _ _ => true
  | .vw _ _ _ => true
  | .pv _ _ _ _ => true
  | .mr _ => true
  | .ref (.ba _) (.ba _) => true
  | .any => true
  | _ => false
def plainA : Nat → AV → Bool
  | d + 1, .st fs => fs.all (plainA d)
  | d + 1, .tup fs => fs.all (plainA d)
  | _, a => leafA a
theorem RC.plain {g g2 : Gh} (hro : ∀ b o c, g.ro b o = some (B8 c) → g2.ro b o = some (B8 c)) (hbx : g2.bx = g.bx) : ∀ {d : Nat} {T : Ty} {a : AV} {cs : List Value}, RC g T a cs → plainA d a = true → RC g2 T a cs := by
  intro d
  have leaf : ∀ {T : Ty} {a : AV} {cs : List Value}, RC g T a cs → leafA a = true → RC g2 T a cs := by
    intro T a cs h hp
    cases h with
    | v h => exact .v h
    | ba h => exact .ba h
    | nl => simp [leafA] at hp
    | cn h hs => simp [leafA] at hp
    | bs hc hm hr ht =>
      rename_i l tok A c
      cases tok with
      | some j => simp [leafA] at hp
      | none =>
        refine .bs hc hm ?_ fun i hi => by cases hi
        rcases hr with h | ⟨b, o, hA, hj⟩
        · exact .inl h
        · exact .inr ⟨b, o, hA, fun j hj' => hro _ _ _ (hj j hj')⟩
    | sl hc hm F hr hv ht => simp [leafA] at hp
    | ptr h ho => exact .ptr (by rw [hbx]; exact h) ho
    | pti h ho hk => exact .pti (by rw [hbx]; exact h) ho hk
    | win h ho hn hc hm hA => exact .win (by rw [hbx]; exact h) ho hn hc hm hA
    | vw h hT hg hn hm hx => exact .vw (by rw [hbx]; exact h) hT hg hn hm hx
    | pv h hT hg ho hx => exact .pv (by rw [hbx]; exact h) hT hg ho hx
    | mr h hT => exact .mr (by rw [hbx]; exact h) hT
    | slc hn hm F hr hv => simp [leafA] at hp
    | vwc h hk => simp [leafA] at hp
    | bc hn hm hr ht =>
      rename_i l n tok A
      cases tok with
      | some j => simp [leafA] at hp
      | none =>
        refine .bc hn hm ?_ fun i hi => by cases hi
        rcases hr with h | ⟨b, o, hA, hj⟩
        · exact .inl h
        · exact .inr ⟨b, o, hA, fun j hj' => hro _ _ _ (hj j hj')⟩
    | ref cs h hr =>
      cases h with
      | ba h =>
        rename_i n l
        refine .ref (l.map B8) (.ba h) fun j u hu => ?_
        have := hr j u hu
        simp only [List.getElem?_map, Option.map_eq_some_iff] at hu
        obtain ⟨c, _, rfl⟩ := hu
        exact hro _ _ _ this
      | _ => simp [leafA] at hp
  induction d with
  | zero => exact fun {T a cs} h hp => leaf h (by cases a <;> exact hp)
  | succ d ih =>
    intro T a cs h hp
    have key : ∀ {T : Ty} {cs : List Value} {fs : List AV}, RC g T (.st fs) cs → fs.all (plainA d) = true → RC g2 T (.st fs) cs := by
      intro T
      induction T with
      | cn T Ts _ ihs =>
        intro cs fs h hp
        cases h with
        | cn h hs =>
          simp only [List.all_cons, Bool.and_eq_true] at hp
          exact .cn (ih h hp.1) (ihs hs hp.2)
      | nl => intro cs fs h hp; cases h; exact .nl
      | _ => intro cs fs h hp; cases h
    cases a with
    | st fs => exact key h hp
    | tup fs => cases h
    | _ =>
      exact leaf h hp
theorem BC.plain {g g2 : Gh} (hro : ∀ b o c, g.ro b o = some (B8 c) → g2.ro b o = some (B8 c)) (hbx : g2.bx = g.bx) {d : Nat} {T : Ty} {a : AV} {x : Bx} (h : BC g T a x) (hp : plainA d a = true) : BC g2 T a x := by
  obtain ⟨h1, h2, h3⟩ := h.rc_of (fun _ _ e => by subst e; cases d <;> simp [plainA, leafA] at hp) (fun _ _ e => by subst e; cases d <;> simp [plainA, leafA] at hp) (fun _ _ e => by subst e; cases d <;> simp [plainA, leafA] at hp)
  exact .pl (h3.plain hro hbx hp) h1 h2
theorem RV.plain {g g2 : Gh} (hro : ∀ b o c, g.ro b o = some (B8 c) → g2.ro b o = some (B8 c)) (hbx : g2.bx = g.bx) {d : Nat} {a : AV} {u : Value} (h : RV g a u) (hp : plainA (d + 1) a = true) : RV g2 a u := by
  have one : ∀ {d : Nat} {a : AV} {u : Value}, RV1 g a u → plainA d a = true → RV1 g2 a u := fun {d a u} h hp => by
    rcases h with ⟨T, cs, h1, h2, h3⟩ | h
    · exact .inl ⟨T, cs, h1, h2.plain hro hbx hp, h3⟩
    · exact .inr (h.plain hro hbx hp)
  cases a with
  | any => trivial
  | tup az =>
    obtain ⟨vs, h1, h2, h3⟩ := h
    exact ⟨vs, h1, h2, fun i a u ha hu => one (h3 i a u ha hu) (List.all_eq_true.1 hp a (List.mem_of_getElem? ha))⟩
  | _ => exact (one (show RV1 g _ u from h) hp).rv
end Go.Proofs.Ythphhnkoilcofaa
namespace Go.Proofs.Ythphhnkoilcofaa
open Go
section
variable {P : Program} {ops : Array Oper} {Q : Exit → Act → World → Prop} {S : World → Prop} {L A : List Nat}
/-- Where an operation stands in an order of one's own. -/
def rk (ord : List Nat) (i : Nat) : Nat := ord.idxOf i
structure OrdOk (ops : Array Oper) (ord : List Nat) : Prop where
  len : ord.length = ops.size
  lt : ∀ i ∈ ord, i < ops.size
  mem : ∀ i, i < ops.size → i ∈ ord
  pos : ∀ p (h : p < ord.length), rk ord ord[p] = p
  edge : ∀ j o, ops[j]? = some o → ∀ e ∈ o.after, Region.binds .any e = true → rk ord e.on < rk ord j
theorem OrdOk.inj {ops : Array Oper} {ord : List Nat} (h : OrdOk ops ord) {i j : Nat} (hi : i < ops.size) (hj : j < ops.size) (e : rk ord i = rk ord j) : i = j := by
  have h1 := List.getElem_idxOf (List.idxOf_lt_length_of_mem (h.mem i hi))
  have h2 := List.getElem_idxOf (List.idxOf_lt_length_of_mem (h.mem j hj))
  unfold rk at e
  rw [← h1, ← h2]
  simp only [e]
end
section
variable {P : Program} {w0 w : World} {N : Gh} {st : St} {nt : Nat} {a : Act}
end
end Go.Proofs.Ythphhnkoilcofaa
/- node.Way: the way of a key among entries. -/
namespace Go.Proofs.Ythphhnkoilcofaa
open Go Go.RowKit
end Go.Proofs.Ythphhnkoilcofaa
/- The document's way of a key among entries. -/
namespace Go.Proofs.Ythphhnkoilcofaa
open Go Go.RowKit
end Go.Proofs.Ythphhnkoilcofaa
/- Proofs as bytes: there and back, in plain Lean. -/
namespace Go.Proofs.Ythphhnkoilcofaa
open Go Go.RowKit
def Pf.pre (p : Pf) (r : List UInt8) : List UInt8 := [UInt8.ofNat (p.s.length / 256), UInt8.ofNat p.s.length] ++ (p.bits ++ (hashes p.s ++ r))
theorem Pf.chk_ok {p : Pf} (h : p.chk = 0) : p.s.length ≤ 256 ∧ p.e.ok ∧ p.e.k ≠ 2 := by
  unfold Pf.chk at h
  split at h
  · cases h
  · split at h
    · rename_i h1 h2; exact ⟨by omega, h2⟩
    · cases h
theorem ntext_len {n : Nd} (hw : n.wf) (h2 : n.k ≠ 2) : n.text.length = 1 ∨ n.text.length = 65 := by
  obtain ⟨h1, h3, _, _⟩ := hw
  unfold Nd.text
  split
  · right; simp; omega
  · left; first | rfl | (rw [if_neg h2]; rfl)
theorem plen (p : Pf) (hw : p.wf) (h : p.chk = 0) : 3 ≤ p.text.length ∧ p.text.length ≤ 8291 := by
  obtain ⟨h1, h2, h3⟩ := p.chk_ok h
  have hl := ntext_len hw.e h3
  have hbl : p.bits.length = (p.s.length + 7) / 8 := bitsB_len _ _
  have hh := hashes_len p.s hw.s
  simp only [Pf.text, List.length_append, List.length_cons, List.length_nil]
  omega
end Go.Proofs.Ythphhnkoilcofaa
/- Ways among entries, plain: they lead up to the root, and say what is there; the error of node.Way. -/
namespace Go.Proofs.Ythphhnkoilcofaa
open Go Go.RowKit
end Go.Proofs.Ythphhnkoilcofaa
/- The statement NodeRoots, in values. -/
namespace Go.Proofs.Ythphhnkoilcofaa
open Go Go.RowKit
theorem fewP_v (l : List Pr) (hl : l.length ≤ 1048576) : VC Try.prog 37 [.sl prT (l.map prA) none] [] (.v (.bool (decide (l.length ≤ 40 ∨ 4096 < l.length)))) := by
  have hlm : (l.map prA).length = l.length := List.length_map ..
  have hd : (bif decide ((l.length : Int) ≤ 40) then true else decide ((4096 : Int) < (l.length : Int))) = decide (l.length ≤ 40 ∨ 4096 < l.length) := by
    by_cases h1 : l.length ≤ 40
    · rw [decide_eq_true (show (l.length : Int) ≤ 40 by omega), decide_eq_true (show l.length ≤ 40 ∨ 4096 < l.length from .inl h1)]; rfl
    · rw [decide_eq_false (show ¬ (l.length : Int) ≤ 40 by omega)]
      by_cases h2 : 4096 < l.length
      · rw [decide_eq_true (show (4096 : Int) < (l.length : Int) by omega), decide_eq_true (show l.length ≤ 40 ∨ 4096 < l.length from .inr h2)]; rfl
      · rw [decide_eq_false (show ¬ (4096 : Int) < (l.length : Int) by omega), decide_eq_false (show ¬ (l.length ≤ 40 ∨ 4096 < l.length) by omega)]; rfl
  refine mE Try.func37 ?_; intro N w0 a w hN hR H
  have hX := @hlm
  refine mW ?_; clear H; intro a w H
  rw [hd] at H
  refine wp_ret ?_; exact mEnd [] [] [.tmp 2] [_] hN hR H
theorem lentA_sub (l : List Pr) (k : Nat) (h1 : k < (l.map prA).length) : sub 3 ((lentPs l)[k]'(by rw [lentPs_len]; rw [List.length_map] at h1; omega)) (l.map prA)[k] := by
  have h2 : k < l.length := by simpa using h1
  have e1 : (lentPs l)[k]'(by rw [lentPs_len]; omega) = lentA l[k] := by simp [lentPs, List.getElem_append, h2]
  rw [e1, List.getElem_map]
  exact ⟨rfl, by simp [sub, lentOf], trivial⟩
set_option maxRecDepth 20000 in
set_option maxHeartbeats 4000000 in
theorem nodeRoots_v (l : List Pr) (hk : K32 l) (hv : V0 l) (hl : l.length ≤ 1048576) (d : Int) : VC Try.prog 6 [.sl prT (l.map prA) none, .v (.int .i64 d)] [] (.v (.bool true)) := by
  have c0 := fewP_v l hl
  have c1 := lentP_v l hk hv hl
  have c2 := nroot0_v l hk (by omega)
  have c3 := rootR_v l hk (by omega)
  have c4 := nrootAt_v l hk (by omega) d
  have c5 := rootAtR_v l hk (by omega) d
  have c6 := keptP_v l hk hv hl
  have h1 := rootE_len l 0
  have h2 := rootE_len l d
  have hpl := lentPs_len l
  have hpm : (l.map prA).length = l.length := List.length_map ..
  have hsb := lentA_sub l
  generalize rootE l 0 = r1 at *
  generalize rootE l d = r2 at *
  obtain ⟨r1, e1⟩ := r1
  obtain ⟨r2, e2⟩ := r2
  dsimp only at c2 c3 c4 c5 h1 h2
  refine mE Try.func6 ?_; intro N w0 a w hN hR H
  refine mW ?_; clear H; intro a w H
  refine mCall [] [] (c0) H ?_; clear H; intro a w H; try refine wpList_nil ?_
  refine mW ?_; clear H; intro a w H
  refine mC H (fun hb => ?_) (fun hb => ?_)
  · refine mW ?_; clear H; intro a w H
    refine wp_ret ?_; exact mEnd [] [] [.tmp 4] [_] hN hR H
  · clear hb
    refine mW ?_; clear H; intro a w H
    refine mCall [] [] (c1) H ?_; clear H; intro a w H; try refine wpList_nil ?_
    have hX := And.intro @h1 (@h2)
    refine mW ?_; clear H; intro a w H
    replace H := v_slcL H 20 (es' := l.map prA) rfl (by omega) hpm hsb
    simp only [nilT, reduceIte, Nat.reduceEqDiff] at H
    refine mCall [] [] (c2) H ?_; clear H; intro a w H; try refine wpList_nil ?_
    refine mW ?_; clear H; intro a w H
    refine mCall [] [] (c3) H ?_; clear H; intro a w H; try refine wpList_nil ?_
    refine mW ?_; clear H; intro a w H
    replace H := v_slcL H 30 (es' := l.map prA) rfl (by omega) hpm hsb
    simp only [nilT, reduceIte, Nat.reduceEqDiff] at H
    refine mCall [] [] (c4) H ?_; clear H; intro a w H; try refine wpList_nil ?_
    refine mW ?_; clear H; intro a w H
    refine mCall [] [] (c5) H ?_; clear H; intro a w H; try refine wpList_nil ?_
    refine mW ?_; clear H; intro a w H
    refine mCallG [] [] (c6) H ?_; clear H; intro a w H; try refine wpList_nil ?_
    refine mW ?_; clear H; intro a w H
    refine wp_ret ?_; exact mEnd [] [] [.tmp 4] [_] hN hR H
end Go.Proofs.Ythphhnkoilcofaa
/- Nodes among the arguments. -/
namespace Go.Proofs.Ythphhnkoilcofaa
open Go Go.RowKit
end Go.Proofs.Ythphhnkoilcofaa
/- Entries among the arguments. -/
namespace Go.Proofs.Ythphhnkoilcofaa
open Go Go.RowKit
theorem pair_sh {M d : Nat} {a : AV} (h : Sh tab M (d + 2) 62 a) : ∃ p : Pr, a = prA p ∧ p.1.length = 32 ∧ p.2.length ≤ M := by
  obtain ⟨az, rfl, hs⟩ := h.rcd rfl rfl
  clear h; have h := hs; clear hs; dsimp only [List.map] at h
  obtain ⟨a0, r, rfl, h0, h⟩ := shl_cons h
  obtain ⟨a1, r, rfl, h1, h⟩ := shl_cons h
  obtain rfl := shl_nil h
  obtain ⟨k, rfl, hk⟩ := h0.arr rfl rfl
  obtain ⟨v, rfl, hv⟩ := h1.bytes rfl rfl rfl
  exact ⟨(k, v), rfl, hk, hv⟩
theorem pairs_sh {M d : Nat} {a : AV} (h : Sh tab M (d + 3) 57 a) : ∃ l : List Pr, a = .sl prT (l.map prA) none ∧ K32 l ∧ l.length ≤ M ∧ ∀ x ∈ l, x.2.length ≤ M := by
  obtain ⟨es, rfl, hl, he⟩ := h.slc rfl rfl rfl
  obtain ⟨ys, rfl, hy⟩ := sh_list (q := fun p : Pr => p.1.length = 32 ∧ p.2.length ≤ M) (f := prA) (fun x hx => pair_sh hx) he
  exact ⟨ys, rfl, fun x hx => (hy x hx).1, by simpa using hl, fun x hx => (hy x hx).2⟩
end Go.Proofs.Ythphhnkoilcofaa
/- NodeRoots, of all arguments of its types. -/
namespace Go.Proofs.Ythphhnkoilcofaa
open Go Go.RowKit
theorem nodeRoots_az (az : List AV) (h : ShL (Sh tab 1048576 6) [57, 3] az) : VC Try.prog 6 az [] (.v (.bool true)) := by
  obtain ⟨a0, r, rfl, h0, h⟩ := shl_cons h
  obtain ⟨a1, r, rfl, h1, h⟩ := shl_cons h
  obtain rfl := shl_nil h
  obtain ⟨l, rfl, hk, hl, hv⟩ := pairs_sh h0
  obtain ⟨d, rfl, hd⟩ := h1.int rfl rfl
  exact nodeRoots_v l hk (fun x hx => Nat.le_trans (hv x hx) (by decide)) hl d
end Go.Proofs.Ythphhnkoilcofaa
