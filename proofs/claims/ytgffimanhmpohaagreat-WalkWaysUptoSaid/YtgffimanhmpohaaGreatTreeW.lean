/- slices.Clone of entries, in values. -/
import Derived.Test.YtgffimanhmpohaaGreatSrt4
import Derived.Test.YtgffimanhmpohaaGreatLess
import Derived.Lib.SliceRun
import Derived.Test.YtgffimanhmpohaaGreatWayP
set_option linter.unusedSimpArgs false
set_option linter.unusedVariables false
namespace Go.Proofs.YtgffimanhmpohaaGreat
open Go Go.RowKit
section
variable {P : Program} {τ : Tab} {w0 w : World} {N : Gh} {g : Gh} {st : St} {nt : Nat} {a : Act}
/-- A slice of no elements, laid out: it may grow. -/
theorem v_mk0 {ops : Array Oper} {Q : Exit → Act → World → Prop} {rest : List Oper} {o : Oper} {t e : Nat} {i j : TI} (hτ : τ.ok P) (hi : Tab.get t τ = some i) (hid : i.d = .slc e) (hj : Tab.get e τ = some j) (hs : 0 < j.ty.size) (H : Rel P w0 N nt st a w)
    (k : ∀ a w, Rel P w0 N nt ((⟨st.t, st.bx ++ [(.vc e j.ty, .vc 0 [])], st.fz, st.rw⟩ : St).put o.dst none (.vw st.bx.length 0 0)) a w → wpList P ops Q rest a w) (hgd : o.guard = none := by rfl) (ho : o.op = .buildSlice t 0 #[] := by rfl) (hd : okDst nt none o.dst = true := by rfl) : wpList P ops Q (o :: rest) a w := by
  obtain ⟨g, HI, hF⟩ := H
  have hok := Tab.get_ok hτ hi
  have hdd := hok.d
  rw [hid] at hdd
  have hjok := Tab.get_ok hτ hj
  obtain ⟨g', l1, I1, h1⟩ := HI.boxG (x := ⟨w.heap.size, e, .vc e j.ty, [], false, 0, 0, false, none⟩) (a := .vc 0 []) (w' := w.alloc (.cells #[] e)) rfl (grown_alloc w _) (fun _ => ⟨rfl, .of rfl (Blk.new w e #[])⟩) (fun e => by cases e) (fun e => by cases e)
    (.inr (.inl ⟨j.ty, 0, [], fun _ => [], [], ⟨_, rfl, rfl⟩, rfl, rfl, rfl, hs, ⟨Nat.zero_le _, fun _ => rfl⟩, rfl, (by show 0 = 0 * _; rw [Nat.zero_mul]), fun u hu => (by cases hu), fun k hk => absurd hk (by simp)⟩))
  refine wpList_plain hgd fun K hK => ?_
  unfold Oper.wp
  have he : (execOp a.eval o).run P w = .ok (.value (.slice (some ⟨w.heap.size, 0, none⟩) 0 0)) (w.alloc (.cells #[] e)) := by
    obtain ⟨dst, op, ty, pos, after, gd⟩ := o
    dsimp only at ho
    subst ho
    simp [execOp, Instr.buildSlice, run_underlying (show P.underlying t = _ from hdd), hjok.sizeOf w, Instr.fill, newRow]
    rw [show (Array.map (fun _ : Nat => (default : Value)) (Array.range 0)) = #[] from Array.eq_empty_of_size_eq_zero (by simp)]
  rw [he, Oper.upon_value]
  refine hK _ _ (k _ _ ⟨g', ?_, (hF.mono l1.1).put hd (fun _ => (RC.vw h1 rfl (Nat.le_refl _) (Nat.le_refl _) (Nat.zero_le _) fun _ => ⟨rfl, .inr ⟨rfl, rfl⟩⟩).rv1) rfl (fun h => absurd trivial h)⟩)
  cases o.dst <;> exact I1
/-- Is a slice that stays as it is nil? -/
theorem v_isNil {ops : Array Oper} {Q : Exit → Act → World → Prop} {rest : List Oper} {o : Oper} {t e q : Nat} {x : Operand} {T : Ty} {es : List AV} (H : Rel P w0 N nt st a w) (ht : P.underlying t = some (.slice e))
    (k : ∀ b : Bool, (es ≠ [] → b = false) → ∀ a w, Rel P w0 N nt (st.put o.dst none (.v (.bool b))) a w → wpList P ops Q rest a w) (hgd : o.guard = none := by rfl) (ho : o.op = .binOp .eql t x (.const (.slice none 0 0)) q := by rfl) (hd : okDst nt none o.dst = true := by rfl) (hx : st.ev none x = .sl T es none := by rfl) : wpList P ops Q (o :: rest) a w := by
  obtain ⟨g, HI, hF⟩ := H
  have ex := ev_sound hF (c := none) trivial x
  rw [hx] at ex
  obtain ⟨_, A, c, F, e1, _, _, hr, _⟩ := ex.sl_inv.sl_inv
  injection e1 with e1
  refine wpList_plain hgd fun K hK => ?_
  unfold Oper.wp
  have he : (execOp a.eval o).run P w = .ok (.value (.bool A.isNone)) w := by
    obtain ⟨dst, op, ty, pos, after, gd⟩ := o
    dsimp only at ho
    subst ho
    have hg : (eqGuard .eql t x (.const (.slice none 0 0)) (.slice A es.length c) (.slice none 0 0)).run P w = .ok () w := by simp [eqGuard]
    have hb := Lib.run_eql_slice_nil w t e A es.length c 0 0 ht
    have ev0 : a.eval (.const (.slice none 0 0)) = .slice none 0 0 := rfl
    simp only [execOp, ev0, e1, Sem.run_bind, hg, Result.andThen_ok, hb, Sem.run_pure]
  rw [he, Oper.upon_value]
  refine hK _ _ (k A.isNone (fun hne => ?_) _ _ ⟨g, ?_, hF.put hd (fun _ => RV.v_of rfl) rfl (fun h => absurd trivial h)⟩)
  · rcases hr with h | ⟨b, o, hA, _⟩
    · exact absurd h hne
    · rw [hA]; rfl
  · cases o.dst <;> exact HI
end
theorem clone_v (l : List Pr) (hl : l ≠ []) (hn : l.length ≤ 34359738000) : VX Tryz.prog 78 [] [] [] [.sl prT (l.map prA) none] [(.vc 53 prT, .vc 1 (l.map prA))] [] [] (.vw 0 1 l.length) := by
  have hlm : (l.map prA).length = l.length := List.length_map ..
  have hne : l.map prA ≠ [] := fun h => hl (by simpa using h)
  refine mE Tryz.func78 ?_; intro N w0 a w hN hR H
  refine mW ?_; clear H; intro a w H
  refine v_isNil H Tryz.underlying22 ?_; clear H; intro b hb0 a w H
  have hbf := hb0 hne
  subst hbf
  replace H := nf H
  try refine wpList_nil ?_
  refine mW ?_; clear H; intro a w H
  refine mC H (fun hb => ?_) (fun hb => ?_)
  · cases hb
  · refine mS ?_
    (try refine wp_region_lit ?_)
    refine v_mk0 tab_ok (i := ti22) (j := ti53) rfl rfl rfl (by decide) H ?_; clear H; intro a w H
    replace H := nf H
    have hX := @hlm
    refine mW ?_; clear H; intro a w H
    refine wp_ret ?_; exact mEnd [0] [] [.tmp 2] [_] hN hR H
theorem clone0_v : VC Tryz.prog 78 [.sl prT [] none] [] (.sl prT [] none) := by
  refine mE Tryz.func78 ?_; intro N w0 a w hN hR H
  refine mW ?_; clear H; intro a w H
  refine v_isNil H Tryz.underlying22 ?_; clear H; intro b hb0 a w H
  clear hb0
  replace H := nf H
  try refine wpList_nil ?_
  refine mW ?_; clear H; intro a w H
  cases b with
  | true =>
    refine mC H (fun hb => ?_) (fun hb => ?_)
    · refine mW ?_; clear H; intro a w H
      refine wp_ret ?_; exact mEnd [] [] [.tmp 2] [_] hN hR H
    · cases hb
  | false =>
    refine mC H (fun hb => ?_) (fun hb => ?_)
    · cases hb
    · refine mS ?_
      (try refine wp_region_lit ?_)
      refine v_mk0 tab_ok (i := ti22) (j := ti53) rfl rfl rfl (by decide) H ?_; clear H; intro a w H
      replace H := nf H
      refine mW ?_; clear H; intro a w H
      have H := v_frz H 2 0 (Nat.le_trans hN (by decide)) rfl (by decide) rfl
      replace H := nf H
      refine wp_ret ?_; exact mEnd [] [] [.tmp 2] [_] hN hR H
theorem sort0_v : VC Tryz.prog 79 [.sl prT [] none, .v (.func (.func 80) #[] #[])] [] (.tup []) := by
  refine VC.ofA ⟨_, Tryz.func79, by kernel_rfl, by kernel_rfl⟩ fun w N vs hM hl hv => ?_
  obtain ⟨u, v, rfl, h1, h2⟩ := two (args := []) hl hv
  obtain ⟨_, A, c, F, e1, _⟩ := h1.sl_inv.sl_inv
  injection e1 with e1
  subst e1
  refine (AnyF.slices_SortFunc_none srtL A c _ w).mono ?_
  rintro e w' ⟨rfl, rfl⟩
  exact ⟨_, rfl, Below.refl _ _, ⟨[], rfl, rfl, fun i a u ha _ => by simp at ha⟩⟩
end Go.Proofs.YtgffimanhmpohaaGreat
/- node.sorted: entries by rising key, or why they may not be. -/
namespace Go.Proofs.YtgffimanhmpohaaGreat
open Go Go.RowKit
def chkP : List (List UInt8) → List Pr → Nat
  | _, [] => 0
  | ks, p :: l => if 1024 < p.2.length then 4 else if p.1 ∈ ks then 6 else chkP (ks ++ [p.1]) l
def errP (l : List Pr) : Nat := if 4096 < l.length then 4 else chkP [] l
def keysP (l : List Pr) : List (List UInt8) := l.map (·.1)
theorem chkP_dis : ∀ (ks : List (List UInt8)) (l : List Pr), chkP ks l = 0 → Dis l ∧ ∀ x ∈ l, x.1 ∉ ks
  | _, [], _ => ⟨List.Pairwise.nil, fun x hx => by cases hx⟩
  | ks, p :: l, h => by
    unfold chkP at h
    split at h
    · cases h
    · split at h
      · cases h
      · rename_i hn
        obtain ⟨h1, h2⟩ := chkP_dis _ l h
        refine ⟨List.pairwise_cons.2 ⟨fun y hy e => h2 y hy (by simp [e]), h1⟩, fun x hx => ?_⟩
        rcases List.mem_cons.1 hx with rfl | hx
        · exact hn
        · exact fun hm => h2 x hx (List.mem_append_left _ hm)
theorem chkP_cons (ks : List (List UInt8)) (l : List Pr) (k : Nat) (h : k < l.length) : chkP ks (l.drop k) = if 1024 < l[k].2.length then 4 else if l[k].1 ∈ ks then 6 else chkP (ks ++ [l[k].1]) (l.drop (k + 1)) := by
  rw [List.drop_eq_getElem_cons h]; rfl
def resP (l : List Pr) : AV := if errP l = 0 then .tup [.sl prT ((srt l).map prA) none, .v (.int .i64 0)] else .tup [.sl prT [] none, .v (.int .i64 (errP l : Int))]
theorem ktP : KT Tryz.prog 24 32 := KT.of Tryz.underlying24 Tryz.underlying5 (by kernel_rfl) (by kernel_rfl) (by kernel_rfl) (by kernel_rfl) (by kernel_rfl) (by decide +kernel)
theorem prA_get (l : List Pr) (k : Nat) (h : k < l.length) : (l.map prA).getD k .any = .st [.ba l[k].1, .bs l[k].2 none] := by simp [prA, List.getD_eq_getElem?_getD, h]
set_option maxRecDepth 20000 in
set_option maxHeartbeats 1000000 in
theorem sorted_v (l : List Pr) (hk : K32 l) (hl : l.length ≤ 34359738000) : VC Tryz.prog 44 [.sl prT (l.map prA) none] [] (resP l) := by
  have hlm : (l.map prA).length = l.length := List.length_map ..
  refine mE Tryz.func44 ?_; intro N w0 a w hN hR H
  have hX := @hlm
  refine mW ?_; clear H; intro a w H
  refine mC H (fun hb => ?_) (fun hb => ?_)
  · have he : errP l = 4 := by unfold errP; rw [if_pos (by simp at hb; omega)]
    have hr : resP l = .tup [.sl prT [] none, .v (.int .i64 4)] := by unfold resP; rw [he]; rfl
    rw [hr]
    refine mW ?_; clear H; intro a w H
    refine wp_ret ?_; exact mEnd [] [] [.tmp 2, .tmp 3] [_, _] hN hR H
  · have hle : l.length ≤ 4096 := by simp at hb; omega
    have he : errP l = chkP [] l := by unfold errP; rw [if_neg (by omega)]
    clear hb
    replace H := mK [0, 2, 3] 0 0 hN hR H
    refine mS ?_
    (try refine wp_region_lit ?_)
    refine v_mkMap (.ba 32) .sc H ?_; clear H; intro a w H
    replace H := nf H
    refine mW ?_; clear H; intro a w H
    refine v_loop (fun k : Nat => ⟨[(14, none, .v (.int .i64 (k : Int))), (13, none, .v (.int .i64 (l.length : Int))), (12, none, .sl prT (l.map prA) none), (4, none, .mr 0), (3, none, .v (.int .i64 0)), (2, none, .v (.slice none 0 0)), (0, none, .sl prT (l.map prA) none)],
      [(.mp (.ba 32) .sc, .mp ((keysP (l.take k)).map .ba) (List.replicate k (.v (.bool true))))], [], []⟩) (fun k => k ≤ l.length ∧ chkP (keysP (l.take k)) (l.drop k) = chkP [] l) (fun k => l.length - k) 0 ⟨Nat.zero_le _, rfl⟩ (H.to 1 0 ⟨Nat.le_trans hN (by decide), hR⟩ ⟨rfl, rfl, rfl, rfl, rfl, rfl, rfl, trivial⟩ rfl rfl rfl rfl rfl) ?_
    clear H
    rintro k a w ⟨hk1, hk2⟩ H
    refine mW ?_; clear H; intro a w H
    refine mC H (fun hb => ?_) (fun hb => ?_)
    · have hlt : k < l.length := by simpa using hb
      clear hb
      have hg := prA_get l k hlt
      have hp32 := hk _ (List.getElem_mem hlt)
      have hstep := chkP_cons (keysP (l.take k)) l k hlt
      rw [hk2] at hstep
      have htk : keysP (l.take (k + 1)) = keysP (l.take k) ++ [l[k].1] := by unfold keysP; rw [List.take_succ_eq_append_getElem hlt, List.map_append]; rfl
      obtain ⟨p, hpp⟩ : ∃ p, p = l[k] := ⟨_, rfl⟩
      rw [← hpp] at hg hp32 hstep htk
      obtain ⟨kb, vb⟩ := p
      dsimp only at hg hp32 hstep htk
      refine mS ?_
      clear hX; have hX := And.intro @hlm (@hg)
      (try refine wp_region_lit ?_); refine mN 3 hN H ?_; clear H; intro a w H
      refine mW ?_; clear H; intro a w H
      refine mC H (fun hb => ?_) (fun hb => ?_)
      · have hv : 1024 < vb.length := by simp at hb; omega
        have he4 : errP l = 4 := by rw [he, hstep, if_pos hv]
        have hr : resP l = .tup [.sl prT [] none, .v (.int .i64 4)] := by unfold resP; rw [he4]; rfl
        rw [hr]
        refine mW ?_; clear H; intro a w H
        refine wp_ret ?_; exact mEnd [] [] [.tmp 2, .tmp 3] [_, _] hN hR H
      · have hv : ¬ 1024 < vb.length := by simp at hb; omega
        clear hb
        rw [if_neg hv] at hstep
        refine mS ?_
        (try refine wp_region_lit ?_); refine mN 3 hN H ?_; clear H; intro a w H
        refine v_look ktP H Tryz.underlying138 Tryz.zeroValue4 (z := .v (.bool false)) (fun g => RV.v_of rfl) hp32 ?_ ?_
        · intro hnm
          clear H; intro a w H
          replace H := nf H
          rw [if_neg hnm] at hstep
          refine mW ?_; clear H; intro a w H
          refine mC H (fun hb => ?_) (fun hb => ?_)
          · cases hb
          · refine mS ?_
            (try refine wp_region_lit ?_); refine mN 3 hN H ?_; clear H; intro a w H
            refine v_mapNew ktP H Tryz.underlying138 hp32 hnm ?_; clear H; intro a w H
            replace H := nf H
            try refine wpList_nil ?_
            refine mW ?_; clear H; intro a w H
            exact ⟨k + 1, ⟨hlt, by rw [htk, ← hstep]⟩, by omega, H.to 1 0 ⟨Nat.le_trans hN (by decide), hR⟩ ⟨rfl, rfl, rfl, rfl, rfl, rfl, rfl, trivial⟩ (by rw [htk, List.map_append, List.replicate_succ']; rfl) rfl rfl rfl rfl⟩
        · intro j v hj hvj
          clear H; intro a w H
          have hvt : v = .v (.bool true) := by
            have := List.mem_of_getElem? hvj
            exact (List.mem_replicate.1 this).2
          subst hvt
          rw [if_pos (List.mem_of_getElem? hj)] at hstep
          have he6 : errP l = 6 := by rw [he, hstep]
          have hr : resP l = .tup [.sl prT [] none, .v (.int .i64 6)] := by unfold resP; rw [he6]; rfl
          rw [hr]
          replace H := nf H
          refine mW ?_; clear H; intro a w H
          refine mC H (fun hb => ?_) (fun hb => ?_)
          · refine mW ?_; clear H; intro a w H
            refine wp_ret ?_; exact mEnd [] [] [.tmp 2, .tmp 3] [_, _] hN hR H
          · cases hb
    · have hge : k = l.length := by simp at hb; omega
      clear hb
      subst hge
      rw [List.drop_length] at hk2
      have he0 : errP l = 0 := by rw [he, ← hk2]; rfl
      have hdis := (chkP_dis [] l (by rw [← hk2]; rfl)).1
      have hr : resP l = .tup [.sl prT ((srt l).map prA) none, .v (.int .i64 0)] := by unfold resP; rw [if_pos he0]
      rw [hr]
      replace H := mK [0, 2, 3] 0 0 hN hR H
      by_cases hl0 : l = []
      · subst hl0
        have hs0 : srt [] = [] := rfl
        rw [hs0]
        simp only [List.map_nil] at H ⊢
        refine mS ?_
        clear hX
        (try refine wp_region_lit ?_); refine mN 1 hN H ?_; clear H; intro a w H
        refine mCall [] [] (clone0_v) H ?_; clear H; intro a w H; try refine wpList_nil ?_
        refine mW ?_; clear H; intro a w H
        refine mCall [] [] (sort0_v) H ?_; clear H; intro a w H; try refine wpList_nil ?_
        refine mW ?_; clear H; intro a w H
        refine wp_ret ?_; exact mEnd [] [] [.tmp 2, .tmp 3] [_, _] hN hR H
      · have hc := clone_v l hl0 hl
        have hs := sort_v l 1 hdis (by omega)
        have hsl : (srt l).length = l.length := (srt_perm l).length_eq
        refine mS ?_
        clear hX
        (try refine wp_region_lit ?_); refine mN 1 hN H ?_; clear H; intro a w H
        refine mCall [] [] (hc) H ?_; clear H; intro a w H; try refine wpList_nil ?_
        refine mW ?_; clear H; intro a w H
        refine mCall [0] [] (hs) H ?_; clear H; intro a w H; try refine wpList_nil ?_
        refine mW ?_; clear H; intro a w H
        have H := v_frz H 2 0 (Nat.le_trans hN (by decide)) rfl (by rw [List.length_map, hsl]; exact Nat.le_refl _) rfl
        replace H := nf H
        have htl : ((srt l).map prA).take l.length = (srt l).map prA := List.take_of_length_le (by rw [List.length_map, hsl]; exact Nat.le_refl _)
        rw [htl] at H
        refine wp_ret ?_; exact mEnd [] [] [.tmp 2, .tmp 3] [_, _] hN hR H
end Go.Proofs.YtgffimanhmpohaaGreat
/- Roots of entries at a depth; entries that rise part where their bit does. In plain Lean. -/
namespace Go.Proofs.YtgffimanhmpohaaGreat
open Go Go.RowKit
abbrev En := List UInt8 × List UInt8
def base (l : List En) : List UInt8 := match l with
  | [] => sum [0]
  | x :: _ => leafH x.1 x.2
def half (b : Bool) (d : Nat) (l : List En) : List En := l.filter fun x => bitN x.1 d == b
def rootA : Nat → Nat → List En → List UInt8
  | 0, _, l => base l
  | f + 1, d, l => if l.length < 2 then base l else innerH (rootA f (d + 1) (half false d l)) (rootA f (d + 1) (half true d l))
theorem rootA_len : ∀ f d l, (rootA f d l).length = 32
  | 0, _, [] => sum_length _
  | 0, _, _ :: _ => leafH_len _ _
  | f + 1, d, l => by
    unfold rootA
    split
    · exact rootA_len 0 d l
    · exact innerH_len _ _
theorem rootA_small (f d : Nat) (l : List En) (h : l.length < 2) : rootA f d l = base l := by
  cases f with
  | zero => rfl
  | succ f => rw [rootA, if_pos h]
/-- Unlike keys that share their first d bits. -/
def Sep (d : Nat) (l : List En) : Prop := l.Pairwise fun x y => agree d x.1 y.1 ∧ ¬ agree 256 x.1 y.1
theorem Sep.side {d : Nat} {l : List En} (h : Sep d l) (b : Bool) : Sep (d + 1) (half b d l) := by
  unfold Sep half
  have h2 : (l.filter fun x => bitN x.1 d == b).Pairwise fun x y => agree d x.1 y.1 ∧ ¬ agree 256 x.1 y.1 := h.filter _
  refine List.Pairwise.imp_of_mem (fun {x y} hx hy hp => ⟨fun t ht => ?_, hp.2⟩) h2
  by_cases h1 : t < d
  · exact hp.1 t h1
  · rw [show t = d by omega]
    have e1 : bitN x.1 d = b := by simpa using (List.mem_filter.1 hx).2
    have e2 : bitN y.1 d = b := by simpa using (List.mem_filter.1 hy).2
    rw [e1, e2]
theorem Sep.deep {d : Nat} {l : List En} (h : Sep d l) (hd : 256 ≤ d) : l.length < 2 := by
  match l, h with
  | [], _ => simp
  | [_], _ => simp
  | x :: y :: l, h =>
    exfalso
    have := (List.pairwise_cons.1 h).1 y List.mem_cons_self
    exact this.2 fun t ht => this.1 t (by omega)
/-- Keys that rise and share their first d bits. -/
def Rise (d : Nat) (l : List En) : Prop := l.Pairwise fun x y => agree d x.1 y.1 ∧ ltB x.1 y.1
theorem Rise.sep {d : Nat} {l : List En} (h : Rise d l) : Sep d l := List.Pairwise.imp (fun {x y} hp => ⟨hp.1, fun ha => by
  obtain ⟨c, hc, _, h2, h3⟩ := hp.2
  rw [ha c hc, h3] at h2; cases h2⟩) h
theorem Rise.side {d : Nat} {l : List En} (h : Rise d l) (b : Bool) : Rise (d + 1) (half b d l) := by
  have h1 := h.sep.side b
  have h2 : (half b d l).Pairwise fun x y => agree d x.1 y.1 ∧ ltB x.1 y.1 := h.filter _
  exact List.Pairwise.imp₂ (fun x y p q => ⟨q.1, p.2⟩) h2 h1
/-- How many entries have the bit 0. -/
def partN (d : Nat) (l : List En) : Nat := (l.takeWhile fun x => !bitN x.1 d).length
theorem Rise.part {d : Nat} (hd : d < 256) : ∀ {l : List En}, Rise d l → half false d l = l.take (partN d l) ∧ half true d l = l.drop (partN d l)
  | [], _ => ⟨rfl, rfl⟩
  | x :: l, h => by
    obtain ⟨h1, h2⟩ := List.pairwise_cons.1 h
    obtain ⟨e1, e2⟩ := Rise.part hd h2
    cases hb : bitN x.1 d
    · have e : partN d (x :: l) = partN d l + 1 := by simp [partN, List.takeWhile_cons, hb]
      rw [e]
      refine ⟨?_, ?_⟩
      · rw [List.take_succ_cons, ← e1]; simp [half, List.filter_cons, hb]
      · rw [List.drop_succ_cons, ← e2]; simp [half, List.filter_cons, hb]
    · have e : partN d (x :: l) = 0 := by simp [partN, List.takeWhile_cons, hb]
      have hall : ∀ y ∈ l, bitN y.1 d = true := fun y hy => by
        obtain ⟨ha, c, hc, g1, g2, g3⟩ := h1 y hy
        rcases Nat.lt_trichotomy c d with hl | rfl | hg
        · have := ha c hl; rw [g2, g3] at this; cases this
        · rw [hb] at g2; cases g2
        · rw [← g1 d hg]; exact hb
      rw [e]
      refine ⟨?_, ?_⟩
      · rw [List.take_zero]
        simp only [half, List.filter_cons, hb]
        simp only [Bool.true_beq, Bool.false_eq_true, if_false]
        refine List.filter_eq_nil_iff.2 fun y hy => ?_
        simp [hall y hy]
      · rw [List.drop_zero]
        refine List.filter_eq_self.2 fun y hy => ?_
        rcases List.mem_cons.1 hy with rfl | hy
        · simp [hb]
        · simp [hall y hy]
theorem partN_le (d : Nat) (l : List En) : partN d l ≤ l.length := by
  unfold partN
  exact (List.takeWhile_sublist _).length_le
theorem Rise.chain {d : Nat} : ∀ {l : List En}, (∀ k (h : k + 1 < l.length), agree d (l[k]'(by omega)).1 l[k + 1].1 ∧ ltB (l[k]'(by omega)).1 l[k + 1].1) → Rise d l
  | [], _ => List.Pairwise.nil
  | [_], _ => by unfold Rise; simp
  | x :: y :: l, h => by
    have ih := Rise.chain (l := y :: l) fun k hk => h (k + 1) (by simpa using hk)
    have h0 := h 0 (by simp)
    refine List.pairwise_cons.2 ⟨fun z hz => ?_, ih⟩
    rcases List.mem_cons.1 hz with rfl | hz
    · exact h0
    · have := (List.pairwise_cons.1 ih).1 z hz
      exact ⟨h0.1.trans this.1, h0.2.trans this.2⟩
theorem half_mem {b : Bool} {d : Nat} {l : List En} {x : En} (h : x ∈ half b d l) : x ∈ l := (List.mem_filter.1 h).1
end Go.Proofs.YtgffimanhmpohaaGreat
/- Roots of entries that rise: the program's. -/
namespace Go.Proofs.YtgffimanhmpohaaGreat
open Go Go.RowKit
def partK (d : Nat) (ks : List (List UInt8)) : Nat := (ks.takeWhile fun x => !bitN x d).length
theorem partK_of (d : Nat) : ∀ (ks : List (List UInt8)) (k : Nat), k ≤ ks.length → (∀ j (h : j < ks.length), j < k → bitN ks[j] d = false) → (∀ h : k < ks.length, bitN ks[k] d = true) → partK d ks = k
  | [], k, hk, _, _ => by simp at hk; subst hk; rfl
  | x :: ks, 0, _, _, h2 => by
    have := h2 (by simp)
    simp only [List.getElem_cons_zero] at this
    simp [partK, List.takeWhile_cons, this]
  | x :: ks, k + 1, hk, h1, h2 => by
    have h0 := h1 0 (by simp) (by omega)
    simp only [List.getElem_cons_zero] at h0
    have ih := partK_of d ks k (by simpa using hk) (fun j h hj => by have := h1 (j + 1) (by simpa using h) (by omega); rwa [List.getElem_cons_succ] at this) (fun h => by have := h2 (by simpa using h); rwa [List.getElem_cons_succ] at this)
    unfold partK at ih ⊢
    simp [List.takeWhile_cons, h0, ih]
theorem partN_K (d : Nat) (l : List En) : partK d (l.map Prod.fst) = partN d l := by
  unfold partK partN
  induction l with
  | nil => rfl
  | cons x l ih => simp only [List.map_cons, List.takeWhile_cons]; cases bitN x.1 d <;> simp [ih]
theorem pbit_zero (p : List UInt8) (d : Nat) (hd : d < 256) : decide (pbit p (d : Int) = 0) = !bitN p d := by
  rw [pbit, if_pos (by omega), Int.toNat_natCast]
  cases bitN p d <;> rfl
def Wd (l : List En) : Prop := ∀ x ∈ l, x.1.length = 32 ∧ x.2.length = 32
theorem Wd.half {l : List En} (h : Wd l) (b : Bool) (d : Nat) : Wd (half b d l) := fun x hx => h x (half_mem hx)
end Go.Proofs.YtgffimanhmpohaaGreat
/- The root of entries that rise: node.parted, node.root. -/
namespace Go.Proofs.YtgffimanhmpohaaGreat
open Go Go.RowKit
def dgs (l : List Pr) : List En := l.map fun p => (p.1, valH p.2)
def V0 (l : List Pr) : Prop := ∀ x ∈ l, x.2.length ≤ 34359730000
theorem dgs_len (l : List Pr) : (dgs l).length = l.length := by simp [dgs]
theorem dgs_keys (l : List Pr) : (dgs l).map Prod.fst = keysP l := by simp [dgs, keysP]
theorem dgs_take (l : List Pr) (n : Nat) : (dgs l).take n = dgs (l.take n) := by simp [dgs, List.map_take]
theorem dgs_drop (l : List Pr) (n : Nat) : (dgs l).drop n = dgs (l.drop n) := by simp [dgs, List.map_drop]
theorem prs_take (l : List Pr) (n : Nat) : (l.map prA).take n = (l.take n).map prA := by simp [List.map_take]
theorem prs_drop (l : List Pr) (n : Nat) : (l.map prA).drop n = (l.drop n).map prA := by simp [List.map_drop]
set_option maxRecDepth 20000 in
theorem npart_v (l : List Pr) (hw : K32 l) (d : Nat) (hd : d < 256) (hl : l.length ≤ 34359730000) : VC Tryz.prog 45 [.sl prT (l.map prA) none, .v (.int .i64 (d : Int))] [] (.v (.int .i64 (partN d (dgs l) : Int))) := by
  have hxl : (l.map prA).length = l.length := List.length_map ..
  have hkl : (keysP l).length = l.length := by simp [keysP]
  rw [← partN_K, dgs_keys]
  refine mE Tryz.func45 ?_; intro N w0 a w hN hR H
  have hX := @hxl
  refine mW ?_; clear H; intro a w H
  refine v_loop (fun k : Nat => ⟨[(5, none, .v (.int .i64 (k : Int))), (4, none, .v (.int .i64 0)), (0, none, .sl prT (l.map prA) none), (1, none, .v (.int .i64 (d : Int)))], [], [], []⟩) (fun k => k ≤ l.length ∧ ∀ j (h : j < (keysP l).length), j < k → bitN (keysP l)[j] d = false) (fun k => l.length - k) 0 ⟨Nat.zero_le _, fun j h hj => by omega⟩ (H.to 0 0 ⟨hN, hR⟩ ⟨rfl, rfl, rfl, rfl, trivial⟩ rfl rfl rfl rfl rfl) ?_
  clear H
  rintro k a w ⟨hk, hall⟩ H
  by_cases hlt : k < l.length
  · have g1 := prA_get l k hlt
    have l1 := hw _ (List.getElem_mem hlt)
    have hb1 := bit_v l[k].1 l1 (d : Int)
    have hkk : (keysP l)[k]'(by omega) = l[k].1 := by simp [keysP]
    generalize l[k] = p at *
    obtain ⟨kb, vb⟩ := p
    dsimp only at g1 l1 hb1 hkk
    refine mS ?_
    clear hX; have hX := And.intro @hxl (@g1)
    have hY := @l1
    (try refine wp_region_lit ?_); refine mN 8 hN H ?_; clear H; intro a w H
    refine mW ?_; clear H; intro a w H
    refine mCallG [] [] (hb1) H ?_; clear H; intro a w H; try refine wpList_nil ?_
    refine mW ?_; clear H; intro a w H
    simp only [pbit_zero _ _ hd] at H
    refine mC H (fun hb => ?_) (fun hb => ?_)
    · have hbf : bitN kb d = false := by
        cases h : bitN kb d
        · rfl
        · rw [h] at hb; simp at hb
      refine mW ?_; clear H; intro a w H
      exact ⟨k + 1, ⟨hlt, fun j h hj => by
        by_cases h1 : j < k
        · exact hall j h h1
        · obtain rfl : j = k := by omega
          rw [hkk]; exact hbf⟩, by omega, H.to 0 0 ⟨hN, hR⟩ ⟨rfl, rfl, rfl, rfl, trivial⟩ rfl rfl rfl rfl rfl⟩
    · have hbt : bitN kb d = true := by
        cases h : bitN kb d
        · rw [h] at hb; simp [hlt] at hb
        · rfl
      have e := partK_of d (keysP l) k (by omega) hall fun _ => by rw [hkk]; exact hbt
      rw [e]
      refine mW ?_; clear H; intro a w H
      refine wp_ret ?_; exact mEnd [] [] [.tmp 4] [_] hN hR H
  · have hge : k = l.length := by omega
    subst hge
    have e := partK_of d (keysP l) l.length (by omega) hall fun h => absurd h (by omega)
    rw [e]
    refine mS ?_
    (try refine wp_region_lit ?_); refine mN 5 hN H ?_; clear H; intro a w H
    have hdd : (decide ((l.length : Int) < (l.length : Int))) = false := by simp
    simp only [hdd] at H
    refine mSk (.v (.bool false)) H ?_; clear H; intro a w H
    refine mSk (.v (.bool false)) H ?_; clear H; intro a w H
    refine mSk (.v (.bool false)) H ?_; clear H; intro a w H
    refine mSk (.v (.bool false)) H ?_; clear H; intro a w H
    refine mSk (.v (.bool false)) H ?_; clear H; intro a w H
    refine mSk (.v (.bool false)) H ?_; clear H; intro a w H
    refine mSk (.v (.bool false)) H ?_; clear H; intro a w H
    refine mSk (.v (.bool false)) H ?_; clear H; intro a w H
    refine mW ?_; clear H; intro a w H
    refine mC H (fun hb => ?_) (fun hb => ?_)
    · simp at hb
    · refine mW ?_; clear H; intro a w H
      refine wp_ret ?_; exact mEnd [] [] [.tmp 4] [_] hN hR H
set_option maxRecDepth 20000 in
theorem nroot_small (f d : Nat) (l : List Pr) (hs : l.length < 2) (hw : K32 l) (hv : V0 l) : VC Tryz.prog 46 [.sl prT (l.map prA) none, .v (.int .i64 (d : Int))] [] (.ba (rootA f d (dgs l))) := by
  rw [rootA_small f d _ (by rw [dgs_len]; exact hs)]
  match l, hs with
  | [], _ =>
    have hsl := sum_length [0]
    refine mE Tryz.func46 ?_; intro N w0 a w hN hR H
    simp only [List.map_nil] at H
    refine mW ?_; clear H; intro a w H
    refine mC H (fun hb => ?_) (fun hb => ?_)
    · refine mW ?_; clear H; intro a w H
      refine mCall [] [] (empty_v) H ?_; clear H; intro a w H; try refine wpList_nil ?_
      refine mW ?_; clear H; intro a w H
      refine wp_ret ?_; exact mEnd [] [] [.cell 4 33] [_] hN hR H
    · simp at hb
  | [x], _ =>
    have h1 := hw x List.mem_cons_self
    have h2 := value_v x.2 (hv x List.mem_cons_self)
    have h3 := valH_len x.2
    have hlf := leaf_v x.1 (valH x.2) h1 h3
    have hsl := leafH_len x.1 (valH x.2)
    obtain ⟨kb, vb⟩ := x
    dsimp only at h1 h2 h3 hlf hsl
    refine mE Tryz.func46 ?_; intro N w0 a w hN hR H
    simp only [List.map_cons, List.map_nil, prA] at H
    refine mW ?_; clear H; intro a w H
    refine mC H (fun hb => ?_) (fun hb => ?_)
    · simp at hb
    · refine mW ?_; clear H; intro a w H
      refine mC H (fun hb => ?_) (fun hb => ?_)
      · refine mW ?_; clear H; intro a w H
        refine mS ?_; refine mD 0 [8, 9, 10] [0, 1, 2, 3] H ?_; clear H; intro gS H; refine mT ?_; clear H; intro a w H
        refine mCallT [] [] (h2) H ?_; clear H; intro a w H
        refine mT ?_; clear H; intro a w H
        refine mCallT [] [] (hlf) H ?_; clear H; intro a w H
        refine mT ?_; clear H; intro a w H
        refine v_drawNil H ?_; clear H; intro H
        refine wp_ret ?_; exact mEnd [] [] [.cell 4 33] [_] hN hR H
      · simp at hb
theorem V0.take {l : List Pr} (h : V0 l) (n : Nat) : V0 (l.take n) := fun x hx => h x (List.mem_of_mem_take hx)
theorem V0.drop {l : List Pr} (h : V0 l) (n : Nat) : V0 (l.drop n) := fun x hx => h x (List.mem_of_mem_drop hx)
theorem K32.take {l : List Pr} (h : K32 l) (n : Nat) : K32 (l.take n) := fun x hx => h x (List.mem_of_mem_take hx)
theorem K32.drop {l : List Pr} (h : K32 l) (n : Nat) : K32 (l.drop n) := fun x hx => h x (List.mem_of_mem_drop hx)
set_option maxRecDepth 20000 in
theorem nroot_v : ∀ (f d : Nat) (l : List Pr), f + d = 256 → Rise d (dgs l) → K32 l → V0 l → l.length ≤ 34359730000 →
    VC Tryz.prog 46 [.sl prT (l.map prA) none, .v (.int .i64 (d : Int))] [] (.ba (rootA f d (dgs l))) := by
  intro f
  induction f with
  | zero =>
    intro d l hd hr hw hv hl
    exact nroot_small 0 d l (by have := hr.sep.deep (by omega); rwa [dgs_len] at this) hw hv
  | succ f ih =>
    intro d l hd hr hw hv hl
    by_cases hs : l.length < 2
    · exact nroot_small _ d l hs hw hv
    · rw [rootA, if_neg (by rw [dgs_len]; exact hs)]
      have hxl : (l.map prA).length = l.length := List.length_map ..
      obtain ⟨e1, e2⟩ := hr.part (by omega)
      have hn := partN_le d (dgs l)
      rw [dgs_len] at hn
      have hp := npart_v l hw d (by omega) hl
      have s1 := hr.side false
      have s2 := hr.side true
      rw [e1, dgs_take] at s1
      rw [e2, dgs_drop] at s2
      rw [e1, e2, dgs_take, dgs_drop]
      have c1 := ih (d + 1) (l.take (partN d (dgs l))) (by omega) s1 (hw.take _) (hv.take _) (by rw [List.length_take]; omega)
      have c2 := ih (d + 1) (l.drop (partN d (dgs l))) (by omega) s2 (hw.drop _) (hv.drop _) (by rw [List.length_drop]; omega)
      have r1 := rootA_len f (d + 1) (dgs (l.take (partN d (dgs l))))
      have r2 := rootA_len f (d + 1) (dgs (l.drop (partN d (dgs l))))
      generalize rootA f (d + 1) (dgs (l.take (partN d (dgs l)))) = a1 at *
      generalize rootA f (d + 1) (dgs (l.drop (partN d (dgs l)))) = a2 at *
      generalize partN d (dgs l) = n at *
      have hin := inner_v a1 a2 r1 r2
      have hsl := innerH_len a1 a2
      clear ih e1 e2 s1 s2
      refine mE Tryz.func46 ?_; intro N w0 a w hN hR H
      have hX := @hxl
      refine mW ?_; clear H; intro a w H
      refine mC H (fun hb => ?_) (fun hb => ?_)
      · exfalso; rw [decide_eq_true_eq] at hb; omega
      · refine mW ?_; clear H; intro a w H
        refine mC H (fun hb => ?_) (fun hb => ?_)
        · exfalso; rw [decide_eq_true_eq] at hb; omega
        · refine mW ?_; clear H; intro a w H
          refine mCall [] [] (hp) H ?_; clear H; intro a w H; try refine wpList_nil ?_
          refine mW ?_; clear H; intro a w H
          clear hX; have hX := And.intro @hxl (And.intro @prs_take (@prs_drop))
          refine mS ?_; refine mD 0 [5, 11, 12, 13] [6, 7, 8, 9, 10] H ?_; clear H; intro gS H; refine mT ?_; clear H; intro a w H
          refine mCallT [] [] (c1) H ?_; clear H; intro a w H
          refine mT ?_; clear H; intro a w H
          refine mCallT [] [] (c2) H ?_; clear H; intro a w H
          refine mT ?_; clear H; intro a w H
          refine mCallT [] [] (hin) H ?_; clear H; intro a w H
          refine mT ?_; clear H; intro a w H
          refine v_drawNil H ?_; clear H; intro H
          clear hX
          refine wp_ret ?_; exact mEnd [] [] [.cell 4 33] [_] hN hR H
end Go.Proofs.YtgffimanhmpohaaGreat
/- node.RootAt, node.Root: any entries. -/
namespace Go.Proofs.YtgffimanhmpohaaGreat
open Go Go.RowKit
def endsP (l : List Pr) : Nat := com (l.getD 0 ([], [])).1 (l.getD (l.length - 1) ([], [])).1
def rootE (l : List Pr) (d : Int) : List UInt8 × Nat :=
  if d < 0 ∨ 256 < d then (z32, 2) else if errP l ≠ 0 then (z32, errP l) else if 1 < l.length ∧ (endsP (srt l) : Int) < d then (z32, 2) else (rootA (256 - d.toNat) d.toNat (dgs (srt l)), 0)
theorem ends_rise {d : Nat} (l : List Pr) (hk : K32 l) (hr : Ris l) (hd : d ≤ 256) (h : l.length < 2 ∨ d ≤ endsP l) : Rise d (dgs l) := by
  unfold Rise dgs
  rw [List.pairwise_map]
  rw [List.pairwise_iff_getElem]
  intro i j hi hj hij
  have hlt := List.pairwise_iff_getElem.1 hr i j hi hj hij
  refine ⟨?_, hlt⟩
  rcases h with h | h
  · omega
  · have h0 : l.getD 0 ([], []) = l[0]'(by omega) := by simp [List.getD_eq_getElem?_getD, show 0 < l.length by omega]
    have h1 : l.getD (l.length - 1) ([], []) = l[l.length - 1]'(by omega) := by simp [List.getD_eq_getElem?_getD, show l.length - 1 < l.length by omega]
    unfold endsP at h
    rw [h0, h1] at h
    have ha := (com_ge hd).1 h
    have le : ∀ (a b : Nat) (ha : a < l.length) (hb : b < l.length), a ≤ b → l[a].1 = l[b].1 ∨ ltB l[a].1 l[b].1 := fun a b ha hb hab => by
      by_cases e : a = b
      · subst e; exact .inl rfl
      · exact .inr (List.pairwise_iff_getElem.1 hr a b ha hb (by omega))
    have mid : ∀ p q r : List UInt8, (p = q ∨ ltB p q) → (q = r ∨ ltB q r) → agree d p r → agree d p q := fun p q r h1 h2 ha => by
      rcases h1 with rfl | ⟨c, hc, g1, g2, g3⟩
      · exact agree_refl _ _
      · rcases h2 with rfl | ⟨e, he, k1, k2, k3⟩
        · exact ha
        · intro t ht
          by_cases htc : t < c
          · exact g1 t htc
          · exfalso
            rcases Nat.lt_trichotomy c e with hl | rfl | hg
            · have := ha c (by omega); rw [g2, ← k1 c hl, g3] at this; cases this
            · rw [g3] at k2; cases k2
            · have := ha e (by omega); rw [k3, g1 e hg, k2] at this; cases this
    have a1 := mid _ _ _ (le 0 i (by omega) hi (Nat.zero_le _)) (le i (l.length - 1) hi (by omega) (by omega)) ha
    have a2 := mid _ _ _ (le 0 j (by omega) hj (Nat.zero_le _)) (le j (l.length - 1) hj (by omega) (by omega)) ha
    exact a1.symm.trans a2
theorem chkP_vals : ∀ (ks : List (List UInt8)) (l : List Pr), chkP ks l = 0 → ∀ x ∈ l, x.2.length ≤ 1024
  | _, [], _, x, hx => by cases hx
  | ks, p :: l, h, x, hx => by
    unfold chkP at h
    split at h
    · cases h
    · split at h
      · cases h
      · rcases List.mem_cons.1 hx with rfl | hx
        · omega
        · exact chkP_vals _ l h x hx
theorem errP_ok {l : List Pr} (h : errP l = 0) : l.length ≤ 4096 ∧ Dis l ∧ ∀ x ∈ l, x.2.length ≤ 1024 := by
  unfold errP at h
  split at h
  · cases h
  · exact ⟨by omega, (chkP_dis _ _ h).1, chkP_vals _ _ h⟩
set_option maxRecDepth 20000 in
set_option maxHeartbeats 1000000 in
theorem nrootAt_v (l : List Pr) (hk : K32 l) (hl : l.length ≤ 34359730000) (d : Int) : VC Tryz.prog 50 [.sl prT (l.map prA) none, .v (.int .i64 d)] [] (.tup [.ba (rootE l d).1, .v (.int .i64 ((rootE l d).2 : Int))]) := by
  have hs := sorted_v l hk (by omega)
  by_cases he : errP l = 0
  · obtain ⟨hle, hdis, hvals⟩ := errP_ok he
    have hr : resP l = .tup [.sl prT ((srt l).map prA) none, .v (.int .i64 0)] := by unfold resP; rw [if_pos he]
    rw [hr] at hs
    have hsl : (srt l).length = l.length := (srt_perm l).length_eq
    have hsk : K32 (srt l) := hk.perm (srt_perm l)
    have hsr := srt_ris l hk hdis
    have hsv : V0 (srt l) := fun x hx => Nat.le_trans (hvals x ((srt_perm l).mem_iff.1 hx)) (by decide)
    have hro : rootE l d = if d < 0 ∨ 256 < d then (z32, 2) else if 1 < l.length ∧ (endsP (srt l) : Int) < d then (z32, 2) else (rootA (256 - d.toNat) d.toNat (dgs (srt l)), 0) := by
      unfold rootE; rw [if_neg (show ¬ errP l ≠ 0 by omega)]
    rw [hro]
    generalize srt l = m at *
    have hml : (m.map prA).length = l.length := by rw [List.length_map, hsl]
    refine mE Tryz.func50 ?_; intro N w0 a w hN hR H
    refine mW ?_; clear H; intro a w H
    refine mC H (fun hb => ?_) (fun hb => ?_)
    · have hd : d < 0 ∨ 256 < d := by
        by_cases h0 : d < 0
        · exact .inl h0
        · right; simpa [h0] using hb
      rw [if_pos hd]
      refine mW ?_; clear H; intro a w H
      refine wp_ret ?_; exact mEnd [] [] [.cell 4 33, .tmp 5] [_, _] hN hR H
    · have hd : ¬ (d < 0 ∨ 256 < d) := by
        rintro (h | h)
        · simp [h] at hb
        · by_cases h0 : d < 0
          · simp [h0] at hb
          · simp [h0] at hb; omega
      rw [if_neg hd]
      clear hb
      obtain ⟨dn, rfl⟩ := Int.eq_ofNat_of_zero_le (show 0 ≤ d by omega)
      simp only [Int.toNat_natCast]
      have hroot := fun (h : l.length < 2 ∨ dn ≤ endsP m) => nroot_v (256 - dn) dn m (by omega) (ends_rise m hsk hsr (by omega) (by rw [hsl]; exact h)) hsk hsv (by omega)
      have hrl := rootA_len (256 - dn) dn (dgs m)
      replace H := mK [0, 1, 4, 5] 1 0 hN hR H
      refine mW ?_; clear H; intro a w H
      refine mCall [] [] (hs) H ?_; clear H; intro a w H; try refine wpList_nil ?_
      refine mW ?_; clear H; intro a w H
      refine mC H (fun hb => ?_) (fun hb => ?_)
      · simp at hb
      · clear hb
        replace H := mK [1, 4, 5, 6] 1 0 hN hR H
        by_cases h1 : 1 < l.length
        · have g0 := prA_get m 0 (by omega)
          have g1 := prA_get m (l.length - 1) (by omega)
          have q0 := hsk _ (List.getElem_mem (show 0 < m.length by omega))
          have q1 := hsk _ (List.getElem_mem (show l.length - 1 < m.length by omega))
          have hen : endsP m = com m[0].1 (m[l.length - 1]'(by omega)).1 := by
            have e1 : m.getD 0 ([], []) = m[0] := by simp [List.getD_eq_getElem?_getD, show 0 < m.length by omega]
            have e2 : m.getD (l.length - 1) ([], []) = m[l.length - 1]'(by omega) := by simp [List.getD_eq_getElem?_getD, show l.length - 1 < m.length by omega]
            unfold endsP
            rw [show m.length - 1 = l.length - 1 by omega, e1, e2]
          have hcm := common_v _ _ q0 q1
          rw [← hen] at hcm
          have hti : ((l.length : Int) - 1).toNat = l.length - 1 := by omega
          have hdt : decide ((1 : Int) < (l.length : Int)) = true := by simp; omega
          generalize m[0] = p0 at *
          generalize m[l.length - 1]'(by omega) = p1 at *
          obtain ⟨k0, v0⟩ := p0
          obtain ⟨k1, v1⟩ := p1
          dsimp only at g0 g1 q0 q1 hcm
          have hX := And.intro @hml (And.intro @g0 (And.intro @g1 (And.intro @hti (@hdt))))
          refine mS ?_; refine mD 0 [15] [16] H ?_; clear H; intro gS H
          refine mTN 6 hN H ?_; clear H; intro a w H; simp only [List.drop_succ_cons, List.drop_zero, List.drop_nil]
          replace H := v_knownT H 27 true (by rfl)
          simp only [unG, gdEq, Nat.reduceBEq, cond_true, cond_false] at H
          replace H := ntf H
          refine mTN 7 hN H ?_; clear H; intro a w H; simp only [List.drop_succ_cons, List.drop_zero, List.drop_nil]
          refine mTN 2 hN H ?_; clear H; intro a w H; simp only [List.drop_succ_cons, List.drop_zero, List.drop_nil]
          replace H := v_knownT H 27 true (by rfl)
          simp only [unG, gdEq, Nat.reduceBEq, cond_true, cond_false] at H
          replace H := ntf H
          refine v_guardT H (by rfl) (by rfl) (by rfl) ?_
          refine mCallT [] [] (hcm) H ?_; clear H; intro a w H
          refine mT ?_; clear H; intro a w H
          refine v_drawNil H ?_; clear H; intro H
          refine mC H (fun hb => ?_) (fun hb => ?_)
          · rw [if_pos ⟨h1, by simpa using hb⟩]
            refine mW ?_; clear H; intro a w H
            refine wp_ret ?_; exact mEnd [] [] [.cell 4 33, .tmp 5] [_, _] hN hR H
          · have hnb : ¬ ((endsP m : Int) < (dn : Int)) := by simpa using hb
            rw [if_neg (fun h => hnb h.2)]
            have hrt := hroot (.inr (by omega))
            clear hb hroot
            generalize rootA (256 - dn) dn (dgs m) = r at *
            clear hX; have hX := @hrl
            refine mW ?_; clear H; intro a w H
            refine mCall [] [] (hrt) H ?_; clear H; intro a w H; try refine wpList_nil ?_
            refine mW ?_; clear H; intro a w H
            refine wp_ret ?_; exact mEnd [] [] [.cell 4 33, .tmp 5] [_, _] hN hR H
        · rw [if_neg (fun h => h1 h.1)]
          have hrt := hroot (.inl (by omega))
          clear hroot
          generalize rootA (256 - dn) dn (dgs m) = r at *
          have hdt : decide ((1 : Int) < (l.length : Int)) = false := by simp; omega
          have hX := And.intro @hml (And.intro @hdt (@hrl))
          refine mS ?_; refine mD 0 [15] [16] H ?_; clear H; intro gS H
          refine mTN 4 hN H ?_; clear H; intro a w H; simp only [List.drop_succ_cons, List.drop_zero, List.drop_nil]
          refine mSkT (.v (.bool false)) H ?_; clear H; intro a w H
          refine mSkT (.v (.bool false)) H ?_; clear H; intro a w H
          refine mSkT (.v (.bool false)) H ?_; clear H; intro a w H
          refine mSkT (.v (.bool false)) H ?_; clear H; intro a w H
          refine mSkT (.v (.bool false)) H ?_; clear H; intro a w H
          refine mSkT (.v (.bool false)) H ?_; clear H; intro a w H
          refine mSkT (.v (.bool false)) H ?_; clear H; intro a w H
          refine mSkT (.v (.bool false)) H ?_; clear H; intro a w H
          refine mSkT (.v (.bool false)) H ?_; clear H; intro a w H
          refine mSkT (.v (.bool false)) H ?_; clear H; intro a w H
          refine mSkT (.v (.bool false)) H ?_; clear H; intro a w H
          refine mSkT (.v (.bool false)) H ?_; clear H; intro a w H
          refine mSkT (.v (.bool false)) H ?_; clear H; intro a w H
          refine mSkT (.v (.bool false)) H ?_; clear H; intro a w H
          refine mT ?_; clear H; intro a w H
          refine v_drawNil H ?_; clear H; intro H
          refine mC H (fun hb => ?_) (fun hb => ?_)
          · cases hb
          · refine mW ?_; clear H; intro a w H
            refine mCall [] [] (hrt) H ?_; clear H; intro a w H; try refine wpList_nil ?_
            refine mW ?_; clear H; intro a w H
            refine wp_ret ?_; exact mEnd [] [] [.cell 4 33, .tmp 5] [_, _] hN hR H
  · have hr : resP l = .tup [.sl prT [] none, .v (.int .i64 (errP l : Int))] := by unfold resP; rw [if_neg he]
    rw [hr] at hs
    have hro : rootE l d = if d < 0 ∨ 256 < d then (z32, 2) else (z32, errP l) := by unfold rootE; rw [if_pos (show errP l ≠ 0 from he)]
    rw [hro]
    generalize errP l = er at *
    refine mE Tryz.func50 ?_; intro N w0 a w hN hR H
    refine mW ?_; clear H; intro a w H
    refine mC H (fun hb => ?_) (fun hb => ?_)
    · have hd : d < 0 ∨ 256 < d := by
        by_cases h0 : d < 0
        · exact .inl h0
        · right; simpa [h0] using hb
      rw [if_pos hd]
      refine mW ?_; clear H; intro a w H
      refine wp_ret ?_; exact mEnd [] [] [.cell 4 33, .tmp 5] [_, _] hN hR H
    · have hd : ¬ (d < 0 ∨ 256 < d) := by
        rintro (h | h)
        · simp [h] at hb
        · by_cases h0 : d < 0
          · simp [h0] at hb
          · simp [h0] at hb; omega
      rw [if_neg hd]
      clear hb
      replace H := mK [0, 1, 4, 5] 1 0 hN hR H
      refine mW ?_; clear H; intro a w H
      refine mCall [] [] (hs) H ?_; clear H; intro a w H; try refine wpList_nil ?_
      refine mW ?_; clear H; intro a w H
      refine mC H (fun hb => ?_) (fun hb => ?_)
      · refine mW ?_; clear H; intro a w H
        refine wp_ret ?_; exact mEnd [] [] [.cell 4 33, .tmp 5] [_, _] hN hR H
      · simp at hb; omega
theorem nroot0_v (l : List Pr) (hk : K32 l) (hl : l.length ≤ 34359730000) : VC Tryz.prog 13 [.sl prT (l.map prA) none] [] (.tup [.ba (rootE l 0).1, .v (.int .i64 ((rootE l 0).2 : Int))]) := by
  have hs := nrootAt_v l hk hl 0
  have h32 : (rootE l 0).1.length = 32 := by
    unfold rootE; (repeat' split) <;> first | exact rootA_len _ _ _ | exact List.length_replicate ..
  generalize rootE l 0 = r at *
  refine mE Tryz.func13 ?_; intro N w0 a w hN hR H
  have hX := @h32
  refine mW ?_; clear H; intro a w H
  refine mCall [] [] (hs) H ?_; clear H; intro a w H; try refine wpList_nil ?_
  refine mW ?_; clear H; intro a w H
  refine wp_ret ?_; exact mEnd [] [] [.cell 2 33, .tmp 3] [_, _] hN hR H
end Go.Proofs.YtgffimanhmpohaaGreat
/- node.Way: the way of a key among entries. -/
namespace Go.Proofs.YtgffimanhmpohaaGreat
open Go Go.RowKit
/-- The other sides' digests on a key's way; with what it ends. -/
def wayA (key : List UInt8) : Nat → Nat → List En → List (List UInt8)
  | 0, _, _ => []
  | f + 1, d, l => if l.length < 2 then [] else rootA f (d + 1) (half (!bitN key d) d l) :: wayA key f (d + 1) (half (bitN key d) d l)
def endB (l : List En) : Nd := match l with
  | [] => Nd.zero
  | x :: _ => Nd.one x.1 x.2
def endA (key : List UInt8) : Nat → Nat → List En → Nd
  | 0, _, l => endB l
  | f + 1, d, l => if l.length < 2 then endB l else endA key f (d + 1) (half (bitN key d) d l)
theorem wayA_small (key : List UInt8) (f d : Nat) (l : List En) (h : l.length < 2) : wayA key f d l = [] := by cases f with
  | zero => rfl
  | succ f => rw [wayA, if_pos h]
theorem endA_small (key : List UInt8) (f d : Nat) (l : List En) (h : l.length < 2) : endA key f d l = endB l := by cases f with
  | zero => rfl
  | succ f => rw [endA, if_pos h]
theorem wayA_w (key : List UInt8) : ∀ f d l, ∀ x ∈ wayA key f d l, x.length = 32
  | 0, _, _, x, hx => by cases hx
  | f + 1, d, l, x, hx => by
    unfold wayA at hx
    split at hx
    · cases hx
    · rcases List.mem_cons.1 hx with rfl | hx
      · exact rootA_len _ _ _
      · exact wayA_w key f _ _ x hx
theorem wayA_le (key : List UInt8) : ∀ f d l, (wayA key f d l).length ≤ f
  | 0, _, _ => Nat.le_refl _
  | f + 1, d, l => by
    unfold wayA
    split
    · exact Nat.zero_le _
    · have := wayA_le key f (d + 1) (half (bitN key d) d l); simp only [List.length_cons]; omega
theorem Nd.one_wf {a b : List UInt8} (ha : a.length = 32) (hb : b.length = 32) : (Nd.one a b).wf := ⟨ha, hb, z32_len, z32_len⟩
/-- The state of the walk down: what is done, what is to do. -/
structure Wy (key : List UInt8) (W : List (List UInt8)) (E : Nd) (i : Nat × List Pr × List (List UInt8)) : Prop where
  d : i.1 ≤ 256
  w : i.2.2 ++ wayA key (256 - i.1) i.1 (dgs i.2.1) = W
  e : endA key (256 - i.1) i.1 (dgs i.2.1) = E
  r : Rise i.1 (dgs i.2.1)
  k : K32 i.2.1
  v : V0 i.2.1
  n : i.2.1.length ≤ 34359730000
  s : i.2.2.length = i.1
theorem bas_snoc (s : List (List UInt8)) (x : List UInt8) : bas (s ++ [x]) = bas s ++ [.ba x] := by simp [bas]
theorem Wy.go {key : List UInt8} {W : List (List UInt8)} {E : Nd} {d : Nat} {s : List Pr} {ss : List (List UInt8)} (h : Wy key W E (d, s, ss)) (h2 : 1 < s.length) :
    d < 256 ∧ ∀ o q : List Pr, (o, q) = (if bitN key d then (s.drop (partN d (dgs s)), s.take (partN d (dgs s))) else (s.take (partN d (dgs s)), s.drop (partN d (dgs s)))) →
      Wy key W E (d + 1, o, ss ++ [rootA (255 - d) (d + 1) (dgs q)]) ∧ Rise (d + 1) (dgs q) ∧ K32 q ∧ V0 q ∧ q.length ≤ 34359730000 := by
  have hl : ¬ (dgs s).length < 2 := by rw [dgs_len]; omega
  have hd : d < 256 := by
    by_cases hd : d < 256
    · exact hd
    · exact absurd (h.r.sep.deep (by show 256 ≤ d; omega)) (by rw [dgs_len]; show ¬ s.length < 2; omega)
  refine ⟨hd, fun o q hoq => ?_⟩
  obtain ⟨e1, e2⟩ := Rise.part hd h.r
  have f1 : 256 - d = (255 - d) + 1 := by omega
  have hw := h.w
  have he := h.e
  have hn := h.n
  have hs := h.s
  dsimp only at hw he e1 e2 hn hs
  rw [f1, wayA, if_neg hl] at hw
  rw [f1, endA, if_neg hl] at he
  have f2 : 256 - (d + 1) = 255 - d := by omega
  cases hb : bitN key d with
  | true =>
    rw [hb, if_pos rfl] at hoq
    obtain ⟨rfl, rfl⟩ := Prod.mk.inj hoq
    rw [hb] at hw he
    rw [e2, dgs_drop] at hw he
    rw [Bool.not_true, e1, dgs_take] at hw
    have r1 := h.r.side false
    have r2 := h.r.side true
    dsimp only at r1 r2
    rw [e1, dgs_take] at r1
    rw [e2, dgs_drop] at r2
    refine ⟨⟨by show d + 1 ≤ 256; omega, ?_, ?_, r2, h.k.drop _, h.v.drop _, by dsimp only; rw [List.length_drop]; omega, by dsimp only; rw [List.length_append, hs]; rfl⟩, r1, h.k.take _, h.v.take _, by rw [List.length_take]; omega⟩
    · dsimp only; rw [f2, List.append_assoc]; exact hw
    · dsimp only; rw [f2]; exact he
  | false =>
    rw [hb, if_neg (by decide)] at hoq
    obtain ⟨rfl, rfl⟩ := Prod.mk.inj hoq
    rw [hb] at hw he
    rw [e1, dgs_take] at hw he
    rw [Bool.not_false, e2, dgs_drop] at hw
    have r1 := h.r.side false
    have r2 := h.r.side true
    dsimp only at r1 r2
    rw [e1, dgs_take] at r1
    rw [e2, dgs_drop] at r2
    refine ⟨⟨by show d + 1 ≤ 256; omega, ?_, ?_, r1, h.k.take _, h.v.take _, by dsimp only; rw [List.length_take]; omega, by dsimp only; rw [List.length_append, hs]; rfl⟩, r2, h.k.drop _, h.v.drop _, by rw [List.length_drop]; omega⟩
    · dsimp only; rw [f2, List.append_assoc]; exact hw
    · dsimp only; rw [f2]; exact he
/-- The way of a key among entries. -/
def wayE (l : List Pr) (key : List UInt8) : Pf := ⟨wayA key 256 0 (dgs (srt l)), endA key 256 0 (dgs (srt l))⟩
theorem cutH {B R : Act → World → Prop} {G : Prop} (h : (∀ a w, R a w → B a w) → G) (k : ∀ a w, R a w → B a w) : G := h k
set_option maxRecDepth 20000 in
set_option maxHeartbeats 2000000 in
theorem nway_v (l : List Pr) (hk : K32 l) (hl : l.length ≤ 34359730000) (key : List UInt8) (hk32 : key.length = 32) (he : errP l = 0) :
    VC Tryz.prog 11 [.sl prT (l.map prA) none, .ba key] [(33, (wayE l key).s.length)] (.tup [.st [.sl (.ba 32) (bas (wayE l key).s) (some 0), (wayE l key).e.av], errv 0]) := by
  have hs := sorted_v l hk (by omega)
  obtain ⟨hle, hdis, hvals⟩ := errP_ok he
  have hr : resP l = .tup [.sl prT ((srt l).map prA) none, .v (.int .i64 0)] := by unfold resP; rw [if_pos he]
  rw [hr] at hs
  have hsl : (srt l).length = l.length := (srt_perm l).length_eq
  have hsk : K32 (srt l) := hk.perm (srt_perm l)
  have hsr := srt_ris l hk hdis
  have hsv : V0 (srt l) := fun x hx => Nat.le_trans (hvals x ((srt_perm l).mem_iff.1 hx)) (by decide)
  have hrise := ends_rise (d := 0) (srt l) hsk hsr (by omega) (.inr (by omega))
  unfold wayE
  generalize srt l = m at *
  have hm0 : Wy key (wayA key 256 0 (dgs m)) (endA key 256 0 (dgs m)) (0, m, []) := ⟨Nat.zero_le _, rfl, rfl, hrise, hsk, hsv, by dsimp only; omega, rfl⟩
  have hWle := wayA_le key 256 0 (dgs m)
  generalize wayA key 256 0 (dgs m) = W at *
  generalize endA key 256 0 (dgs m) = E at *
  dsimp only
  have hWl := bas_len W
  have hz2 := z32_len
  refine mE Tryz.func11 ?_; intro N w0 a w hN hR H
  refine mW ?_; clear H; intro a w H
  refine mCall [] [] (hs) H ?_; clear H; intro a w H; try refine wpList_nil ?_
  refine mW ?_; clear H; intro a w H
  refine mC H (fun hb => ?_) (fun hb => ?_)
  · simp at hb
  · clear hb
    refine mW ?_; clear H; intro a w H
    have H := v_nilX tab_ok H 2 0 33 (j := ti33) (.ba 32) rfl (by decide) rfl rfl
    simp only [List.set_cons_succ, List.set_cons_zero, List.length_cons, List.length_nil, Nat.reduceAdd, List.cons_append, List.nil_append, hz] at H
    refine v_loop (fun i : Nat × List Pr × List (List UInt8) => ⟨[(9, none, .v (.int .i64 (i.1 : Int))), (8, none, .ptr 2 []), (6, none, .sl prT (i.2.1.map prA) none), (5, none, .v (.int .i64 0)), (4, none, .ptr 1 []), (3, none, .ptr 0 [])],
      [(.ba 32, .ba key), (ti40.ty, .st [.v (.slice none 0 0), .st [.v (.int .u8 0), .ba z32, .ba z32, .ba z32, .ba z32]]), (ti40.ty, .st [.sl (.ba 32) (bas i.2.2) (some 0), .st [.v (.int .u8 0), .ba z32, .ba z32, .ba z32, .ba z32]])], [], [(33, i.2.2.length)]⟩)
      (Wy key W E) (fun i => 256 - i.1) (0, m, []) hm0 (H.to 3 1 ⟨Nat.le_trans hN (by decide), Nat.le_trans hR (by decide)⟩ ⟨rfl, rfl, rfl, rfl, rfl, rfl, trivial⟩ rfl rfl rfl rfl rfl) ?_
    clear H hm0
    rintro ⟨d, s, ss⟩ a w hwy H
    dsimp only at H
    have hml : (s.map prA).length = s.length := List.length_map ..
    have hssl := bas_len ss
    have hn := hwy.n
    have hssd := hwy.s
    dsimp only at hn hssd
    have hX := And.intro @hml (@hssl)
    refine mW ?_; clear H; intro a w H
    refine mC H (fun hb => ?_) (fun hb => ?_)
    · have h2 : 1 < s.length := by rw [decide_eq_true_eq] at hb; omega
      clear hb
      obtain ⟨hd, hgo⟩ := hwy.go h2
      have hp := npart_v s hwy.k d hd hn
      have hbit := bit_v key hk32 (d : Int)
      have hpn := partN_le d (dgs s)
      rw [dgs_len] at hpn
      have hpb : decide (pbit key (d : Int) = 1) = bitN key d := by
        rw [pbit, if_pos (by omega), Int.toNat_natCast]; cases bitN key d <;> rfl
      refine mW ?_; clear H; intro a w H
      refine mCall [] [] (hp) H ?_; clear H; intro a w H; try refine wpList_nil ?_
      clear hX; have hX := And.intro @hml (And.intro @hssl (And.intro @prs_take (@prs_drop)))
      refine mW ?_; clear H; intro a w H
      refine mS ?_; refine mD 0 [] [] H ?_; clear H; intro gS H; refine mT ?_; clear H; intro a w H
      refine v_drawNil H ?_; clear H; intro H
      refine mW ?_; clear H; intro a w H
      refine mCall [] [] (hbit) H ?_; clear H; intro a w H; try refine wpList_nil ?_
      refine mW ?_; clear H; intro a w H
      simp only [hpb] at H
      obtain ⟨o, q, hoq⟩ : ∃ o q : List Pr, (o, q) = (if bitN key d then (s.drop (partN d (dgs s)), s.take (partN d (dgs s))) else (s.take (partN d (dgs s)), s.drop (partN d (dgs s)))) := ⟨_, _, rfl⟩
      obtain ⟨hnext, hq1, hq2, hq3, hq4⟩ := hgo o q hoq
      have hrt := nroot_v (255 - d) (d + 1) q (by omega) hq1 hq2 hq3 hq4
      have hrl := rootA_len (255 - d) (d + 1) (dgs q)
      revert a w
      apply cutH (R := fun a w => Rel Tryz.prog w0 N Tryz.f11.ntmps ⟨[(12, none, .sl prT (q.map prA) none), (11, none, .sl prT (o.map prA) none), (9, none, .v (.int .i64 (d : Int))), (8, none, .ptr 2 []), (5, none, .v (.int .i64 0)), (4, none, .ptr 1 []), (3, none, .ptr 0 [])],
        [(.ba 32, .ba key), (ti40.ty, .st [.v (.slice none 0 0), .st [.v (.int .u8 0), .ba z32, .ba z32, .ba z32, .ba z32]]), (ti40.ty, .st [.sl (.ba 32) (bas ss) (some 0), .st [.v (.int .u8 0), .ba z32, .ba z32, .ba z32, .ba z32]])], [], [(33, ss.length)]⟩ a w)
      · intro key1 a w H
        refine mC H (fun hb => ?_) (fun hb => ?_)
        · rw [hb, if_pos rfl] at hoq
          obtain ⟨rfl, rfl⟩ := Prod.mk.inj hoq
          refine mW ?_; clear H; intro a w H
          exact key1 _ _ (H.to 3 1 ⟨Nat.le_trans hN (by decide), Nat.le_trans hR (by decide)⟩ ⟨rfl, rfl, rfl, rfl, rfl, rfl, rfl, trivial⟩ rfl rfl rfl rfl rfl)
        · rw [hb, if_neg (by decide)] at hoq
          obtain ⟨rfl, rfl⟩ := Prod.mk.inj hoq
          refine mS ?_
          exact key1 _ _ (H.to 3 1 ⟨Nat.le_trans hN (by decide), Nat.le_trans hR (by decide)⟩ ⟨rfl, rfl, rfl, rfl, rfl, rfl, rfl, trivial⟩ rfl rfl rfl rfl rfl)
      intro a w H
      generalize rootA (255 - d) (d + 1) (dgs q) = x at *
      clear hX; have hX := @hssl
      repeat (first | refine wp_seq ?_ | refine wp_block ?_)
      refine v_drawZ 0 [2, 3, 4, 0, 1, 5, 6, 7, 8, 9] [0, 1, 5, 6, 7, 9] [2, 3, 4] [(0, 5), (0, 6), (1, 5), (1, 6), (1006, 5)] (by kernel_rfl) (by kernel_rfl) (by kernel_rfl) (by kernel_rfl) (by kernel_rfl) H (by rfl) ?_; clear H; intro gS H; try replace H := ntf H
      refine wpZ_run 3 (i := 2) (n' := 7) (pend' := [0, 1, 5, 6, 7, 8, 9]) (by rfl) (by rfl) (by rfl) (by rfl) (by rfl) ?_
      repeat ((first | refine v_someT 3 tab_ok hN H (by rfl) ctX ?_ | refine v_someT 2 tab_ok hN H (by rfl) ctX ?_ | refine v_someT 1 tab_ok hN H (by rfl) ctX ?_); clear H; intro a w H; replace H := ntf H; simp only [List.drop_succ_cons, List.drop_zero, List.drop_nil])
      refine wpT_nil ?_
      try dsimp only
      refine wpZ_two (cs := [5]) (by rfl) (by rfl) ?_
      refine all2 ?_
      refine ⟨?_, ?_⟩
      focus
        refine wpZ_pick (pend' := [1, 5, 6, 7, 8, 9]) (by rfl) (by rfl) ?_
        repeat ((first | refine v_someT 3 tab_ok hN H (by rfl) ctX ?_ | refine v_someT 2 tab_ok hN H (by rfl) ctX ?_ | refine v_someT 1 tab_ok hN H (by rfl) ctX ?_); clear H; intro a w H; replace H := ntf H; simp only [List.drop_succ_cons, List.drop_zero, List.drop_nil])
        refine wpT_nil ?_
        try dsimp only
        refine wpZ_two (cs := [5]) (by rfl) (by rfl) ?_
        refine all2 ?_
        refine ⟨?_, ?_⟩
        focus
          refine wpZ_pick (pend' := [5, 6, 7, 8, 9]) (by rfl) (by rfl) ?_
          repeat ((first | refine v_someT 3 tab_ok hN H (by rfl) ctX ?_ | refine v_someT 2 tab_ok hN H (by rfl) ctX ?_ | refine v_someT 1 tab_ok hN H (by rfl) ctX ?_); clear H; intro a w H; replace H := ntf H; simp only [List.drop_succ_cons, List.drop_zero, List.drop_nil])
          refine wpT_nil ?_
          try dsimp only
          refine wpZ_two (cs := []) (by rfl) (by rfl) ?_
          refine all1 ?_
          refine wpZ_pick (pend' := [6, 7, 8, 9]) (by rfl) (by rfl) ?_
          refine mCallT [] [] (hrt) H ?_; clear H; intro a w H
          refine wpT_nil ?_
          try dsimp only
          refine wpZ_two (cs := []) (by rfl) (by rfl) ?_
          refine all1 ?_
          refine wpZ_pick (pend' := [7, 8, 9]) (by rfl) (by rfl) ?_
          repeat ((first | refine v_someT 3 tab_ok hN H (by rfl) ctX ?_ | refine v_someT 2 tab_ok hN H (by rfl) ctX ?_ | refine v_someT 1 tab_ok hN H (by rfl) ctX ?_); clear H; intro a w H; replace H := ntf H; simp only [List.drop_succ_cons, List.drop_zero, List.drop_nil])
          refine wpT_nil ?_
          try dsimp only
          refine wpZ_two (cs := []) (by rfl) (by rfl) ?_
          refine all1 ?_
          refine wpZ_pick (pend' := [8, 9]) (by rfl) (by rfl) ?_
          repeat ((first | refine v_someT 3 tab_ok hN H (by rfl) ctX ?_ | refine v_someT 2 tab_ok hN H (by rfl) ctX ?_ | refine v_someT 1 tab_ok hN H (by rfl) ctX ?_); clear H; intro a w H; replace H := ntf H; simp only [List.drop_succ_cons, List.drop_zero, List.drop_nil])
          refine wpT_nil ?_
          try dsimp only
          refine wpZ_run 1 (i := 8) (n' := 1) (pend' := [9]) (by rfl) (by rfl) (by rfl) (by rfl) (by rfl) ?_
          repeat ((first | refine v_someT 3 tab_ok hN H (by rfl) ctX ?_ | refine v_someT 2 tab_ok hN H (by rfl) ctX ?_ | refine v_someT 1 tab_ok hN H (by rfl) ctX ?_); clear H; intro a w H; replace H := ntf H; simp only [List.drop_succ_cons, List.drop_zero, List.drop_nil])
          refine wpT_nil ?_
          try dsimp only
          refine wpZ_two (cs := []) (by rfl) (by rfl) ?_
          refine all1 ?_
          refine wpZ_pick (pend' := []) (by rfl) (by rfl) ?_
          repeat ((first | refine v_someT 3 tab_ok hN H (by rfl) ctX ?_ | refine v_someT 2 tab_ok hN H (by rfl) ctX ?_ | refine v_someT 1 tab_ok hN H (by rfl) ctX ?_); clear H; intro a w H; replace H := ntf H; simp only [List.drop_succ_cons, List.drop_zero, List.drop_nil])
          refine wpT_nil ?_
          try dsimp only
          refine wpZ_nil ?_
          replace H := RelT.toRel H
        rotate_left 1
        focus
          refine wpZ_pick (pend' := [1, 6, 7, 8, 9]) (by rfl) (by rfl) ?_
          refine mCallT [] [] (hrt) H ?_; clear H; intro a w H
          refine wpT_nil ?_
          try dsimp only
          refine wpZ_two (cs := [6]) (by rfl) (by rfl) ?_
          refine all2 ?_
          refine ⟨?_, ?_⟩
          focus
            refine wpZ_pick (pend' := [6, 7, 8, 9]) (by rfl) (by rfl) ?_
            repeat ((first | refine v_someT 3 tab_ok hN H (by rfl) ctX ?_ | refine v_someT 2 tab_ok hN H (by rfl) ctX ?_ | refine v_someT 1 tab_ok hN H (by rfl) ctX ?_); clear H; intro a w H; replace H := ntf H; simp only [List.drop_succ_cons, List.drop_zero, List.drop_nil])
            refine wpT_nil ?_
            try dsimp only
            refine wpZ_two (cs := []) (by rfl) (by rfl) ?_
            refine all1 ?_
            refine wpZ_pick (pend' := [7, 8, 9]) (by rfl) (by rfl) ?_
            repeat ((first | refine v_someT 3 tab_ok hN H (by rfl) ctX ?_ | refine v_someT 2 tab_ok hN H (by rfl) ctX ?_ | refine v_someT 1 tab_ok hN H (by rfl) ctX ?_); clear H; intro a w H; replace H := ntf H; simp only [List.drop_succ_cons, List.drop_zero, List.drop_nil])
            refine wpT_nil ?_
            try dsimp only
            refine wpZ_two (cs := []) (by rfl) (by rfl) ?_
            refine all1 ?_
            refine wpZ_pick (pend' := [8, 9]) (by rfl) (by rfl) ?_
            repeat ((first | refine v_someT 3 tab_ok hN H (by rfl) ctX ?_ | refine v_someT 2 tab_ok hN H (by rfl) ctX ?_ | refine v_someT 1 tab_ok hN H (by rfl) ctX ?_); clear H; intro a w H; replace H := ntf H; simp only [List.drop_succ_cons, List.drop_zero, List.drop_nil])
            refine wpT_nil ?_
            try dsimp only
            refine wpZ_run 1 (i := 8) (n' := 1) (pend' := [9]) (by rfl) (by rfl) (by rfl) (by rfl) (by rfl) ?_
            repeat ((first | refine v_someT 3 tab_ok hN H (by rfl) ctX ?_ | refine v_someT 2 tab_ok hN H (by rfl) ctX ?_ | refine v_someT 1 tab_ok hN H (by rfl) ctX ?_); clear H; intro a w H; replace H := ntf H; simp only [List.drop_succ_cons, List.drop_zero, List.drop_nil])
            refine wpT_nil ?_
            try dsimp only
            refine wpZ_two (cs := []) (by rfl) (by rfl) ?_
            refine all1 ?_
            refine wpZ_pick (pend' := []) (by rfl) (by rfl) ?_
            repeat ((first | refine v_someT 3 tab_ok hN H (by rfl) ctX ?_ | refine v_someT 2 tab_ok hN H (by rfl) ctX ?_ | refine v_someT 1 tab_ok hN H (by rfl) ctX ?_); clear H; intro a w H; replace H := ntf H; simp only [List.drop_succ_cons, List.drop_zero, List.drop_nil])
            refine wpT_nil ?_
            try dsimp only
            refine wpZ_nil ?_
            replace H := RelT.toRel H
          rotate_left 1
          focus
            refine wpZ_pick (pend' := [1, 7, 8, 9]) (by rfl) (by rfl) ?_
            repeat ((first | refine v_someT 3 tab_ok hN H (by rfl) ctX ?_ | refine v_someT 2 tab_ok hN H (by rfl) ctX ?_ | refine v_someT 1 tab_ok hN H (by rfl) ctX ?_); clear H; intro a w H; replace H := ntf H; simp only [List.drop_succ_cons, List.drop_zero, List.drop_nil])
            refine wpT_nil ?_
            try dsimp only
            refine wpZ_two (cs := []) (by rfl) (by rfl) ?_
            refine all1 ?_
            refine wpZ_pick (pend' := [7, 8, 9]) (by rfl) (by rfl) ?_
            repeat ((first | refine v_someT 3 tab_ok hN H (by rfl) ctX ?_ | refine v_someT 2 tab_ok hN H (by rfl) ctX ?_ | refine v_someT 1 tab_ok hN H (by rfl) ctX ?_); clear H; intro a w H; replace H := ntf H; simp only [List.drop_succ_cons, List.drop_zero, List.drop_nil])
            refine wpT_nil ?_
            try dsimp only
            refine wpZ_two (cs := []) (by rfl) (by rfl) ?_
            refine all1 ?_
            refine wpZ_pick (pend' := [8, 9]) (by rfl) (by rfl) ?_
            repeat ((first | refine v_someT 3 tab_ok hN H (by rfl) ctX ?_ | refine v_someT 2 tab_ok hN H (by rfl) ctX ?_ | refine v_someT 1 tab_ok hN H (by rfl) ctX ?_); clear H; intro a w H; replace H := ntf H; simp only [List.drop_succ_cons, List.drop_zero, List.drop_nil])
            refine wpT_nil ?_
            try dsimp only
            refine wpZ_run 1 (i := 8) (n' := 1) (pend' := [9]) (by rfl) (by rfl) (by rfl) (by rfl) (by rfl) ?_
            repeat ((first | refine v_someT 3 tab_ok hN H (by rfl) ctX ?_ | refine v_someT 2 tab_ok hN H (by rfl) ctX ?_ | refine v_someT 1 tab_ok hN H (by rfl) ctX ?_); clear H; intro a w H; replace H := ntf H; simp only [List.drop_succ_cons, List.drop_zero, List.drop_nil])
            refine wpT_nil ?_
            try dsimp only
            refine wpZ_two (cs := []) (by rfl) (by rfl) ?_
            refine all1 ?_
            refine wpZ_pick (pend' := []) (by rfl) (by rfl) ?_
            repeat ((first | refine v_someT 3 tab_ok hN H (by rfl) ctX ?_ | refine v_someT 2 tab_ok hN H (by rfl) ctX ?_ | refine v_someT 1 tab_ok hN H (by rfl) ctX ?_); clear H; intro a w H; replace H := ntf H; simp only [List.drop_succ_cons, List.drop_zero, List.drop_nil])
            refine wpT_nil ?_
            try dsimp only
            refine wpZ_nil ?_
            replace H := RelT.toRel H
      rotate_left 3
      focus
        refine wpZ_pick (pend' := [0, 1, 6, 7, 8, 9]) (by rfl) (by rfl) ?_
        refine mCallT [] [] (hrt) H ?_; clear H; intro a w H
        refine wpT_nil ?_
        try dsimp only
        refine wpZ_two (cs := [6]) (by rfl) (by rfl) ?_
        refine all2 ?_
        refine ⟨?_, ?_⟩
        focus
          refine wpZ_pick (pend' := [1, 6, 7, 8, 9]) (by rfl) (by rfl) ?_
          repeat ((first | refine v_someT 3 tab_ok hN H (by rfl) ctX ?_ | refine v_someT 2 tab_ok hN H (by rfl) ctX ?_ | refine v_someT 1 tab_ok hN H (by rfl) ctX ?_); clear H; intro a w H; replace H := ntf H; simp only [List.drop_succ_cons, List.drop_zero, List.drop_nil])
          refine wpT_nil ?_
          try dsimp only
          refine wpZ_two (cs := [6]) (by rfl) (by rfl) ?_
          refine all2 ?_
          refine ⟨?_, ?_⟩
          focus
            refine wpZ_pick (pend' := [6, 7, 8, 9]) (by rfl) (by rfl) ?_
            repeat ((first | refine v_someT 3 tab_ok hN H (by rfl) ctX ?_ | refine v_someT 2 tab_ok hN H (by rfl) ctX ?_ | refine v_someT 1 tab_ok hN H (by rfl) ctX ?_); clear H; intro a w H; replace H := ntf H; simp only [List.drop_succ_cons, List.drop_zero, List.drop_nil])
            refine wpT_nil ?_
            try dsimp only
            refine wpZ_two (cs := []) (by rfl) (by rfl) ?_
            refine all1 ?_
            refine wpZ_pick (pend' := [7, 8, 9]) (by rfl) (by rfl) ?_
            repeat ((first | refine v_someT 3 tab_ok hN H (by rfl) ctX ?_ | refine v_someT 2 tab_ok hN H (by rfl) ctX ?_ | refine v_someT 1 tab_ok hN H (by rfl) ctX ?_); clear H; intro a w H; replace H := ntf H; simp only [List.drop_succ_cons, List.drop_zero, List.drop_nil])
            refine wpT_nil ?_
            try dsimp only
            refine wpZ_two (cs := []) (by rfl) (by rfl) ?_
            refine all1 ?_
            refine wpZ_pick (pend' := [8, 9]) (by rfl) (by rfl) ?_
            repeat ((first | refine v_someT 3 tab_ok hN H (by rfl) ctX ?_ | refine v_someT 2 tab_ok hN H (by rfl) ctX ?_ | refine v_someT 1 tab_ok hN H (by rfl) ctX ?_); clear H; intro a w H; replace H := ntf H; simp only [List.drop_succ_cons, List.drop_zero, List.drop_nil])
            refine wpT_nil ?_
            try dsimp only
            refine wpZ_run 1 (i := 8) (n' := 1) (pend' := [9]) (by rfl) (by rfl) (by rfl) (by rfl) (by rfl) ?_
            repeat ((first | refine v_someT 3 tab_ok hN H (by rfl) ctX ?_ | refine v_someT 2 tab_ok hN H (by rfl) ctX ?_ | refine v_someT 1 tab_ok hN H (by rfl) ctX ?_); clear H; intro a w H; replace H := ntf H; simp only [List.drop_succ_cons, List.drop_zero, List.drop_nil])
            refine wpT_nil ?_
            try dsimp only
            refine wpZ_two (cs := []) (by rfl) (by rfl) ?_
            refine all1 ?_
            refine wpZ_pick (pend' := []) (by rfl) (by rfl) ?_
            repeat ((first | refine v_someT 3 tab_ok hN H (by rfl) ctX ?_ | refine v_someT 2 tab_ok hN H (by rfl) ctX ?_ | refine v_someT 1 tab_ok hN H (by rfl) ctX ?_); clear H; intro a w H; replace H := ntf H; simp only [List.drop_succ_cons, List.drop_zero, List.drop_nil])
            refine wpT_nil ?_
            try dsimp only
            refine wpZ_nil ?_
            replace H := RelT.toRel H
          rotate_left 1
          focus
            refine wpZ_pick (pend' := [1, 7, 8, 9]) (by rfl) (by rfl) ?_
            repeat ((first | refine v_someT 3 tab_ok hN H (by rfl) ctX ?_ | refine v_someT 2 tab_ok hN H (by rfl) ctX ?_ | refine v_someT 1 tab_ok hN H (by rfl) ctX ?_); clear H; intro a w H; replace H := ntf H; simp only [List.drop_succ_cons, List.drop_zero, List.drop_nil])
            refine wpT_nil ?_
            try dsimp only
            refine wpZ_two (cs := []) (by rfl) (by rfl) ?_
            refine all1 ?_
            refine wpZ_pick (pend' := [7, 8, 9]) (by rfl) (by rfl) ?_
            repeat ((first | refine v_someT 3 tab_ok hN H (by rfl) ctX ?_ | refine v_someT 2 tab_ok hN H (by rfl) ctX ?_ | refine v_someT 1 tab_ok hN H (by rfl) ctX ?_); clear H; intro a w H; replace H := ntf H; simp only [List.drop_succ_cons, List.drop_zero, List.drop_nil])
            refine wpT_nil ?_
            try dsimp only
            refine wpZ_two (cs := []) (by rfl) (by rfl) ?_
            refine all1 ?_
            refine wpZ_pick (pend' := [8, 9]) (by rfl) (by rfl) ?_
            repeat ((first | refine v_someT 3 tab_ok hN H (by rfl) ctX ?_ | refine v_someT 2 tab_ok hN H (by rfl) ctX ?_ | refine v_someT 1 tab_ok hN H (by rfl) ctX ?_); clear H; intro a w H; replace H := ntf H; simp only [List.drop_succ_cons, List.drop_zero, List.drop_nil])
            refine wpT_nil ?_
            try dsimp only
            refine wpZ_run 1 (i := 8) (n' := 1) (pend' := [9]) (by rfl) (by rfl) (by rfl) (by rfl) (by rfl) ?_
            repeat ((first | refine v_someT 3 tab_ok hN H (by rfl) ctX ?_ | refine v_someT 2 tab_ok hN H (by rfl) ctX ?_ | refine v_someT 1 tab_ok hN H (by rfl) ctX ?_); clear H; intro a w H; replace H := ntf H; simp only [List.drop_succ_cons, List.drop_zero, List.drop_nil])
            refine wpT_nil ?_
            try dsimp only
            refine wpZ_two (cs := []) (by rfl) (by rfl) ?_
            refine all1 ?_
            refine wpZ_pick (pend' := []) (by rfl) (by rfl) ?_
            repeat ((first | refine v_someT 3 tab_ok hN H (by rfl) ctX ?_ | refine v_someT 2 tab_ok hN H (by rfl) ctX ?_ | refine v_someT 1 tab_ok hN H (by rfl) ctX ?_); clear H; intro a w H; replace H := ntf H; simp only [List.drop_succ_cons, List.drop_zero, List.drop_nil])
            refine wpT_nil ?_
            try dsimp only
            refine wpZ_nil ?_
            replace H := RelT.toRel H
        rotate_left 2
        focus
          refine wpZ_pick (pend' := [0, 1, 7, 8, 9]) (by rfl) (by rfl) ?_
          repeat ((first | refine v_someT 3 tab_ok hN H (by rfl) ctX ?_ | refine v_someT 2 tab_ok hN H (by rfl) ctX ?_ | refine v_someT 1 tab_ok hN H (by rfl) ctX ?_); clear H; intro a w H; replace H := ntf H; simp only [List.drop_succ_cons, List.drop_zero, List.drop_nil])
          refine wpT_nil ?_
          try dsimp only
          refine wpZ_two (cs := []) (by rfl) (by rfl) ?_
          refine all1 ?_
          refine wpZ_pick (pend' := [1, 7, 8, 9]) (by rfl) (by rfl) ?_
          repeat ((first | refine v_someT 3 tab_ok hN H (by rfl) ctX ?_ | refine v_someT 2 tab_ok hN H (by rfl) ctX ?_ | refine v_someT 1 tab_ok hN H (by rfl) ctX ?_); clear H; intro a w H; replace H := ntf H; simp only [List.drop_succ_cons, List.drop_zero, List.drop_nil])
          refine wpT_nil ?_
          try dsimp only
          refine wpZ_two (cs := []) (by rfl) (by rfl) ?_
          refine all1 ?_
          refine wpZ_pick (pend' := [7, 8, 9]) (by rfl) (by rfl) ?_
          repeat ((first | refine v_someT 3 tab_ok hN H (by rfl) ctX ?_ | refine v_someT 2 tab_ok hN H (by rfl) ctX ?_ | refine v_someT 1 tab_ok hN H (by rfl) ctX ?_); clear H; intro a w H; replace H := ntf H; simp only [List.drop_succ_cons, List.drop_zero, List.drop_nil])
          refine wpT_nil ?_
          try dsimp only
          refine wpZ_two (cs := []) (by rfl) (by rfl) ?_
          refine all1 ?_
          refine wpZ_pick (pend' := [8, 9]) (by rfl) (by rfl) ?_
          repeat ((first | refine v_someT 3 tab_ok hN H (by rfl) ctX ?_ | refine v_someT 2 tab_ok hN H (by rfl) ctX ?_ | refine v_someT 1 tab_ok hN H (by rfl) ctX ?_); clear H; intro a w H; replace H := ntf H; simp only [List.drop_succ_cons, List.drop_zero, List.drop_nil])
          refine wpT_nil ?_
          try dsimp only
          refine wpZ_run 1 (i := 8) (n' := 1) (pend' := [9]) (by rfl) (by rfl) (by rfl) (by rfl) (by rfl) ?_
          repeat ((first | refine v_someT 3 tab_ok hN H (by rfl) ctX ?_ | refine v_someT 2 tab_ok hN H (by rfl) ctX ?_ | refine v_someT 1 tab_ok hN H (by rfl) ctX ?_); clear H; intro a w H; replace H := ntf H; simp only [List.drop_succ_cons, List.drop_zero, List.drop_nil])
          refine wpT_nil ?_
          try dsimp only
          refine wpZ_two (cs := []) (by rfl) (by rfl) ?_
          refine all1 ?_
          refine wpZ_pick (pend' := []) (by rfl) (by rfl) ?_
          repeat ((first | refine v_someT 3 tab_ok hN H (by rfl) ctX ?_ | refine v_someT 2 tab_ok hN H (by rfl) ctX ?_ | refine v_someT 1 tab_ok hN H (by rfl) ctX ?_); clear H; intro a w H; replace H := ntf H; simp only [List.drop_succ_cons, List.drop_zero, List.drop_nil])
          refine wpT_nil ?_
          try dsimp only
          refine wpZ_nil ?_
          replace H := RelT.toRel H
      all_goals
        refine mS ?_
        refine mW ?_; clear H; intro a w H
        try rw [← bas_snoc] at H
        exact ⟨(d + 1, o, ss ++ [x]), hnext, by dsimp only; omega, H.to 3 1 ⟨Nat.le_trans hN (by decide), Nat.le_trans hR (by decide)⟩ ⟨rfl, rfl, rfl, rfl, rfl, rfl, trivial⟩ rfl (by dsimp only; rw [List.length_append]; rfl) rfl rfl rfl⟩
    · have h2 : s.length < 2 := by rw [decide_eq_false_iff_not] at hb; omega
      clear hb
      have hE := hwy.e
      have hW := hwy.w
      have hsk2 := hwy.k
      have hsv2 := hwy.v
      dsimp only at hE hW hsk2 hsv2
      rw [endA_small _ _ _ _ (by rw [dgs_len]; exact h2)] at hE
      rw [wayA_small _ _ _ _ (by rw [dgs_len]; exact h2), List.append_nil] at hW
      subst hW
      clear hwy
      match s, h2 with
      | [], _ =>
        subst hE
        simp only [List.map_nil] at H
        clear hX; have hX := @hssl
        refine mW ?_; clear H; intro a w H
        refine mC H (fun hb => ?_) (fun hb => ?_)
        · simp at hb
        · refine mW ?_; clear H; intro a w H
          simp only [endB, dgs, List.map_nil, Nd.zero, Nd.av]
          refine wp_ret ?_; exact mEnd [] [0] [.cell 4 40, .tmp 5] [_, _] hN hR H
      | [x], _ =>
        subst hE
        have q1 := hsk2 x List.mem_cons_self
        have q2 := value_v x.2 (hsv2 x List.mem_cons_self)
        have q3 := valH_len x.2
        obtain ⟨kb, vb⟩ := x
        dsimp only at q1 q2 q3
        simp only [List.map_cons, List.map_nil, prA] at H
        clear hX; have hX := @hssl
        refine mW ?_; clear H; intro a w H
        refine mC H (fun hb => ?_) (fun hb => ?_)
        · refine mS ?_; refine mD 0 [8, 11] [0, 1, 2, 3] H ?_; clear H; intro gS H
          refine mT ?_; clear H; intro a w H
          refine mCallT [] [] (q2) H ?_; clear H; intro a w H
          refine mT ?_; clear H; intro a w H
          refine v_drawNil H ?_; clear H; intro H
          refine mW ?_; clear H; intro a w H
          simp only [endB, dgs, List.map_nil, List.map_cons, Nd.one, Nd.av]
          refine wp_ret ?_; exact mEnd [] [0] [.cell 4 40, .tmp 5] [_, _] hN hR H
        · simp at hb
end Go.Proofs.YtgffimanhmpohaaGreat
/- The document's entries: side, At. -/
namespace Go.Proofs.YtgffimanhmpohaaGreat
open Go Go.RowKit
def halfP (b : Bool) (d : Nat) (l : List Pr) : List Pr := l.filter fun x => bitN x.1 d == b
theorem halfP_dgs (b : Bool) (d : Nat) (l : List Pr) : dgs (halfP b d l) = half b d (dgs l) := by
  unfold dgs halfP half
  rw [List.filter_map]; rfl
theorem halfP_le (b : Bool) (d : Nat) (l : List Pr) : (halfP b d l).length ≤ l.length := List.length_filter_le _ _
theorem halfP_yes (b : Bool) (d : Nat) (l : List Pr) (k : Nat) (hk : k < l.length) (h : bitN l[k].1 d = b) : halfP b d (l.take (k + 1)) = halfP b d (l.take k) ++ [l[k]] := by
  unfold halfP; rw [List.take_succ_eq_append_getElem hk, List.filter_append]; congr 1; simp [List.filter_cons, h]
theorem halfP_no (b : Bool) (d : Nat) (l : List Pr) (k : Nat) (hk : k < l.length) (h : bitN l[k].1 d = !b) : halfP b d (l.take (k + 1)) = halfP b d (l.take k) := by
  unfold halfP; rw [List.take_succ_eq_append_getElem hk, List.filter_append]; simp [List.filter_cons, h]
theorem rootA_perm : ∀ (f d : Nat) (l m : List En), f + d = 256 → Sep d l → l.Perm m → rootA f d l = rootA f d m := by
  have small : ∀ (l m : List En), l.length < 2 → l.Perm m → l = m := fun l m hl hp => by
    match l, hl with
    | [], _ => exact (List.nil_perm.1 hp).symm
    | [x], _ => exact (List.singleton_perm.1 hp)
  intro f
  induction f with
  | zero => intro d l m hd hs hp; rw [small l m (hs.deep (by omega)) hp]
  | succ f ih =>
    intro d l m hd hs hp
    by_cases h : l.length < 2
    · rw [small l m h hp]
    · rw [rootA, rootA, if_neg h, if_neg (by rw [← hp.length_eq]; exact h), ih (d + 1) _ _ (by omega) (hs.side false) (hp.filter _), ih (d + 1) _ _ (by omega) (hs.side true) (hp.filter _)]
      rfl
theorem prs_app (l : List Pr) (x : Pr) : (l ++ [x]).map prA = l.map prA ++ [.st [.ba x.1, .bs x.2 none]] := by simp [prA]
theorem K32.half {l : List Pr} (h : K32 l) (b : Bool) (d : Nat) : K32 (halfP b d l) := fun x hx => h x (List.mem_filter.1 hx).1
theorem V0.half {l : List Pr} (h : V0 l) (b : Bool) (d : Nat) : V0 (halfP b d l) := fun x hx => h x (List.mem_filter.1 hx).1
end Go.Proofs.YtgffimanhmpohaaGreat
/- The document's List, RootAt, Root: any entries. -/
namespace Go.Proofs.YtgffimanhmpohaaGreat
open Go Go.RowKit
theorem sep_of (l : List Pr) (hk : K32 l) (hd : Dis l) (d : Nat) (h : ∀ x ∈ l, ∀ y ∈ l, agree d x.1 y.1) : Sep d (dgs l) := by
  unfold Sep dgs
  rw [List.pairwise_map]
  exact List.Pairwise.imp_of_mem (fun {x y} hx hy hp => ⟨h x hx y hy, fun ha => hp (agree_eq (hk x hx) (hk y hy) ha)⟩) hd
theorem root_srt (l : List Pr) (hk : K32 l) (hd : Dis l) (f d : Nat) (hf : f + d = 256) (h : ∀ x ∈ l, ∀ y ∈ l, agree d x.1 y.1) : rootA f d (dgs (srt l)) = rootA f d (dgs l) :=
  (rootA_perm f d (dgs l) (dgs (srt l)) hf (sep_of l hk hd d h) ((srt_perm l).symm.map _)).symm
end Go.Proofs.YtgffimanhmpohaaGreat
/- The document's RootAt, Root. -/
namespace Go.Proofs.YtgffimanhmpohaaGreat
open Go Go.RowKit
end Go.Proofs.YtgffimanhmpohaaGreat
/- The document's way of a key among entries. -/
namespace Go.Proofs.YtgffimanhmpohaaGreat
open Go Go.RowKit
theorem small_perm (l m : List En) (hl : l.length < 2) (hp : l.Perm m) : l = m := by
  match l, hl with
  | [], _ => exact (List.nil_perm.1 hp).symm
  | [x], _ => exact (List.singleton_perm.1 hp)
theorem wayA_perm (key : List UInt8) : ∀ (f d : Nat) (l m : List En), f + d = 256 → Sep d l → l.Perm m → wayA key f d l = wayA key f d m ∧ endA key f d l = endA key f d m := by
  intro f
  induction f with
  | zero => intro d l m hd hs hp; rw [small_perm l m (hs.deep (by omega)) hp]; exact ⟨rfl, rfl⟩
  | succ f ih =>
    intro d l m hd hs hp
    by_cases h : l.length < 2
    · rw [small_perm l m h hp]; exact ⟨rfl, rfl⟩
    · have h' : ¬ m.length < 2 := by rw [← hp.length_eq]; exact h
      have e1 := rootA_perm f (d + 1) (half (!bitN key d) d l) (half (!bitN key d) d m) (by omega) (hs.side _) (hp.filter _)
      obtain ⟨e2, e3⟩ := ih (d + 1) (half (bitN key d) d l) (half (bitN key d) d m) (by omega) (hs.side _) (hp.filter _)
      rw [wayA, wayA, endA, endA, if_neg h, if_neg h', if_neg h, if_neg h', e1, e2, e3]
      exact ⟨rfl, rfl⟩
/-- The state of the document's walk down. -/
structure Wz (key : List UInt8) (W : List (List UInt8)) (E : Nd) (i : Nat × List Pr × List (List UInt8)) : Prop where
  d : i.1 ≤ 256
  w : i.2.2 ++ wayA key (256 - i.1) i.1 (dgs i.2.1) = W
  e : endA key (256 - i.1) i.1 (dgs i.2.1) = E
  r : Sep i.1 (dgs i.2.1)
  k : K32 i.2.1
  v : V0 i.2.1
  n : i.2.1.length ≤ 34359730000
  s : i.2.2.length = i.1
theorem Wz.go {key : List UInt8} {W : List (List UInt8)} {E : Nd} {d : Nat} {s : List Pr} {ss : List (List UInt8)} (h : Wz key W E (d, s, ss)) (h2 : 1 < s.length) :
    d < 256 ∧ Wz key W E (d + 1, halfP (bitN key d) d s, ss ++ [rootA (255 - d) (d + 1) (dgs (halfP (!bitN key d) d s))]) ∧ Sep (d + 1) (dgs (halfP (!bitN key d) d s)) := by
  have hl : ¬ (dgs s).length < 2 := by rw [dgs_len]; omega
  have hd : d < 256 := by
    by_cases hd : d < 256
    · exact hd
    · exact absurd (h.r.deep (by show 256 ≤ d; omega)) (by rw [dgs_len]; show ¬ s.length < 2; omega)
  have f1 : 256 - d = (255 - d) + 1 := by omega
  have f2 : 256 - (d + 1) = 255 - d := by omega
  have hw := h.w
  have he := h.e
  have hn := h.n
  have hs := h.s
  have r1 := h.r.side (bitN key d)
  have r2 := h.r.side (!bitN key d)
  dsimp only at hw he hn hs r1 r2
  rw [f1, wayA, if_neg hl] at hw
  rw [f1, endA, if_neg hl] at he
  rw [← halfP_dgs] at r1 r2 he
  rw [← halfP_dgs, ← halfP_dgs] at hw
  refine ⟨hd, ⟨by show d + 1 ≤ 256; omega, ?_, ?_, r1, h.k.half _ _, h.v.half _ _, Nat.le_trans (halfP_le _ _ _) hn, by dsimp only; rw [List.length_append, hs]; rfl⟩, r2⟩
  · dsimp only; rw [f2, List.append_assoc]; exact hw
  · dsimp only; rw [f2]; exact he
theorem wayE_of (l : List Pr) (hk : K32 l) (hd : Dis l) (key : List UInt8) : (wayE l key).s = wayA key 256 0 (dgs l) ∧ (wayE l key).e = endA key 256 0 (dgs l) := by
  have hs := sep_of l hk hd 0 (fun x _ y _ t ht => absurd ht (Nat.not_lt_zero t))
  obtain ⟨e1, e2⟩ := wayA_perm key 256 0 (dgs l) (dgs (srt l)) rfl hs ((srt_perm l).symm.map _)
  exact ⟨e1.symm, e2.symm⟩
end Go.Proofs.YtgffimanhmpohaaGreat
/- Trees in a store (plain). -/
namespace Go.Proofs.YtgffimanhmpohaaGreat
open Go Go.RowKit
theorem Slb.at_push (s : Slb) (n : SN) (h : Int) : (s.push n).at_ h = if h = (s.sl.length : Int) + 1 then some (n, 1) else s.at_ h := by
  unfold Slb.at_ Slb.push
  dsimp only
  by_cases h1 : 1 ≤ h
  · rw [if_pos h1]
    by_cases h2 : h = (s.sl.length : Int) + 1
    · subst h2
      rw [if_pos rfl, show ((s.sl.length : Int) + 1 - 1).toNat = s.sl.length by omega, List.getElem?_append_right (Nat.le_refl _), Nat.sub_self]; rfl
    · rw [if_neg h2, if_pos h1]
      by_cases h3 : (h - 1).toNat < s.sl.length
      · rw [List.getElem?_append_left h3]
      · rw [List.getElem?_append_right (by omega), List.getElem?_eq_none (by simp; omega), List.getElem?_eq_none (by omega)]
  · rw [if_neg h1, if_neg h1, if_neg (by omega)]
theorem Slb.at_set (s : Slb) (h : Int) (n x : SN) (c : Nat) (hat : s.at_ h = some (x, c)) (k : Int) : (s.set_ h n).at_ k = if k = h then some (n, c) else s.at_ k := by
  obtain ⟨i, hi, hlt, hx⟩ := Slb.at_some hat
  rw [Slb.set_some hat hi n]
  subst hi
  unfold Slb.at_
  dsimp only
  by_cases h1 : 1 ≤ k
  · rw [if_pos h1, if_pos h1, List.getElem?_set]
    by_cases h2 : k = (i : Int) + 1
    · subst h2
      rw [if_pos (by omega), if_pos rfl, if_pos hlt]; rfl
    · rw [if_neg (by omega), if_neg h2]
  · rw [if_neg h1, if_neg h1, if_neg (by omega)]
theorem Slb.at_call (s : Slb) (h b : Int) (k : Int) : (s.call_ h b).at_ k = if k = h then (s.at_ k).map fun p => ({ p.1 with hd := p.1.hd + b }, p.2) else s.at_ k := by
  unfold Slb.call_
  cases hat : s.at_ h with
  | none =>
    rw [if_neg (by unfold Slb.ok_; rw [hat]; decide)]
    split
    · rename_i e; rw [e, hat]; rfl
    · rfl
  | some p =>
    obtain ⟨x, c⟩ := p
    rw [if_pos (by unfold Slb.ok_; rw [hat]; rfl), Slb.at_set s h _ x c hat k]
    split
    · rename_i e; rw [e, hat]
      have : s.get_ h = x := by unfold Slb.get_; rw [hat]
      rw [this]; rfl
    · rfl
theorem Slb.call_dim (s : Slb) (h b : Int) : (s.call_ h b).sl.length = s.sl.length ∧ (s.call_ h b).m = s.m ∧ (s.call_ h b).used = s.used ∧ (s.call_ h b).room = s.room := by
  unfold Slb.call_ Slb.set_
  split
  · split
    · exact ⟨List.length_set, rfl, rfl, rfl⟩
    · exact ⟨rfl, rfl, rfl, rfl⟩
  · exact ⟨rfl, rfl, rfl, rfl⟩
theorem Slb.wf_at {s : Slb} (hr : 0 < s.room ∧ s.room ≤ 65536) (hl : s.sl.length ≤ 65536) (h : ∀ k x c, s.at_ k = some (x, c) → 0 < c ∧ c ≤ 1073741824 ∧ x.wf) : s.wf := by
  refine ⟨hr, hl, fun x c hx => ?_⟩
  obtain ⟨i, hi⟩ := List.getElem?_of_mem hx
  refine h ((i : Int) + 1) x c ?_
  unfold Slb.at_
  rw [if_pos (by omega), show ((i : Int) + 1 - 1).toNat = i by omega, hi]; rfl
theorem Slb.push_wf {s : Slb} (hs : s.wf) {n : SN} (hn : n.wf) (hl : s.sl.length < 65536) : (s.push n).wf := by
  refine Slb.wf_at hs.room (by unfold Slb.push; simp; omega) fun k x c hk => ?_
  rw [Slb.at_push] at hk
  split at hk
  · injection hk with hk; injection hk with h1 h2; subst h1 h2; exact ⟨by decide, by decide, hn⟩
  · exact Slb.at_pos hs hk
theorem Slb.call_wf {s : Slb} (hs : s.wf) (h b : Int) : (s.call_ h b).wf := by
  obtain ⟨d1, d2, d3, d4⟩ := Slb.call_dim s h b
  refine Slb.wf_at (by rw [d4]; exact hs.room) (by rw [d1]; exact hs.len) fun k x c hk => ?_
  rw [Slb.at_call] at hk
  split at hk
  · cases ha : s.at_ k with
    | none => rw [ha] at hk; cases hk
    | some p =>
      obtain ⟨y, c'⟩ := p
      rw [ha] at hk
      simp only [Option.map_some, Option.some.injEq, Prod.mk.injEq] at hk
      obtain ⟨rfl, rfl⟩ := hk
      obtain ⟨p1, p2, p3, p4, p5⟩ := Slb.at_pos hs ha
      exact ⟨p1, p2, p3, p4, p5⟩
  · exact Slb.at_pos hs hk
def IsB (s : Slb) (l : List Pr) (h : Int) : Prop := match l with
  | [] => h = 0
  | x :: _ => ∃ hd c, s.at_ h = some (leafN x.1 x.2 hd, c)
def hdK (l : List Pr) : List UInt8 := match l with
  | [] => []
  | x :: _ => x.1
/-- A handle stands for entries at a depth. -/
def Is (s : Slb) : Nat → Nat → List Pr → Int → Prop
  | 0, _, l, h => IsB s l h
  | f + 1, d, l, h => if l.length < 2 then IsB s l h else
      ∃ lh rh hd c, s.at_ h = some (inN (rootA (f + 1) d (dgs l)) d (fillL (hdK l) d false) lh rh (l.length : Int) hd, c) ∧ Is s f (d + 1) (halfP false d l) lh ∧ Is s f (d + 1) (halfP true d l) rh
/-- What was there is there, but for how often callers hold it. -/
def Slb.Sub (s t : Slb) : Prop := ∀ h x c, s.at_ h = some (x, c) → ∃ hd c', t.at_ h = some ({ x with hd := hd }, c')
theorem Slb.Sub.trans {s t u : Slb} (h : s.Sub t) (k : t.Sub u) : s.Sub u := fun a x c ha => by
  obtain ⟨hd, c', h1⟩ := h a x c ha
  obtain ⟨hd2, c2, h2⟩ := k a _ _ h1
  exact ⟨hd2, c2, h2⟩
theorem Slb.Sub.push (s : Slb) (n : SN) : s.Sub (s.push n) := fun h x c hx => by
  refine ⟨x.hd, c, ?_⟩
  obtain ⟨i, hi, hlt, _⟩ := Slb.at_some hx
  rw [Slb.at_push, if_neg (by omega), hx]
theorem Slb.Sub.call (s : Slb) (k b : Int) : s.Sub (s.call_ k b) := fun h x c hx => by
  rw [Slb.at_call]
  split
  · rw [hx]; exact ⟨x.hd + b, c, rfl⟩
  · exact ⟨x.hd, c, hx⟩
theorem IsB.mono {s t : Slb} (hst : s.Sub t) {l : List Pr} {h : Int} (hi : IsB s l h) : IsB t l h := by
  cases l with
  | nil => exact hi
  | cons x l =>
    obtain ⟨hd, c, hi⟩ := hi
    obtain ⟨hd2, c2, h2⟩ := hst h _ _ hi
    exact ⟨hd2, c2, h2⟩
theorem Is.mono {s t : Slb} (hst : s.Sub t) : ∀ {f d : Nat} {l : List Pr} {h : Int}, Is s f d l h → Is t f d l h
  | 0, d, l, h, hi => IsB.mono hst hi
  | f + 1, d, l, h, hi => by
    unfold Is at *
    split at hi
    · rename_i hl; rw [if_pos hl]; exact hi.mono hst
    · rename_i hl
      rw [if_neg hl]
      obtain ⟨lh, rh, hd, c, h1, h2, h3⟩ := hi
      obtain ⟨hd2, c2, h4⟩ := hst h _ _ h1
      exact ⟨lh, rh, hd2, c2, h4, h2.mono hst, h3.mono hst⟩
theorem Is.small {s : Slb} {f d : Nat} {l : List Pr} {h : Int} (hl : l.length < 2) : Is s f d l h ↔ IsB s l h := by
  cases f with
  | zero => exact Iff.rfl
  | succ f => unfold Is; rw [if_pos hl]
end Go.Proofs.YtgffimanhmpohaaGreat
/- A tree is made of two sides (plain). -/
namespace Go.Proofs.YtgffimanhmpohaaGreat
open Go Go.RowKit
theorem hdK_agree {d : Nat} {l : List Pr} (hs : Sep d (dgs l)) : ∀ y ∈ l, agree d (hdK l) y.1 := by
  cases l with
  | nil => intro y hy; cases hy
  | cons x l =>
    intro y hy
    rcases List.mem_cons.1 hy with rfl | hy
    · exact fun _ _ => rfl
    · have := (List.pairwise_cons.1 hs).1 (y.1, valH y.2) (List.mem_map.2 ⟨y, hy, rfl⟩)
      exact this.1
structure Info (s : Slb) (f d : Nat) (l : List Pr) (x : SN) : Prop where
  dg : x.dg = rootA f d (dgs l)
  sz : x.sz = (l.length : Int)
  key : ∀ y ∈ l, agree d x.key y.1
  big : 2 ≤ l.length → x.k = 2 ∧ x.d = (d : Int)
  one : l.length < 2 → x.k = 1
theorem Is.info {s : Slb} {f d : Nat} {l : List Pr} {h : Int} (hi : Is s f d l h) (hs : Sep d (dgs l)) (hfd : f + d = 256) (hne : l ≠ []) : ∃ x c, s.at_ h = some (x, c) ∧ Info s f d l x := by
  by_cases hl : l.length < 2
  · rw [Is.small hl] at hi
    obtain ⟨y, rfl⟩ : ∃ y, l = [y] := by
      match l, hl with
      | [], _ => exact absurd rfl hne
      | [y], _ => exact ⟨y, rfl⟩
    obtain ⟨hd, c, hi⟩ := hi
    refine ⟨_, c, hi, ?_, rfl, fun z hz => by rw [List.mem_singleton.1 hz]; exact fun _ _ => rfl, fun h => by simp at h, fun _ => rfl⟩
    rw [rootA_small _ _ _ (by simp [dgs])]; rfl
  · cases f with
    | zero => exact absurd (hs.deep (by omega)) (by rw [dgs_len]; exact hl)
    | succ f =>
      unfold Is at hi
      rw [if_neg hl] at hi
      obtain ⟨lh, rh, hd, c, h1, _, _⟩ := hi
      refine ⟨_, c, h1, rfl, rfl, fun y hy t ht => ?_, fun _ => ⟨rfl, rfl⟩, fun h => absurd h hl⟩
      rw [show (inN (rootA (f + 1) d (dgs l)) d (fillL (hdK l) d false) lh rh (l.length : Int) hd).key = fillL (hdK l) d false from rfl]
      exact (fill_agree false (by omega) t ht).trans (hdK_agree hs y hy t ht)
theorem halfP_sum (d : Nat) (l : List Pr) : (halfP false d l).length + (halfP true d l).length = l.length := by
  unfold halfP
  induction l with
  | nil => rfl
  | cons x l ih =>
    cases h : bitN x.1 d <;> simp [h] <;> simp at ih <;> omega
theorem halfP_bit {b : Bool} {d : Nat} {l : List Pr} : ∀ y ∈ halfP b d l, bitN y.1 d = b ∧ y ∈ l := fun y hy => by
  unfold halfP at hy
  obtain ⟨h1, h2⟩ := List.mem_filter.1 hy
  exact ⟨by simpa using h2, h1⟩
/-- What Build has made. -/
structure Built (s t : Slb) (f d : Nat) (l : List Pr) (h : Int) : Prop where
  wf : t.wf
  m : t.m = 0
  used : t.used = t.sl.length
  room : t.room = s.room
  old : ∀ k, k ≤ (s.sl.length : Int) → t.at_ k = s.at_ k
  le : s.sl.length ≤ t.sl.length
  len : t.sl.length ≤ s.sl.length + l.length * (257 - d)
  is : Is t f d l h
  nz : l ≠ [] → (s.sl.length : Int) < h ∧ h ≤ (t.sl.length : Int) ∧ (t.get_ h).hd = 1
  z : l = [] → h = 0
theorem Slb.at_lt {s : Slb} {k : Int} {p : SN × Nat} (h : s.at_ k = some p) : 0 < k ∧ k ≤ (s.sl.length : Int) := by
  obtain ⟨x, c⟩ := p
  obtain ⟨i, hi, hlt, _⟩ := Slb.at_some h
  omega
theorem Built.sub {s t : Slb} {f d : Nat} {l : List Pr} {h : Int} (hb : Built s t f d l h) : s.Sub t := fun k x c hk => ⟨x.hd, c, by rw [hb.old k (Slb.at_lt hk).2]; exact hk⟩
theorem fit_side {n : SN} {f d : Nat} {l : List Pr} {s : Slb} (b : Bool) (hi : Info s f (d + 1) l n) (hd : d < 256) (hne : l ≠ []) (hbit : ∀ y ∈ l, bitN y.1 d = b) : fitB n (d : Int) (if b then 1 else 0) = true := by
  obtain ⟨y, hy⟩ := List.exists_mem_of_ne_nil l hne
  have hk : bitN n.key d = b := (hi.key y hy d (by omega)).trans (hbit y hy)
  have hp : pbit n.key (d : Int) = if b then 1 else 0 := by rw [pbit, if_pos (by omega), Int.toNat_natCast, hk]
  unfold fitB
  rw [hp]
  by_cases h2 : 2 ≤ l.length
  · obtain ⟨k1, k2⟩ := hi.big h2
    rw [k2, decide_eq_false (show ¬ (((d + 1 : Nat) : Int) ≠ (d : Int) + 1) by omega)]; simp
  · have := hi.one (by omega)
    rw [decide_eq_false (show ¬ n.k = 2 by rw [this]; decide)]; simp
end Go.Proofs.YtgffimanhmpohaaGreat
/- Two sides are joined (plain). -/
namespace Go.Proofs.YtgffimanhmpohaaGreat
open Go Go.RowKit
theorem Slb.get_at {s : Slb} {h : Int} {x : SN} {c : Nat} (hh : s.at_ h = some (x, c)) : s.get_ h = x ∧ s.ok_ h = true := by
  unfold Slb.get_ Slb.ok_; rw [hh]; exact ⟨rfl, rfl⟩
theorem Slb.at_zero (s : Slb) : s.at_ 0 = none := by unfold Slb.at_; rw [if_neg (by decide)]
theorem fill_eq {p q : List UInt8} {d : Nat} (h : agree d p q) : fillL p d false = fillL q d false := by
  refine agree_eq (fillL_len _ _ _) (fillL_len _ _ _) fun t ht => ?_
  rw [fillL_bit _ _ _ _ ht, fillL_bit _ _ _ _ ht]
  split
  · exact h t (by assumption)
  · rfl
/-- What is known of a side. -/
structure Sd (s : Slb) (f d : Nat) (b : Bool) (l : List Pr) (h : Int) : Prop where
  z : l = [] → h = 0 ∧ s.side h = SN.zero
  nz : l ≠ [] → h ≠ 0 ∧ s.ok_ h = true ∧ s.side h = s.get_ h ∧ (s.get_ h).hd = 1 ∧ Info s f (d + 1) l (s.get_ h)
  dig : s.dig h = rootA f (d + 1) (dgs l)
  sz : (s.side h).sz = (l.length : Int)
theorem Sd.of {s t u : Slb} {f d : Nat} {b : Bool} {l : List Pr} {h : Int} (B : Built s t f (d + 1) l h) (hs : Sep (d + 1) (dgs l)) (hfd : f + (d + 1) = 256) (hu : ∀ k, k ≤ (t.sl.length : Int) → u.at_ k = t.at_ k) : Sd u f d b l h := by
  by_cases hne : l = []
  · have h0 := B.z hne
    subst h0
    have hsd : u.side 0 = SN.zero := by unfold Slb.side; rw [if_pos rfl]
    refine ⟨fun _ => ⟨rfl, hsd⟩, fun h => absurd hne h, ?_, by rw [hsd, hne]; rfl⟩
    unfold Slb.dig; rw [if_pos rfl, hne, rootA_small _ _ _ (by simp [dgs])]; rfl
  · obtain ⟨n1, n2, n3⟩ := B.nz hne
    obtain ⟨x, c, h1, h2⟩ := B.is.info hs hfd hne
    have h3 : u.at_ h = some (x, c) := by rw [hu h n2]; exact h1
    obtain ⟨g1, g2⟩ := Slb.get_at h3
    have h0 : h ≠ 0 := by omega
    have hsd : u.side h = u.get_ h := by unfold Slb.side; rw [if_neg h0]
    rw [(Slb.get_at h1).1] at n3
    have hI : Info u f (d + 1) l x := ⟨h2.dg, h2.sz, h2.key, h2.big, h2.one⟩
    refine ⟨fun h => absurd h hne, fun _ => ⟨h0, g2, hsd, by rw [g1]; exact n3, by rw [g1]; exact hI⟩, ?_, by rw [hsd, g1]; exact h2.sz⟩
    unfold Slb.dig; rw [if_neg h0, g1]; exact h2.dg
/-- What an inner node of two sides needs, and what it comes to. -/
structure Joined (s s2 : Slb) (f d : Nat) (l : List Pr) (a b : Int) : Prop where
  la : a ≠ 0 → s2.ok_ a = true ∧ (s2.get_ a).hd ≠ 0
  lb : b ≠ 0 → s2.ok_ b = true ∧ (s2.get_ b).hd ≠ 0
  fits : fitsB d a b (s2.side a) (s2.side b) = true
  used : s2.used < s2.room
  len : s2.sl.length < 65536
  sz : 0 ≤ (s2.side a).sz ∧ (s2.side a).sz ≤ 1000000 ∧ 0 ≤ (s2.side b).sz ∧ (s2.side b).sz ≤ 1000000
  w1 : (s2.push (s2.newIn d a b)).wf
  c1 : -1000000000000 ≤ ((s2.push (s2.newIn d a b)).get_ a).hd + -1 ∧ ((s2.push (s2.newIn d a b)).get_ a).hd + -1 ≤ 1000000000000
  c2 : -1000000000000 ≤ (((s2.push (s2.newIn d a b)).call_ a (-1)).get_ b).hd + -1 ∧ (((s2.push (s2.newIn d a b)).call_ a (-1)).get_ b).hd + -1 ≤ 1000000000000
  is : Built s (((s2.push (s2.newIn d a b)).call_ a (-1)).call_ b (-1)) (f + 1) d l ((s2.sl.length : Int) + 1)
theorem joined {s s1 s2 : Slb} {f d : Nat} {l : List Pr} {a b : Int} (hs : Sep d (dgs l)) (hfd : f + 1 + d = 256) (h2 : 2 ≤ l.length) (hll : l.length ≤ 100000) (hw : s.wf) (hroom : s.sl.length + l.length * (257 - d) ≤ s.room)
    (B1 : Built s s1 f (d + 1) (halfP false d l) a) (B2 : Built s1 s2 f (d + 1) (halfP true d l) b) : Joined s s2 f d l a b := by
  have hsum := halfP_sum d l
  have hsA : Sep (d + 1) (dgs (halfP false d l)) := by rw [halfP_dgs]; exact hs.side false
  have hsB : Sep (d + 1) (dgs (halfP true d l)) := by rw [halfP_dgs]; exact hs.side true
  have SA : Sd s2 f d false (halfP false d l) a := Sd.of B1 hsA (by omega) B2.old
  have SB : Sd s2 f d true (halfP true d l) b := Sd.of B2 hsB (by omega) (fun _ _ => rfl)
  have hbA := fun y hy => (halfP_bit (b := false) (d := d) (l := l) y hy)
  have hbB := fun y hy => (halfP_bit (b := true) (d := d) (l := l) y hy)
  have hlen : s2.sl.length < s.sl.length + l.length * (257 - d) := by
    have e1 := B1.len
    have e2 := B2.len
    have e3 : 257 - d = (257 - (d + 1)) + 1 := by omega
    rw [e3, Nat.mul_add, Nat.mul_one, ← hsum, Nat.add_mul]
    omega
  have hrm : s2.room = s.room := B2.room.trans B1.room
  have hle : s.sl.length ≤ s2.sl.length := Nat.le_trans B1.le B2.le
  generalize hA : halfP false d l = A at *
  generalize hBB : halfP true d l = B at *
  have hkey : ∀ y ∈ l, ∃ k, k = (if a = 0 then (s2.side b).key else (s2.side a).key) ∧ agree d k y.1 := by
    intro y hy
    refine ⟨_, rfl, ?_⟩
    have hky := hdK_agree hs
    by_cases ha : A = []
    · have hB0 : B ≠ [] := by intro e; rw [ha, e] at hsum; simp at hsum; omega
      obtain ⟨b1, b2, b3, b4, b5⟩ := SB.nz hB0
      rw [if_pos (SA.z ha).1, b3]
      obtain ⟨z, hz⟩ := List.exists_mem_of_ne_nil B hB0
      intro t ht
      exact ((b5.key z hz t (by omega)).trans (hky z (hbB z hz).2 t ht).symm).trans (hky y hy t ht)
    · obtain ⟨b1, b2, b3, b4, b5⟩ := SA.nz ha
      rw [if_neg b1, b3]
      obtain ⟨z, hz⟩ := List.exists_mem_of_ne_nil A ha
      intro t ht
      exact ((b5.key z hz t (by omega)).trans (hky z (hbA z hz).2 t ht).symm).trans (hky y hy t ht)
  have hnk : fillL (if a = 0 then (s2.side b).key else (s2.side a).key) d false = fillL (hdK l) d false := by
    obtain ⟨x, tl, rfl⟩ : ∃ x tl, l = x :: tl := by cases l with | nil => simp at h2 | cons x tl => exact ⟨x, tl, rfl⟩
    obtain ⟨k, hk, hk2⟩ := hkey x List.mem_cons_self
    rw [← hk]; exact fill_eq hk2
  have hnew : s2.newIn d a b = inN (rootA (f + 1) d (dgs l)) d (fillL (hdK l) d false) a b (l.length : Int) 1 := by
    unfold Slb.newIn
    rw [hnk, SA.dig, SB.dig, SA.sz, SB.sz]
    have er : rootA (f + 1) d (dgs l) = innerH (rootA f (d + 1) (dgs A)) (rootA f (d + 1) (dgs B)) := by
      rw [rootA, if_neg (by rw [dgs_len]; omega), ← hA, ← hBB, halfP_dgs, halfP_dgs]
    rw [er, show ((A.length : Int) + (B.length : Int)) = (l.length : Int) by omega]
  have hnwf : (s2.newIn d a b).wf := by rw [hnew]; exact ⟨rootA_len _ _ _, fillL_len _ _ _, List.length_replicate⟩
  have hl5 : s2.sl.length < 65536 := by have := hw.room.2; omega
  have hat : ∀ (h : Int) (x : SN) (c : Nat), s2.at_ h = some (x, c) → (s2.push (s2.newIn d a b)).at_ h = some (x, c) := fun h x c hh => by
    have := (Slb.at_lt hh).2
    rw [Slb.at_push, if_neg (by omega)]; exact hh
  have g1 : ((s2.push (s2.newIn d a b)).get_ a).hd = if A = [] then 0 else 1 := by
    by_cases ha : A = []
    · rw [if_pos ha, (SA.z ha).1]; unfold Slb.get_; rw [Slb.at_zero]; rfl
    · rw [if_neg ha]
      obtain ⟨b1, b2, b3, b4, b5⟩ := SA.nz ha
      obtain ⟨⟨x, c⟩, hx⟩ := Option.isSome_iff_exists.1 b2
      rw [(Slb.get_at (hat a x c hx)).1, ← (Slb.get_at hx).1]; exact b4
  have hab : B ≠ [] → b ≠ a := fun hb e => by
    obtain ⟨q1, q2, _⟩ := B2.nz hb
    by_cases ha : A = []
    · have := (SA.z ha).1; omega
    · obtain ⟨p1, p2, _⟩ := B1.nz ha; omega
  have g2 : (((s2.push (s2.newIn d a b)).call_ a (-1)).get_ b).hd = if B = [] then 0 else 1 := by
    by_cases hb : B = []
    · rw [if_pos hb, (SB.z hb).1]; unfold Slb.get_; rw [Slb.at_zero]; rfl
    · rw [if_neg hb]
      obtain ⟨b1, b2, b3, b4, b5⟩ := SB.nz hb
      obtain ⟨⟨x, c⟩, hx⟩ := Option.isSome_iff_exists.1 b2
      have h3 : ((s2.push (s2.newIn d a b)).call_ a (-1)).at_ b = some (x, c) := by rw [Slb.at_call, if_neg (hab hb)]; exact hat b x c hx
      rw [(Slb.get_at h3).1, ← (Slb.get_at hx).1]; exact b4
  have hale : a ≤ (s2.sl.length : Int) := by
    by_cases ha : A = []
    · rw [(SA.z ha).1]; omega
    · have := (B1.nz ha).2.1; have := B2.le; omega
  have hble : b ≤ (s2.sl.length : Int) := by
    by_cases hb : B = []
    · rw [(SB.z hb).1]; omega
    · exact (B2.nz hb).2.1
  have hpl : (s2.push (s2.newIn d a b)).sl.length = s2.sl.length + 1 := by unfold Slb.push; simp
  obtain ⟨p1, p2, p3, p4⟩ := Slb.call_dim (s2.push (s2.newIn d a b)) a (-1)
  obtain ⟨q1, q2, q3, q4⟩ := Slb.call_dim ((s2.push (s2.newIn d a b)).call_ a (-1)) b (-1)
  have hS : ∀ k, (((s2.push (s2.newIn d a b)).call_ a (-1)).call_ b (-1)).at_ k = if k = b then (((s2.push (s2.newIn d a b)).call_ a (-1)).at_ k).map fun p => ({ p.1 with hd := p.1.hd + -1 }, p.2) else if k = a then ((s2.push (s2.newIn d a b)).at_ k).map fun p => ({ p.1 with hd := p.1.hd + -1 }, p.2) else (s2.push (s2.newIn d a b)).at_ k := fun k => by
    rw [Slb.at_call, Slb.at_call]
  have hnew1 : (((s2.push (s2.newIn d a b)).call_ a (-1)).call_ b (-1)).at_ ((s2.sl.length : Int) + 1) = some (s2.newIn d a b, 1) := by
    rw [hS, if_neg (by omega), if_neg (by omega), Slb.at_push, if_pos rfl]
  have hsub2 : s2.Sub (((s2.push (s2.newIn d a b)).call_ a (-1)).call_ b (-1)) := ((Slb.Sub.push _ _).trans (Slb.Sub.call _ _ _)).trans (Slb.Sub.call _ _ _)
  have w1 := Slb.push_wf B2.wf hnwf hl5
  refine ⟨fun h => ?_, fun h => ?_, ?_, ?_, hl5, ?_, w1, by rw [g1]; split <;> omega, by rw [g2]; split <;> omega, ?_⟩
  · have ha : A ≠ [] := fun e => h (SA.z e).1
    obtain ⟨b1, b2, b3, b4, b5⟩ := SA.nz ha
    exact ⟨b2, by rw [b4]; decide⟩
  · have hb : B ≠ [] := fun e => h (SB.z e).1
    obtain ⟨b1, b2, b3, b4, b5⟩ := SB.nz hb
    exact ⟨b2, by rw [b4]; decide⟩
  · unfold fitsB
    by_cases ha : A = []
    · have hB0 : B ≠ [] := by intro e; rw [ha, e] at hsum; simp at hsum; omega
      obtain ⟨b1, b2, b3, b4, b5⟩ := SB.nz hB0
      have hB2 : 2 ≤ B.length := by rw [ha] at hsum; simp at hsum; omega
      rw [if_neg (fun h => b1 h.2), if_pos (SA.z ha).1, b3, decide_eq_true (b5.big hB2).1]
      exact fit_side true b5 (by omega) hB0 (fun y hy => (hbB y hy).1)
    · obtain ⟨a1, a2, a3, a4, a5⟩ := SA.nz ha
      by_cases hb : B = []
      · have hA2 : 2 ≤ A.length := by rw [hb] at hsum; simp at hsum; omega
        rw [if_neg (fun h => a1 h.1), if_neg a1, if_pos (SB.z hb).1, a3, decide_eq_true (a5.big hA2).1]
        exact fit_side false a5 (by omega) ha (fun y hy => (hbA y hy).1)
      · obtain ⟨b1, b2, b3, b4, b5⟩ := SB.nz hb
        have f1 := fit_side false a5 (by omega) ha (fun y hy => (hbA y hy).1)
        have f2 := fit_side true b5 (by omega) hb (fun y hy => (hbB y hy).1)
        rw [if_neg (fun h => a1 h.1), if_neg a1, if_neg b1, a3, b3]
        obtain ⟨y, hy⟩ := List.exists_mem_of_ne_nil A ha
        obtain ⟨z, hz⟩ := List.exists_mem_of_ne_nil B hb
        have hc : d ≤ com (s2.get_ a).key (s2.get_ b).key := by
          refine (com_ge (by omega)).2 fun t ht => ?_
          have e1 := a5.key y hy t (by omega)
          have e2 := b5.key z hz t (by omega)
          have e3 := hdK_agree hs y (hbA y hy).2 t ht
          have e4 := hdK_agree hs z (hbB z hz).2 t ht
          exact (e1.trans e3.symm).trans (e2.trans e4.symm).symm
        simp only [Bool.false_eq_true, if_false, if_true] at f1 f2
        rw [f1, f2, decide_eq_true (show (d : Int) ≤ (com (s2.get_ a).key (s2.get_ b).key : Int) by omega)]; rfl
  · rw [B2.used, hrm]; omega
  · rw [SA.sz, SB.sz]; omega
  · refine ⟨Slb.call_wf (Slb.call_wf w1 _ _) _ _, ?_, ?_, ?_, fun k hk => ?_, ?_, ?_, ?_, fun _ => ⟨by omega, ?_, ?_⟩, fun h => by rw [h] at h2; simp at h2⟩
    · rw [q2, p2]; exact B2.m
    · rw [q3, p3, q1, p1, hpl]; show s2.used + 1 = _; rw [B2.used]
    · rw [q4, p4]; exact hrm
    · have hk2 : s2.at_ k = s.at_ k := by rw [B2.old k (by have := B1.le; omega)]; exact B1.old k hk
      have hkp : (s2.push (s2.newIn d a b)).at_ k = s.at_ k := by rw [Slb.at_push, if_neg (by omega), hk2]
      have hz0 : k = 0 → s.at_ k = none := fun e => by rw [e]; exact Slb.at_zero s
      have hka : k = a → k = 0 := fun e => by
        by_cases ha : A = []
        · rw [e]; exact (SA.z ha).1
        · have := (B1.nz ha).1; omega
      have hkb : k = b → k = 0 := fun e => by
        by_cases hb : B = []
        · rw [e]; exact (SB.z hb).1
        · have := (B2.nz hb).1; have := B1.le; omega
      rw [hS]
      split
      · rename_i e
        rw [hz0 (hkb e), Slb.at_call, hkp, hz0 (hkb e)]; split <;> rfl
      · split
        · rename_i e; rw [hkp, hz0 (hka e)]; rfl
        · exact hkp
    · rw [q1, p1, hpl]; omega
    · rw [q1, p1, hpl]; omega
    · unfold Is
      rw [if_neg (by omega)]
      refine ⟨a, b, 1, 1, by rw [hnew1, hnew], ?_, ?_⟩
      · rw [hA]; exact B1.is.mono (B2.sub.trans hsub2)
      · rw [hBB]; exact B2.is.mono hsub2
    · rw [q1, p1, hpl]; omega
    · rw [(Slb.get_at hnew1).1, hnew]; rfl
end Go.Proofs.YtgffimanhmpohaaGreat
/- The tree of entries in a store: law08.Build. -/
namespace Go.Proofs.YtgffimanhmpohaaGreat
open Go Go.RowKit
theorem built_nil (s : Slb) (hs : s.wf) (hm : s.m = 0) (hu : s.used = s.sl.length) (f d : Nat) : Built s s f d [] 0 :=
  ⟨hs, hm, hu, rfl, fun _ _ => rfl, Nat.le_refl _, by simp, (Is.small (by simp)).2 rfl, fun h => absurd rfl h, fun _ => rfl⟩
theorem built_leaf (s : Slb) (hs : s.wf) (hm : s.m = 0) (hu : s.used = s.sl.length) (f d : Nat) (hd : d ≤ 256) (x : Pr) (hk : x.1.length = 32) (hl : s.sl.length < 65536) : Built s (s.push (leafN x.1 x.2 1)) f d [x] ((s.sl.length : Int) + 1) := by
  have hn : (leafN x.1 x.2 1).wf := ⟨leafH_len _ _, hk, valH_len _⟩
  have hat : (s.push (leafN x.1 x.2 1)).at_ ((s.sl.length : Int) + 1) = some (leafN x.1 x.2 1, 1) := by rw [Slb.at_push, if_pos rfl]
  have hpl : (s.push (leafN x.1 x.2 1)).sl.length = s.sl.length + 1 := by unfold Slb.push; simp
  refine ⟨Slb.push_wf hs hn hl, hm, by rw [hpl]; show s.used + 1 = _; rw [hu], rfl, fun k hk => by rw [Slb.at_push, if_neg (by omega)], by omega, by rw [hpl]; simp; omega, (Is.small (by simp)).2 ⟨1, 1, hat⟩, fun _ => ⟨by omega, by rw [hpl]; omega, by rw [(Slb.get_at hat).1]; rfl⟩, fun h => by cases h⟩
abbrev bldC (s t : Slb) (d : Nat) (l : List Pr) (h : Int) : Prop := VX Tryz.prog 7 s.sx [] [] [.ptr 0 [], .sl prT (l.map prA) none, .v (.int .i64 (d : Int))] t.sx [] [] (.tup [.v (.int .i64 h), .v (.bool true)])
set_option maxRecDepth 20000 in
theorem bld_nil (s : Slb) (d : Nat) : bldC s s d [] 0 := by
  unfold bldC
  simp only [Slb.sx, List.map_nil]
  refine mE Tryz.func7 ?_; intro N w0 a w hN hR H
  refine mW ?_; clear H; intro a w H
  refine mC H (fun hb => ?_) (fun hb => ?_)
  · refine mW ?_; clear H; intro a w H
    refine wp_ret ?_; exact mEnd [0, 1, 2, 3] [] [.tmp 6, .tmp 7] [_, _] hN hR H
  · exact absurd hb (by decide)
set_option maxRecDepth 20000 in
theorem bld_leaf (s : Slb) (hs : s.wf) (hm : s.m = 0) (hu : s.used < s.room) (d : Nat) (x : Pr) (hk : x.1.length = 32) (hv : x.2.length ≤ 1024) (hl : s.sl.length < 65536) : bldC s (s.push (leafN x.1 x.2 1)) d [x] ((s.sl.length : Int) + 1) := by
  have hc := stoLeaf_v s hs hm hu hl x.1 x.2 hk hv
  unfold bldC
  obtain ⟨k, v⟩ := x
  dsimp only at hk hv hc ⊢
  generalize s.push (leafN k v 1) = t at *
  simp only [Slb.sx] at hc ⊢
  simp only [List.map_cons, List.map_nil, prA]
  generalize s.sl.map slA = es at *
  generalize s.fs.map inA = fs at *
  have hg : ([.st [.ba k, .bs v none]] : List AV).getD 0 .any = .st [.ba k, .bs v none] := rfl
  refine mE Tryz.func7 ?_; intro N w0 a w hN hR H
  have hX := And.intro @hk (@hg)
  refine mW ?_; clear H; intro a w H
  refine mC H (fun hb => ?_) (fun hb => ?_)
  · exact absurd hb (by decide)
  · clear hb
    refine mW ?_; clear H; intro a w H
    refine mC H (fun hb => ?_) (fun hb => ?_)
    · clear hb
      refine mS ?_
      replace H := mK [0, 1, 2, 6, 7] 4 0 hN hR H
      refine mS ?_; refine mD 0 [9] [] H ?_; clear H; intro gS H
      refine mTN 3 hN H ?_; clear H; intro a w H; simp only [List.drop_succ_cons, List.drop_zero, List.drop_nil]
      refine mTN 4 hN H ?_; clear H; intro a w H; simp only [List.drop_succ_cons, List.drop_zero, List.drop_nil]
      refine mT ?_; clear H; intro a w H
      refine mCallT [0, 1, 2, 3] [] (hc) H ?_; clear H; intro a w H
      refine mT ?_; clear H; intro a w H
      refine v_drawNil H ?_; clear H; intro H
      refine mW ?_; clear H; intro a w H
      refine wp_ret ?_; exact mEnd [0, 1, 2, 3] [] [.tmp 6, .tmp 7] [_, _] hN hR H
    · simp at hb
set_option maxRecDepth 20000 in
set_option maxHeartbeats 8000000 in
theorem bld_join (s s1 s2 s3 : Slb) (d : Nat) (hd : d < 256) (l : List Pr) (hK : K32 l) (h2 : 2 ≤ l.length) (hll : l.length ≤ 100000) (a b : Int)
    (c1 : bldC s s1 (d + 1) (halfP false d l) a) (c2 : bldC s1 s2 (d + 1) (halfP true d l) b) (h : Int)
    (c3 : VX Tryz.prog 36 s2.sx [] [] [.ptr 0 [], .v (.int .i64 (d : Int)), .v (.int .i64 a), .v (.int .i64 b)] s3.sx [] [] (.tup [.v (.int .i64 h), errv 0])) : bldC s s3 d l h := by
  have hsum := halfP_sum d l
  have hfA : halfP false d (l.take l.length) = halfP false d l := by rw [List.take_length]
  have hfB : halfP true d (l.take l.length) = halfP true d l := by rw [List.take_length]
  unfold bldC at *
  rw [show ((d + 1 : Nat) : Int) = (d : Int) + 1 by omega] at c1 c2
  have hlm : (l.map prA).length = l.length := List.length_map ..
  simp only [Slb.sx] at c1 c2 c3 ⊢
  generalize s.sl.map slA = es at *
  generalize s.fs.map inA = fs at *
  have d1 : decide ((l.length : Int) = 0) = false := decide_eq_false (by omega)
  have d2 : decide ((l.length : Int) = 1) = false := decide_eq_false (by omega)
  have d3 : decide ((255 : Int) < (d : Int)) = false := decide_eq_false (by omega)
  refine mE Tryz.func7 ?_; intro N w0 a w hN hR H
  have hX := And.intro @hlm (And.intro @d1 (And.intro @d2 (@d3)))
  refine mW ?_; clear H; intro a w H
  refine mC H (fun hb => ?_) (fun hb => ?_)
  · exact absurd hb (by decide)
  · clear hb
    refine mS ?_
    (try refine wp_region_lit ?_); refine mN 3 hN H ?_; clear H; intro a w H
    (try refine wp_region_lit ?_); refine mN 4 hN H ?_; clear H; intro a w H
    refine mW ?_; clear H; intro a w H
    refine mC H (fun hb => ?_) (fun hb => ?_)
    · exact absurd hb (by decide)
    · clear hb
      refine mS ?_
      replace H := mK [0, 1, 2, 6, 7] 4 0 hN hR H
      refine mW ?_; clear H; intro a w H
      replace H := v_nilX tab_ok H 4 0 53 (j := ti53) prT rfl (by decide) rfl rfl
      replace H := v_nilX tab_ok H 4 1 53 (j := ti53) prT rfl (by decide) rfl rfl
      simp only [List.set_cons_succ, List.set_cons_zero, List.length_cons, List.length_nil, Nat.reduceAdd, List.cons_append, List.nil_append] at H
      refine v_loop (fun k : Nat => ⟨[(11, none, .v (.int .i64 (k : Int))), (10, none, .ptr 4 []), (7, none, .v (.bool false)), (6, none, .v (.int .i64 0)), (0, none, .ptr 0 []), (1, none, .sl prT (l.map prA) none), (2, none, .v (.int .i64 (d : Int)))], [(stoT, .st [.ptr 1 []]), (slbT, .st [.vw 2 s.γ s.sl.length, .vw 3 s.δ s.m, .v (.int .i64 (s.room : Int)), .v (.int .i64 (s.used : Int))]), (.vc 148 sltT, .vc s.γ es), (.vc 3 .sc, .vc s.δ fs), (.cn .sc (.cn .sc .nl), .st [.sl prT ((halfP false d (l.take k)).map prA) (some 0), .sl prT ((halfP true d (l.take k)).map prA) (some 1)])], [], [(53, (halfP false d (l.take k)).length), (53, (halfP true d (l.take k)).length)]⟩) (fun k => k ≤ l.length) (fun k => l.length - k) 0 (Nat.zero_le _)
        (H.to 5 2 ⟨Nat.le_trans hN (Nat.le_of_ble_eq_true rfl), Nat.le_trans hR (Nat.zero_le _)⟩ ⟨rfl, rfl, rfl, rfl, rfl, rfl, rfl, trivial⟩ rfl rfl rfl rfl rfl) ?_
      clear H
      intro k a' w hk2 H
      have hf1 : (halfP false d (l.take k)).length ≤ l.length := Nat.le_trans (halfP_le _ _ _) (List.length_take_le' _ _)
      have hf2 : (halfP true d (l.take k)).length ≤ l.length := Nat.le_trans (halfP_le _ _ _) (List.length_take_le' _ _)
      have hx1 : ((halfP false d (l.take k)).map prA).length = (halfP false d (l.take k)).length := List.length_map ..
      have hx2 : ((halfP true d (l.take k)).map prA).length = (halfP true d (l.take k)).length := List.length_map ..
      clear hX; have hX := And.intro @hlm (And.intro @hx1 (@hx2))
      refine mW ?_; clear H; intro a w H
      refine mC H (fun hb => ?_) (fun hb => ?_)
      · have hlt : k < l.length := by rw [decide_eq_true_eq] at hb; omega
        clear hb
        have g1 := prA_get l k hlt
        have w1 := hK _ (List.getElem_mem hlt)
        have hbit := bit_v l[k].1 w1 (d : Int)
        have hpb : pbit l[k].1 (d : Int) = if bitN l[k].1 d then 1 else 0 := by unfold pbit; rw [if_pos (by omega), Int.toNat_natCast]
        have y0 := halfP_yes false d l k hlt
        have y1 := halfP_yes true d l k hlt
        have n0 := halfP_no false d l k hlt
        have n1 := halfP_no true d l k hlt
        have q0 := prs_app (halfP false d (l.take k)) l[k]
        have q1 := prs_app (halfP true d (l.take k)) l[k]
        generalize l[k] = q at *
        obtain ⟨kb, vb⟩ := q
        dsimp only at g1 w1 hbit hpb y0 y1 n0 n1 q0 q1
        rw [hpb] at hbit
        revert a' w
        apply cutG7 (R := fun a w => Rel Tryz.prog w0 N Tryz.f7.ntmps ⟨[(11, none, .v (.int .i64 (k : Int))), (10, none, .ptr 4 []), (7, none, .v (.bool false)), (6, none, .v (.int .i64 0)), (0, none, .ptr 0 []), (1, none, .sl prT (l.map prA) none), (2, none, .v (.int .i64 (d : Int)))], [(stoT, .st [.ptr 1 []]), (slbT, .st [.vw 2 s.γ s.sl.length, .vw 3 s.δ s.m, .v (.int .i64 (s.room : Int)), .v (.int .i64 (s.used : Int))]), (.vc 148 sltT, .vc s.γ es), (.vc 3 .sc, .vc s.δ fs), (.cn .sc (.cn .sc .nl), .st [.sl prT ((halfP false d (l.take (k + 1))).map prA) (some 0), .sl prT ((halfP true d (l.take (k + 1))).map prA) (some 1)])], [], [(53, (halfP false d (l.take (k + 1))).length), (53, (halfP true d (l.take (k + 1))).length)]⟩ a w)
        · intro key1 a' w H
          cases hbb : bitN kb d with
          | true =>
            rw [hbb, if_pos rfl] at hbit
            have hbt : bits .and .i64 1 1 = 1 := by decide
            have e0 := n0 (by rw [hbb]; rfl)
            have e1 := y1 hbb
            have hX := And.intro hX (And.intro g1 hbt)
            refine mS ?_
            (try refine wp_region_lit ?_); refine mN 3 hN H ?_; clear H; intro a w H
            refine mW ?_; clear H; intro a w H
            refine mCall [] [] (hbit) H ?_; clear H; intro a w H; try refine wpList_nil ?_
            refine mW ?_; clear H; intro a w H
            replace H := mK [0, 1, 2, 6, 7, 10, 11, 12] 5 2 hN hR H
            have hY := w1
            repeat (first | refine wp_seq ?_ | refine wp_block ?_)
            refine v_drawZ 0 [0, 1, 4, 5, 6, 7, 2, 3, 8, 9, 10, 11] [2, 3, 8, 9, 11] [0, 1, 4, 5, 6, 7] [(2, 8), (3, 8)] (by kernel_rfl) (by kernel_rfl) (by kernel_rfl) (by kernel_rfl) (by kernel_rfl) H (by rfl) ?_; clear H; intro gS H; try replace H := ntf H
            repeat' ((first | refine wpZ_q1 rfl rfl ?_ | refine wpZ_l1 rfl rfl rfl ?_ | refine wpZ_l2 rfl rfl rfl rfl rfl ?_ ?_ | refine wpZ_l3 rfl rfl rfl rfl rfl rfl rfl ?_ ?_ ?_ | refine wpZ_l4 rfl rfl rfl rfl rfl rfl rfl rfl rfl ?_ ?_ ?_ ?_) <;> ((first | (refine v_someT 1 tab_ok hN H rfl ctX ?_; clear H; intro a w H; replace H := ntf H; simp only [List.drop_succ_cons, List.drop_zero, List.drop_nil])); refine wpT_nil ?_; try dsimp only))
            all_goals (refine wpZ_nil ?_; replace H := RelT.toRel H)
            all_goals
              refine mS ?_
              exact key1 _ _ (H.to 5 2 ⟨Nat.le_trans hN (Nat.le_of_ble_eq_true rfl), Nat.le_trans hR (Nat.zero_le _)⟩ ⟨rfl, rfl, rfl, rfl, rfl, rfl, rfl, trivial⟩ (by dsimp only; rw [e0, e1]; rw [q1]; rfl) (by rw [e0, e1]; rw [List.length_append]; rfl) rfl rfl rfl)
          | false =>
            rw [hbb, if_neg (by decide)] at hbit
            have hbt : bits .and .i64 0 1 = 0 := by decide
            have e0 := y0 hbb
            have e1 := n1 (by rw [hbb]; rfl)
            have hX := And.intro hX (And.intro g1 hbt)
            refine mS ?_
            (try refine wp_region_lit ?_); refine mN 3 hN H ?_; clear H; intro a w H
            refine mW ?_; clear H; intro a w H
            refine mCall [] [] (hbit) H ?_; clear H; intro a w H; try refine wpList_nil ?_
            refine mW ?_; clear H; intro a w H
            replace H := mK [0, 1, 2, 6, 7, 10, 11, 12] 5 2 hN hR H
            have hY := w1
            repeat (first | refine wp_seq ?_ | refine wp_block ?_)
            refine v_drawZ 0 [0, 1, 4, 5, 6, 7, 2, 3, 8, 9, 10, 11] [2, 3, 8, 9, 11] [0, 1, 4, 5, 6, 7] [(2, 8), (3, 8)] (by kernel_rfl) (by kernel_rfl) (by kernel_rfl) (by kernel_rfl) (by kernel_rfl) H (by rfl) ?_; clear H; intro gS H; try replace H := ntf H
            repeat' ((first | refine wpZ_q1 rfl rfl ?_ | refine wpZ_l1 rfl rfl rfl ?_ | refine wpZ_l2 rfl rfl rfl rfl rfl ?_ ?_ | refine wpZ_l3 rfl rfl rfl rfl rfl rfl rfl ?_ ?_ ?_ | refine wpZ_l4 rfl rfl rfl rfl rfl rfl rfl rfl rfl ?_ ?_ ?_ ?_) <;> ((first | (refine v_someT 1 tab_ok hN H rfl ctX ?_; clear H; intro a w H; replace H := ntf H; simp only [List.drop_succ_cons, List.drop_zero, List.drop_nil])); refine wpT_nil ?_; try dsimp only))
            all_goals (refine wpZ_nil ?_; replace H := RelT.toRel H)
            all_goals
              refine mS ?_
              exact key1 _ _ (H.to 5 2 ⟨Nat.le_trans hN (Nat.le_of_ble_eq_true rfl), Nat.le_trans hR (Nat.zero_le _)⟩ ⟨rfl, rfl, rfl, rfl, rfl, rfl, rfl, trivial⟩ (by dsimp only; rw [e0, e1]; rw [q0]; rfl) (by rw [e0, e1]; rw [List.length_append]; rfl) rfl rfl rfl)
        intro a' w H
        refine mW ?_; clear H; intro a w H
        rw [show (k : Int) + 1 = ((k + 1 : Nat) : Int) by omega] at H
        exact ⟨k + 1, hlt, by omega, H.to 5 2 ⟨Nat.le_trans hN (Nat.le_of_ble_eq_true rfl), Nat.le_trans hR (Nat.zero_le _)⟩ ⟨rfl, rfl, rfl, rfl, rfl, rfl, rfl, trivial⟩ rfl rfl rfl rfl rfl⟩
      · have hge : k = l.length := by rw [decide_eq_false_iff_not] at hb; omega
        clear hb
        subst hge
        rw [hfA, hfB] at H
        rw [hfA] at hx1
        rw [hfB] at hx2
        clear hf1 hf2
        generalize hA : halfP false d l = A at *
        generalize hB : halfP true d l = B at *
        refine mW ?_; clear H; intro a w H
        refine mC H (fun hb => ?_) (fun hb => ?_)
        · exfalso
          rw [hx1, hx2] at hb
          have h3 : A.length = l.length ∧ B.length = l.length := by
            by_cases e1 : A.length = l.length
            · refine ⟨e1, ?_⟩
              rw [decide_eq_true (show (A.length : Int) = (l.length : Int) by omega)] at hb
              have : decide ((B.length : Int) = (l.length : Int)) = true := hb
              rw [decide_eq_true_eq] at this; omega
            · rw [decide_eq_false (show ¬ (A.length : Int) = (l.length : Int) by omega)] at hb; cases hb
          omega
        · clear hb
          refine mS ?_
          replace H := mK [0, 1, 2, 6, 7, 10, 11] 5 2 hN hR H
          refine mW ?_; clear H; intro a w H
          refine mCall [0, 1, 2, 3] [] (c1) H ?_; clear H; intro a w H; try refine wpList_nil ?_
          refine mW ?_; clear H; intro a w H
          refine mCall [0, 1, 2, 3] [] (c2) H ?_; clear H; intro a w H; try refine wpList_nil ?_
          refine mW ?_; clear H; intro a w H
          refine mC H (fun hb => ?_) (fun hb => ?_)
          · exact absurd hb (by decide)
          · clear hb
            refine mW ?_; clear H; intro a w H
            refine mCall [0, 1, 2, 3] [] (c3) H ?_; clear H; intro a w H; try refine wpList_nil ?_
            refine mW ?_; clear H; intro a w H
            refine wp_ret ?_; exact mEnd [0, 1, 2, 3] [] [.tmp 6, .tmp 7] [_, _] hN hR H
end Go.Proofs.YtgffimanhmpohaaGreat
/- Every node of the store (plain). -/
namespace Go.Proofs.YtgffimanhmpohaaGreat
open Go Go.RowKit
/-- Every node's value is short, and every inner node has a tree below it. -/
def Slb.All (s : Slb) : Prop := ∀ k x c, s.at_ k = some (x, c) → x.val.length ≤ 1024 ∧ (x.k = 2 → ∃ (f d : Nat) (l : List Pr), f + d = 256 ∧ Sep d (dgs l) ∧ Is s f d l k ∧ x.d = (d : Int))
/-- Only how often nodes are held has changed, and what is new is a node of its own. -/
theorem Slb.All.next {s t : Slb} (ha : s.All) (hst : s.Sub t) (h : ∀ k x c, t.at_ k = some (x, c) → (∃ x' c', s.at_ k = some (x', c') ∧ x.k = x'.k ∧ x.d = x'.d ∧ x.val = x'.val) ∨ (x.val.length ≤ 1024 ∧ (x.k = 2 → ∃ (f d : Nat) (l : List Pr), f + d = 256 ∧ Sep d (dgs l) ∧ Is t f d l k ∧ x.d = (d : Int)))) : t.All := by
  intro k x c hk
  rcases h k x c hk with ⟨x', c', h1, h2, h3, h4⟩ | h1
  · obtain ⟨g1, g2⟩ := ha k x' c' h1
    refine ⟨by rw [h4]; exact g1, fun e => ?_⟩
    obtain ⟨f, d, l, e1, e2, e3, e4⟩ := g2 (by rw [← h2]; exact e)
    exact ⟨f, d, l, e1, e2, e3.mono hst, by rw [h3]; exact e4⟩
  · exact h1
theorem Slb.All.leaf {s : Slb} (ha : s.All) (k v : List UInt8) (hv : v.length ≤ 1024) : (s.push (leafN k v 1)).All := by
  refine ha.next (Slb.Sub.push _ _) fun h x c hh => ?_
  rw [Slb.at_push] at hh
  split at hh
  · simp only [Option.some.injEq, Prod.mk.injEq] at hh
    obtain ⟨rfl, _⟩ := hh
    exact .inr ⟨hv, fun e => absurd (show (1 : UInt8) = 2 from e) (by decide)⟩
  · exact .inl ⟨x, c, hh, rfl, rfl, rfl⟩
theorem Slb.at_call_some {s : Slb} {h b k : Int} {x : SN} {c : Nat} (hh : (s.call_ h b).at_ k = some (x, c)) : ∃ x', s.at_ k = some (x', c) ∧ x.k = x'.k ∧ x.d = x'.d ∧ x.val = x'.val := by
  rw [Slb.at_call] at hh
  split at hh
  · rename_i e
    cases hat : s.at_ k with
    | none => rw [hat] at hh; cases hh
    | some p =>
      rw [hat] at hh
      simp only [Option.map_some, Option.some.injEq, Prod.mk.injEq] at hh
      obtain ⟨h1, h2⟩ := hh
      obtain ⟨y, c'⟩ := p
      dsimp only at h1 h2
      subst h2
      exact ⟨y, rfl, by rw [← h1], by rw [← h1], by rw [← h1]⟩
  · exact ⟨x, hh, rfl, rfl, rfl⟩
theorem Slb.All.join {s2 : Slb} (ha : s2.All) (a b : Int) {f d : Nat} {l : List Pr} (hfd : f + d = 256) (hs : Sep d (dgs l)) (hi : Is (((s2.push (s2.newIn d a b)).call_ a (-1)).call_ b (-1)) f d l ((s2.sl.length : Int) + 1)) : (((s2.push (s2.newIn d a b)).call_ a (-1)).call_ b (-1)).All := by
  refine ha.next (((Slb.Sub.push _ _).trans (Slb.Sub.call _ _ _)).trans (Slb.Sub.call _ _ _)) fun k x c hk => ?_
  obtain ⟨x1, h1, e1, e2, e3⟩ := Slb.at_call_some hk
  obtain ⟨x2, h2, f1, f2, f3⟩ := Slb.at_call_some h1
  rw [Slb.at_push] at h2
  split at h2
  · rename_i e
    simp only [Option.some.injEq, Prod.mk.injEq] at h2
    obtain ⟨h3, _⟩ := h2
    refine .inr ⟨by rw [e3, f3, ← h3]; exact Nat.zero_le _, fun _ => ⟨f, d, l, hfd, hs, by rw [e]; exact hi, by rw [e2, f2, ← h3]; rfl⟩⟩
  · exact .inl ⟨x2, c, h2, by rw [e1, f1], by rw [e2, f2], by rw [e3, f3]⟩
end Go.Proofs.YtgffimanhmpohaaGreat
/- The way down in a store: walk.other. -/
namespace Go.Proofs.YtgffimanhmpohaaGreat
open Go Go.RowKit
/-- A node's side on a key's way, and the other one. -/
def Slb.oth (s : Slb) (key : List UInt8) (h : Int) : Int × Int :=
  if pbit key (if s.ok_ h then (s.get_ h).d else -1) = 0 then ((s.get_ h).l, (s.get_ h).r) else ((s.get_ h).r, (s.get_ h).l)
set_option maxRecDepth 20000 in
theorem other_v (s : Slb) (hs : s.wf) (key : List UInt8) (hk : key.length = 32) (h : Int) : VX Tryz.prog 42 s.sx [] [] [.ptr 0 [], .v (.int .i64 h), .ba key] s.sx [] [] (.tup [.v (.int .i64 (s.oth key h).1), .v (.int .i64 (s.oth key h).2)]) := by
  have h1 := stoSides_v s hs h
  have h2 := stoDepth_v s hs h
  unfold Slb.oth
  generalize (if s.ok_ h then (s.get_ h).d else -1) = d at *
  have h3 := bit_v key hk d
  generalize pbit key d = b at *
  generalize (s.get_ h).l = l at *
  generalize (s.get_ h).r = r at *
  simp only [Slb.sx] at h1 h2 ⊢
  generalize s.sl.map slA = es at *
  generalize s.fs.map inA = fs at *
  refine mE Tryz.func42 ?_; intro N w0 a w hN hR H
  have hX := @hk
  refine mW ?_; clear H; intro a w H
  refine mCall [0, 1, 2, 3] [] (h1) H ?_; clear H; intro a w H; try refine wpList_nil ?_
  refine mW ?_; clear H; intro a w H
  replace H := v_ref H 5 4 (Nat.le_trans hN (Nat.le_of_ble_eq_true rfl)) rfl rfl rfl
  simp only [List.set_cons_succ, List.set_cons_zero, List.length_cons, List.length_nil, Nat.reduceAdd, List.cons_append, List.nil_append] at H
  refine mS ?_; refine mD 0 [3, 4] [0] H ?_; clear H; intro gS H
  refine mTN 3 hN H ?_; clear H; intro a w H; simp only [List.drop_succ_cons, List.drop_zero, List.drop_nil]
  refine mT ?_; clear H; intro a w H
  refine mCallT [0, 1, 2, 3] [] (h2) H ?_; clear H; intro a w H
  refine mT ?_; clear H; intro a w H
  refine mCallT [] [] (h3) H ?_; clear H; intro a w H
  refine mT ?_; clear H; intro a w H
  refine v_drawNil H ?_; clear H; intro H
  refine mW ?_; clear H; intro a w H
  refine mC H (fun hb => ?_) (fun hb => ?_)
  · have e : b = 0 := by simpa using hb
    subst e
    rw [if_pos rfl]
    refine mW ?_; clear H; intro a w H
    refine wp_ret ?_; exact mEnd [0, 1, 2, 3] [] [.tmp 6, .tmp 7] [_, _] hN hR H
  · have e : ¬ b = 0 := by simpa using hb
    rw [if_neg e]
    refine mW ?_; clear H; intro a w H
    refine wp_ret ?_; exact mEnd [0, 1, 2, 3] [] [.tmp 6, .tmp 7] [_, _] hN hR H
def Slb.wayH (s : Slb) (key : List UInt8) : Nat → Int → List Int
  | 0, _ => []
  | f + 1, h => if (s.get_ h).k = 2 then h :: s.wayH key f (s.oth key h).1 else []
def Slb.endH (s : Slb) (key : List UInt8) : Nat → Int → Int
  | 0, h => h
  | f + 1, h => if (s.get_ h).k = 2 then s.endH key f (s.oth key h).1 else h
/-- A way down that comes to an end. -/
def Slb.ends (s : Slb) (key : List UInt8) : Nat → Int → Prop
  | 0, h => (s.get_ h).k ≠ 2
  | f + 1, h => (s.get_ h).k = 2 → s.ends key f (s.oth key h).1
structure Wh (s : Slb) (key : List UInt8) (W : List Int) (E : Int) (i : Nat × Int × List Int) : Prop where
  e : s.ends key i.1 i.2.1
  n : i.1 + i.2.2.length = 256
  w : i.2.2 ++ s.wayH key i.1 i.2.1 = W
  z : s.endH key i.1 i.2.1 = E
theorem Wh.go {s : Slb} {key : List UInt8} {W : List Int} {E : Int} {f : Nat} {h : Int} {l : List Int} (hw : Wh s key W E (f, h, l)) (hk : (s.get_ h).k = 2) : ∃ g, f = g + 1 ∧ Wh s key W E (g, (s.oth key h).1, l ++ [h]) := by
  obtain ⟨e, n, w, z⟩ := hw
  dsimp only at e n w z
  cases f with
  | zero => exact absurd hk e
  | succ g =>
    rw [Slb.wayH, if_pos hk] at w
    rw [Slb.endH, if_pos hk] at z
    exact ⟨g, rfl, e hk, by dsimp only; rw [List.length_append]; simp; omega, by dsimp only; rw [List.append_assoc]; exact w, z⟩
theorem Wh.stop {s : Slb} {key : List UInt8} {W : List Int} {E : Int} {f : Nat} {h : Int} {l : List Int} (hw : Wh s key W E (f, h, l)) (hk : (s.get_ h).k ≠ 2) : l = W ∧ h = E := by
  obtain ⟨e, n, w, z⟩ := hw
  dsimp only at e n w z
  cases f with
  | zero => rw [Slb.wayH, List.append_nil] at w; exact ⟨w, z⟩
  | succ g =>
    rw [Slb.wayH, if_neg hk, List.append_nil] at w
    rw [Slb.endH, if_neg hk] at z
    exact ⟨w, z⟩
theorem ins_app (l : List Int) (h : Int) : l.map inA ++ [.v (.int .i64 h)] = (l ++ [h]).map inA := by rw [List.map_append]; rfl
set_option maxRecDepth 20000 in
theorem handles_v (s : Slb) (hs : s.wf) (key : List UInt8) (hk : key.length = 32) (h : Int) (he : s.rootE h = 0) (hn : s.ends key 256 h) : VX Tryz.prog 41 s.sx [] [] [.ptr 0 [], .v (.int .i64 h), .ba key] s.sx [] [(3, (s.wayH key 256 h).length)] (.tup [.sl .sc ((s.wayH key 256 h).map inA) (some 0), .v (.int .i64 (s.endH key 256 h)), errv 0]) := by
  have h1 := stoRoot_v s hs h
  rw [he] at h1
  have hm0 : Wh s key (s.wayH key 256 h) (s.endH key 256 h) (256, h, []) := ⟨hn, rfl, rfl, rfl⟩
  generalize s.wayH key 256 h = W at *
  generalize s.endH key 256 h = E at *
  clear hn he
  have hkd := stoKind_v s hs
  have hot := other_v s hs key hk
  simp only [Slb.sx] at h1 hkd hot ⊢
  generalize s.sl.map slA = es at *
  generalize s.fs.map inA = fs at *
  refine mE Tryz.func41 ?_; intro N w0 a w hN hR H
  have hX := @hk
  refine mW ?_; clear H; intro a w H
  refine mCall [0, 1, 2, 3] [] (h1) H ?_; clear H; intro a w H; try refine wpList_nil ?_
  refine mW ?_; clear H; intro a w H
  refine mC H (fun hb => ?_) (fun hb => ?_)
  · simp at hb
  · clear hb
    refine mW ?_; clear H; intro a w H
    replace H := v_nilE tab_ok H 6 3 .sc (j := ti3) rfl (by decide) rfl
    simp only [nilT, Nat.reduceEqDiff, reduceIte] at H
    refine v_loop (fun i : Nat × Int × List Int => ⟨[(7, none, .v (.int .i64 i.2.1)), (6, none, .sl .sc (i.2.2.map inA) (some 0)), (5, none, .ptr 4 []), (0, none, .ptr 0 [])], stoB s.γ s.δ s.sl.length s.m s.room s.used es fs ++ [(.ba 32, .ba key)], [], [(3, i.2.2.length)]⟩) (Wh s key W E) (fun i => i.1) (256, h, []) hm0
      (H.to 5 1 ⟨Nat.le_trans hN (Nat.le_of_ble_eq_true rfl), Nat.le_trans hR (Nat.zero_le _)⟩ ⟨rfl, rfl, rfl, rfl, trivial⟩ rfl rfl rfl rfl rfl) ?_
    clear H hm0
    rintro ⟨f, x, l⟩ a w hwy H
    dsimp only [List.cons_append, List.nil_append] at H
    have hlm : (l.map inA).length = l.length := List.length_map ..
    have hl6 := hwy.n
    dsimp only at hl6
    have hkx := hkd x
    have hox := hot x
    have hgo := fun h => hwy.go h
    have hst := fun h => hwy.stop h
    generalize (s.get_ x).k = kk at *
    generalize (s.oth key x).1 = y at *
    generalize (s.oth key x).2 = z at *
    clear hX; have hX := And.intro @hk (@hlm)
    refine mW ?_; clear H; intro a w H
    refine mCall [0, 1, 2, 3] [] (hkx) H ?_; clear H; intro a w H; try refine wpList_nil ?_
    refine mW ?_; clear H; intro a w H
    refine mC H (fun hb => ?_) (fun hb => ?_)
    · have e : kk = 2 := by
        rw [decide_eq_true_eq] at hb
        exact UInt8.toNat_inj.1 (by have : ((2 : UInt8).toNat : Int) = 2 := rfl; omega)
      obtain ⟨g, e1, e2⟩ := hgo e
      clear hb
      refine mW ?_; clear H; intro a w H
      refine mCall [0, 1, 2, 3] [] (hox) H ?_; clear H; intro a w H; try refine wpList_nil ?_
      refine mW ?_; clear H; intro a w H
      exact ⟨(g, y, l ++ [x]), e2, by dsimp only; omega, H.to 5 1 ⟨Nat.le_trans hN (Nat.le_of_ble_eq_true rfl), Nat.le_trans hR (Nat.zero_le _)⟩ ⟨rfl, (by dsimp only; rw [← ins_app]; rfl), rfl, rfl, trivial⟩ rfl (by dsimp only; rw [List.length_append]; rfl) rfl rfl rfl⟩
    · have e : kk ≠ 2 := fun e => by rw [e] at hb; exact absurd hb (by decide)
      obtain ⟨e1, e2⟩ := hst e
      clear hb
      subst e1 e2
      refine mW ?_; clear H; intro a w H
      refine wp_ret ?_; exact mEnd [0, 1, 2, 3] [0] [.tmp 6, .tmp 7, .tmp 8] [_, _, _] hN hR H
end Go.Proofs.YtgffimanhmpohaaGreat
/- walk.Find, walk.Depth. -/
namespace Go.Proofs.YtgffimanhmpohaaGreat
open Go Go.RowKit
attribute [local irreducible] wpT
set_option maxRecDepth 20000 in
theorem find_v (s : Slb) (hs : s.wf) (key : List UInt8) (hk : key.length = 32) (h E : Int) (n : Nat) (L : List AV) (hh : VX Tryz.prog 41 s.sx [] [] [.ptr 0 [], .v (.int .i64 h), .ba key] s.sx [] [(3, n)] (.tup [.sl .sc L (some 0), .v (.int .i64 E), errv 0])) (hE : ¬ ((s.get_ E).k = 1 ∧ (s.get_ E).key = key)) :
    VX Tryz.prog 15 s.sx [] [] [.ptr 0 [], .v (.int .i64 h), .ba key] s.sx [] [] (.tup [.v (.slice none 0 0), .v (.bool false), errv 0]) := by
  have h1 := stoKind_v s hs E
  have h2 := stoKey_v s hs E
  have h3 := (Slb.get_wf hs E).key
  generalize (s.get_ E).k = kk at *
  generalize (s.get_ E).key = kn at *
  simp only [Slb.sx] at h1 h2 hh ⊢
  generalize s.sl.map slA = es at *
  generalize s.fs.map inA = fs at *
  refine mE Tryz.func15 ?_; intro N w0 a w hN hR H
  have hX := And.intro @hk (@h3)
  refine mW ?_; clear H; intro a w H
  refine mCall [0, 1, 2, 3] [] (hh) H ?_; clear H; intro a w H; try refine wpList_nil ?_
  refine mW ?_; clear H; intro a w H
  replace H := mK [0, 5, 8, 10] 5 0 hN hR H
  replace H := v_ref H 5 4 (Nat.le_trans hN (Nat.le_of_ble_eq_true rfl)) rfl rfl rfl
  simp only [nilT, strip, Nat.reduceEqDiff, reduceIte, List.set_cons_succ, List.set_cons_zero, List.length_cons, List.length_nil, Nat.reduceAdd, List.cons_append, List.nil_append] at H
  refine mS ?_; refine mD 0 [5, 11] [12] H ?_; clear H; intro gS H
  refine mTN 5 hN H ?_; clear H; intro a w H; simp only [List.drop_succ_cons, List.drop_zero, List.drop_nil]
  refine mCallTG [0, 1, 2, 3] [] (h1) H ?_; clear H; intro a w H
  refine mTN 3 hN H ?_; clear H; intro a w H; simp only [List.drop_succ_cons, List.drop_zero, List.drop_nil]
  refine mTN 2 hN H ?_; clear H; intro a w H; simp only [List.drop_succ_cons, List.drop_zero, List.drop_nil]
  refine mCallTG [0, 1, 2, 3] [] (h2) H ?_; clear H; intro a w H
  refine mTN 1 hN H ?_; clear H; intro a w H; simp only [List.drop_succ_cons, List.drop_zero, List.drop_nil]
  refine mTN 1 hN H ?_; clear H; intro a w H; simp only [List.drop_succ_cons, List.drop_zero, List.drop_nil]
  refine mTN 1 hN H ?_; clear H; intro a w H; simp only [List.drop_succ_cons, List.drop_zero, List.drop_nil]
  refine v_drawNil H ?_; clear H; intro H
  refine mC H (fun hb => ?_) (fun hb => ?_)
  · clear hb
    refine mW ?_; clear H; intro a w H
    refine wp_ret ?_; exact mEnd [0, 1, 2, 3] [] [.tmp 6, .tmp 7, .tmp 8] [_, _, _] hN hR H
  · exfalso
    have e3 : kk = 1 ∧ kn = key := by
      by_cases e1 : kk = 1
      · refine ⟨e1, ?_⟩
        subst e1
        have : (!decide (kn = key)) = false := hb
        simpa using this
      · rw [decide_eq_false (show ¬ ((kk.toNat : Int) = 1) from fun e => e1 (UInt8.toNat_inj.1 (by have : ((1 : UInt8).toNat : Int) = 1 := rfl; omega)))] at hb
        cases hb
    exact hE e3
set_option maxRecDepth 20000 in
theorem findY_v (s : Slb) (hs : s.wf) (key : List UInt8) (hk : key.length = 32) (h E : Int) (n : Nat) (L : List AV) (hh : VX Tryz.prog 41 s.sx [] [] [.ptr 0 [], .v (.int .i64 h), .ba key] s.sx [] [(3, n)] (.tup [.sl .sc L (some 0), .v (.int .i64 E), errv 0])) (hE : (s.get_ E).k = 1 ∧ (s.get_ E).key = key) (hv : (s.get_ E).val.length ≤ 100000) :
    VX Tryz.prog 15 s.sx [] [] [.ptr 0 [], .v (.int .i64 h), .ba key] s.sx [] [(5, (s.get_ E).val.length)] (.tup [.bs (s.get_ E).val (some 0), .v (.bool true), errv 0]) := by
  have h1 := stoKind_v s hs E
  have h2 := stoKey_v s hs E
  have h4 := stoValue_v s hs E hv
  obtain ⟨e1, e2⟩ := hE
  rw [e1] at h1
  rw [e2] at h2
  generalize (s.get_ E).val = vv at *
  simp only [Slb.sx] at h1 h2 h4 hh ⊢
  generalize s.sl.map slA = es at *
  generalize s.fs.map inA = fs at *
  refine mE Tryz.func15 ?_; intro N w0 a w hN hR H
  have hX := And.intro @hk (@hv)
  refine mW ?_; clear H; intro a w H
  refine mCall [0, 1, 2, 3] [] (hh) H ?_; clear H; intro a w H; try refine wpList_nil ?_
  refine mW ?_; clear H; intro a w H
  replace H := mK [0, 5, 8, 10] 5 0 hN hR H
  replace H := v_ref H 5 4 (Nat.le_trans hN (Nat.le_of_ble_eq_true rfl)) rfl rfl rfl
  simp only [nilT, strip, Nat.reduceEqDiff, reduceIte, List.set_cons_succ, List.set_cons_zero, List.length_cons, List.length_nil, Nat.reduceAdd, List.cons_append, List.nil_append] at H
  refine mS ?_; refine mD 0 [5, 11] [12] H ?_; clear H; intro gS H
  refine mTN 5 hN H ?_; clear H; intro a w H; simp only [List.drop_succ_cons, List.drop_zero, List.drop_nil]
  refine mCallTG [0, 1, 2, 3] [] (h1) H ?_; clear H; intro a w H
  refine mTN 3 hN H ?_; clear H; intro a w H; simp only [List.drop_succ_cons, List.drop_zero, List.drop_nil]
  refine mTN 2 hN H ?_; clear H; intro a w H; simp only [List.drop_succ_cons, List.drop_zero, List.drop_nil]
  refine mCallTG [0, 1, 2, 3] [] (h2) H ?_; clear H; intro a w H
  refine mTN 1 hN H ?_; clear H; intro a w H; simp only [List.drop_succ_cons, List.drop_zero, List.drop_nil]
  refine mTN 1 hN H ?_; clear H; intro a w H; simp only [List.drop_succ_cons, List.drop_zero, List.drop_nil]
  refine mTN 1 hN H ?_; clear H; intro a w H; simp only [List.drop_succ_cons, List.drop_zero, List.drop_nil]
  refine v_drawNil H ?_; clear H; intro H
  refine mC H (fun hb => ?_) (fun hb => ?_)
  · simp at hb
  · clear hb
    refine mW ?_; clear H; intro a w H
    refine mCall [0, 1, 2, 3] [] (h4) H ?_; clear H; intro a w H; try refine wpList_nil ?_
    refine mW ?_; clear H; intro a w H
    refine wp_ret ?_; exact mEnd [0, 1, 2, 3] [0] [.tmp 6, .tmp 7, .tmp 8] [_, _, _] hN hR H
end Go.Proofs.YtgffimanhmpohaaGreat
/- walk.Way. -/
namespace Go.Proofs.YtgffimanhmpohaaGreat
open Go Go.RowKit
attribute [local irreducible] wpT
theorem inA_get (l : List Int) (k : Nat) (h : k < l.length) : (l.map inA).getD k .any = .v (.int .i64 l[k]) := by simp [inA, List.getD_eq_getElem?_getD, h]
def Slb.dsH (s : Slb) (key : List UInt8) (l : List Int) : List (List UInt8) := l.map fun h => s.dig (s.oth key h).2
theorem dsH_snoc (s : Slb) (key : List UInt8) (W : List Int) (k : Nat) (hk : k < W.length) : s.dsH key (W.take (k + 1)) = s.dsH key (W.take k) ++ [s.dig (s.oth key W[k]).2] := by
  unfold Slb.dsH; rw [List.take_succ_eq_append_getElem hk, List.map_append]; rfl
theorem nd_wf {s : Slb} (hs : s.wf) (h : Int) : (s.nd h).key.length = 32 ∧ (s.nd h).v.length = 32 ∧ (s.nd h).l.length = 32 ∧ (s.nd h).r.length = 32 := by
  obtain ⟨x1, x2, x3⟩ := Slb.get_wf hs h
  unfold Slb.nd
  split
  · exact ⟨x2, x3, z32_len, z32_len⟩
  · split
    · exact ⟨z32_len, z32_len, Slb.dig_len hs _, Slb.dig_len hs _⟩
    · exact ⟨z32_len, z32_len, z32_len, z32_len⟩
set_option maxRecDepth 20000 in
set_option maxHeartbeats 2000000 in
theorem way_v (s : Slb) (hs : s.wf) (key : List UInt8) (hk : key.length = 32) (h E : Int) (W : List Int) (hW : W.length ≤ 256) (hh : VX Tryz.prog 41 s.sx [] [] [.ptr 0 [], .v (.int .i64 h), .ba key] s.sx [] [(3, W.length)] (.tup [.sl .sc (W.map inA) (some 0), .v (.int .i64 E), errv 0])) :
    VX Tryz.prog 10 s.sx [] [] [.ptr 0 [], .v (.int .i64 h), .ba key] s.sx [] [(33, (s.dsH key W).length)] (.tup [.st [.sl (.ba 32) (bas (s.dsH key W)) (some 0), (s.nd E).av], errv 0]) := by
  have hot := other_v s hs key hk
  have hdg := stoDigest_v s hs
  have hdl := Slb.dig_len hs
  have hnd := stoNode_v s hs E
  have hm : (W.map inA).length = W.length := List.length_map ..
  have hds0 : s.dsH key (W.take 0) = [] := rfl
  have hdsW : s.dsH key (W.take W.length) = s.dsH key W := by rw [List.take_length]
  have hz2 := z32_len
  simp only [Slb.sx, Nd.av] at hh hot hdg hnd ⊢
  generalize s.sl.map slA = es at *
  generalize s.fs.map inA = fs at *
  refine mE Tryz.func10 ?_; intro N w0 a w hN hR H
  have hX := And.intro @hk (@hm)
  refine mW ?_; clear H; intro a w H
  refine mCall [0, 1, 2, 3] [] (hh) H ?_; clear H; intro a w H; try refine wpList_nil ?_
  refine mW ?_; clear H; intro a w H
  refine mC H (fun hb => ?_) (fun hb => ?_)
  · simp at hb
  · clear hb
    refine mW ?_; clear H; intro a w H
    replace H := v_nilX tab_ok H 5 0 33 (j := ti33) (.ba 32) rfl (by decide) rfl rfl
    simp only [List.set_cons_succ, List.set_cons_zero, List.length_cons, List.length_nil, Nat.reduceAdd, List.cons_append, List.nil_append] at H
    simp only [hz] at H
    have hsl0 : (s.dsH key (W.take 0)).length = 0 := rfl
    refine v_loop (fun k : Nat => ⟨[(28, none, .v (.int .i64 (k : Int))), (27, none, .v (.int .i64 (W.length : Int))), (26, none, .sl .sc (W.map inA) (some 0)), (9, none, .v (.int .i64 E)), (6, none, .ptr 5 []), (5, none, .ptr 4 []), (0, none, .ptr 0 [])],
      stoB s.γ s.δ s.sl.length s.m s.room s.used es fs ++ [(.ba 32, .ba key), (ti40.ty, .st [.sl (.ba 32) (bas (s.dsH key (W.take k))) (some 1), .st [.v (.int .u8 0), .ba z32, .ba z32, .ba z32, .ba z32]])], [], [(3, W.length), (33, (s.dsH key (W.take k)).length)]⟩)
      (fun k => k ≤ W.length) (fun k => W.length - k) 0 (Nat.zero_le _) (H.to 6 2 ⟨Nat.le_trans hN (Nat.le_of_ble_eq_true rfl), Nat.le_trans hR (Nat.zero_le _)⟩ ⟨rfl, rfl, rfl, rfl, rfl, rfl, rfl, trivial⟩ rfl rfl rfl rfl rfl) ?_
    clear H
    intro k a w hk2 H
    dsimp only [List.cons_append, List.nil_append] at H
    have hbl := bas_len (s.dsH key (W.take k))
    have hdk : (s.dsH key (W.take k)).length ≤ 256 := by unfold Slb.dsH; rw [List.length_map]; exact Nat.le_trans (List.length_take_le' _ _) hW
    clear hX; have hX := And.intro @hk (And.intro @hm (@hbl))
    refine mW ?_; clear H; intro a w H
    refine mC H (fun hb => ?_) (fun hb => ?_)
    · have hlt : k < W.length := by rw [decide_eq_true_eq] at hb; omega
      clear hb
      have g1 := inA_get W k hlt
      have hsn := dsH_snoc s key W k hlt
      have hox := hot W[k]
      have hdx := hdg (s.oth key W[k]).2
      have hdlx := hdl (s.oth key W[k]).2
      generalize s.dsH key (W.take k) = D at *
      generalize s.dig (s.oth key W[k]).2 = dx at *
      generalize (s.oth key W[k]).1 = o1 at *
      generalize (s.oth key W[k]).2 = o2 at *
      generalize W[k] = q at *
      refine mS ?_
      clear hX; have hX := And.intro @hk (And.intro @hm (And.intro @hbl (@g1)))
      (try refine wp_region_lit ?_); refine mN 1 hN H ?_; clear H; intro a w H
      refine mW ?_; clear H; intro a w H
      refine mCall [0, 1, 2, 3] [] (hox) H ?_; clear H; intro a w H; try refine wpList_nil ?_
      refine mW ?_; clear H; intro a w H
      replace H := mK [0, 5, 6, 9, 13, 26, 27, 28] 6 2 hN hR H
      clear hX; have hX := And.intro @hk (And.intro @hm (And.intro @hbl (@hdlx)))
      repeat (first | refine wp_seq ?_ | refine wp_block ?_)
      refine v_drawZ 0 [0, 2, 3, 1, 4, 5, 6, 7, 8] [1, 4, 5, 6, 8] [0, 2, 3] [(1, 4), (1, 5), (1005, 4)] (by kernel_rfl) (by kernel_rfl) (by kernel_rfl) (by kernel_rfl) (by kernel_rfl) H (by rfl) ?_; clear H; intro gS H; try replace H := ntf H
      repeat' ((first | refine wpZ_q1 rfl rfl ?_ | refine wpZ_l1 rfl rfl rfl ?_ | refine wpZ_l2 rfl rfl rfl rfl rfl ?_ ?_ | refine wpZ_l3 rfl rfl rfl rfl rfl rfl rfl ?_ ?_ ?_ | refine wpZ_l4 rfl rfl rfl rfl rfl rfl rfl rfl rfl ?_ ?_ ?_ ?_) <;> ((first | (refine wpT_at 4 ?_; refine mCallT [0, 1, 2, 3] [] (hdx) H ?_; clear H; intro a w H) | (refine v_someT 1 tab_ok hN H rfl ctX ?_; clear H; intro a w H; replace H := ntf H; simp only [List.drop_succ_cons, List.drop_zero, List.drop_nil])); refine wpT_nil ?_; try dsimp only))
      all_goals (refine wpZ_nil ?_; replace H := RelT.toRel H)
      all_goals
        refine mS ?_
        refine mW ?_; clear H; intro a w H
        rw [show (k : Int) + 1 = ((k + 1 : Nat) : Int) by omega] at H
        try rw [← bas_snoc] at H
        exact ⟨k + 1, hlt, by omega, H.to 6 2 ⟨Nat.le_trans hN (Nat.le_of_ble_eq_true rfl), Nat.le_trans hR (Nat.zero_le _)⟩ ⟨rfl, rfl, rfl, rfl, rfl, rfl, rfl, trivial⟩ (by dsimp only; rw [hsn]; rfl) (by dsimp only; rw [hsn, List.length_append]; rfl) rfl rfl rfl⟩
    · have hge : k = W.length := by rw [decide_eq_false_iff_not] at hb; omega
      clear hb
      subst hge
      rw [hdsW] at H hbl
      obtain ⟨n1, n2, n3, n4⟩ := nd_wf hs E
      refine mS ?_
      clear hX; have hX := And.intro @hk (And.intro @hm (And.intro @hbl (And.intro @n1 (And.intro @n2 (And.intro @n3 (@n4))))))
      replace H := mK [0, 5, 6, 9] 6 2 hN hR H
      refine mW ?_; clear H; intro a w H
      refine mCall [0, 1, 2, 3] [] (hnd) H ?_; clear H; intro a w H; try refine wpList_nil ?_
      refine mW ?_; clear H; intro a w H
      refine wp_ret ?_; exact mEnd [0, 1, 2, 3] [1] [.cell 6 40, .tmp 7] [_, _] hN hR H
end Go.Proofs.YtgffimanhmpohaaGreat
/- The way down in a tree (plain). -/
namespace Go.Proofs.YtgffimanhmpohaaGreat
open Go Go.RowKit
theorem Slb.get_zero (s : Slb) : s.get_ 0 = SN.zero := by unfold Slb.get_; rw [Slb.at_zero]
theorem Is.dig {s : Slb} {f d : Nat} {l : List Pr} {h : Int} (hi : Is s f d l h) (hs : Sep d (dgs l)) (hfd : f + d = 256) : s.dig h = rootA f d (dgs l) := by
  by_cases hne : l = []
  · subst hne
    have : h = 0 := (Is.small (by simp)).1 hi
    subst this
    rw [rootA_small _ _ _ (by simp [dgs])]; unfold Slb.dig; rw [if_pos rfl]; rfl
  · obtain ⟨x, c, h1, h2⟩ := hi.info hs hfd hne
    have h0 : h ≠ 0 := by have := (Slb.at_lt h1).1; omega
    unfold Slb.dig; rw [if_neg h0, (Slb.get_at h1).1]; exact h2.dg
/-- The handles of a way, one under the other. -/
def Slb.chn (s : Slb) (key : List UInt8) (E : Int) : Nat → Int → List Int → Prop
  | _, h, [] => h = E
  | d, h, x :: t => x = h ∧ s.ok_ h = true ∧ (s.get_ h).d = (d : Int) ∧ s.chn key E (d + 1) (s.oth key h).1 t
structure Ways (s : Slb) (key : List UInt8) (f d : Nat) (l : List Pr) (h : Int) : Prop where
  ends : s.ends key f h
  ds : s.dsH key (s.wayH key f h) = wayA key f d (dgs l)
  chn : s.chn key (s.endH key f h) d h (s.wayH key f h)
  m : ∃ m : List Pr, m.length < 2 ∧ IsB s m (s.endH key f h) ∧ (∀ x ∈ m, x ∈ l) ∧ (∀ x ∈ l, x.1 = key → x ∈ m) ∧ endA key f d (dgs l) = endB (dgs m)
theorem IsB.k {s : Slb} {m : List Pr} {h : Int} (hi : IsB s m h) : (s.get_ h).k ≠ 2 := by
  cases m with
  | nil => have : h = 0 := hi
           rw [this, Slb.get_zero]; decide
  | cons x m =>
    obtain ⟨hd, c, h1⟩ := hi
    rw [(Slb.get_at h1).1]; show (1 : UInt8) ≠ 2; decide
theorem ways_b {s : Slb} (key : List UInt8) (f d : Nat) {l : List Pr} {h : Int} (hl : l.length < 2) (hi : IsB s l h) : Ways s key f d l h := by
  have hk := hi.k
  have e1 : s.wayH key f h = [] := by cases f with
    | zero => rfl
    | succ f => rw [Slb.wayH, if_neg hk]
  have e2 : s.endH key f h = h := by cases f with
    | zero => rfl
    | succ f => rw [Slb.endH, if_neg hk]
  have e3 : s.ends key f h := by cases f with
    | zero => exact hk
    | succ f => exact fun e => absurd e hk
  have hl2 : (dgs l).length < 2 := by rw [dgs_len]; exact hl
  exact ⟨e3, by rw [e1, wayA_small _ _ _ _ hl2]; rfl, by rw [e1, e2]; rfl, l, hl, by rw [e2]; exact hi, fun _ h => h, fun _ h _ => h, endA_small _ _ _ _ hl2⟩
theorem ways (s : Slb) (key : List UInt8) : ∀ (f d : Nat) (l : List Pr) (h : Int), f + d = 256 → Sep d (dgs l) → Is s f d l h → Ways s key f d l h := by
  intro f
  induction f with
  | zero =>
    intro d l h hfd hs hi
    have hl : l.length < 2 := by have := hs.deep (by omega); rwa [dgs_len] at this
    exact ways_b key 0 d hl ((Is.small hl).1 hi)
  | succ f ih =>
    intro d l h hfd hs hi
    by_cases hl : l.length < 2
    · exact ways_b key _ d hl ((Is.small hl).1 hi)
    · unfold Is at hi
      rw [if_neg hl] at hi
      obtain ⟨lh, rh, hd, c, h1, h2, h3⟩ := hi
      obtain ⟨g1, g2⟩ := Slb.get_at h1
      have hk : (s.get_ h).k = 2 := by rw [g1]; rfl
      have hdd : (s.get_ h).d = (d : Int) := by rw [g1]; rfl
      have hll : (s.get_ h).l = lh := by rw [g1]; rfl
      have hrr : (s.get_ h).r = rh := by rw [g1]; rfl
      have hp : pbit key (d : Int) = if bitN key d then 1 else 0 := by rw [pbit, if_pos (by omega), Int.toNat_natCast]
      have ho : s.oth key h = if bitN key d then (rh, lh) else (lh, rh) := by
        unfold Slb.oth
        rw [if_pos g2, hdd, hp, hll, hrr]
        cases bitN key d <;> rfl
      have hsd := fun b => hs.side b
      simp only [← halfP_dgs] at hsd
      have hlA : ¬ (dgs l).length < 2 := by rw [dgs_len]; exact hl
      have hI : Is s f (d + 1) (halfP (bitN key d) d l) (s.oth key h).1 ∧ Is s f (d + 1) (halfP (!bitN key d) d l) (s.oth key h).2 := by
        rw [ho]
        cases bitN key d
        · exact ⟨h2, h3⟩
        · exact ⟨h3, h2⟩
      obtain ⟨w1, w2, w3, m, m1, m2, m3, m4, m5⟩ := ih (d + 1) _ _ (by omega) (hsd (bitN key d)) hI.1
      have hdig := hI.2.dig (hsd (!bitN key d)) (by omega)
      refine ⟨fun _ => w1, ?_, ?_, m, m1, ?_, fun x hx => (halfP_bit x (m3 x hx)).2, fun x hx e => m4 x ?_ e, ?_⟩
      · rw [Slb.wayH, if_pos hk, wayA, if_neg hlA, ← halfP_dgs, ← halfP_dgs, ← w2, ← hdig]; rfl
      · rw [Slb.wayH, if_pos hk, Slb.endH, if_pos hk]; exact ⟨rfl, g2, hdd, w3⟩
      · rw [Slb.endH, if_pos hk]; exact m2
      · unfold halfP; exact List.mem_filter.2 ⟨hx, by rw [e]; simp⟩
      · rw [endA, if_neg hlA, ← halfP_dgs]; exact m5
/-- What the end of a way is. -/
theorem endB_nd {s : Slb} {m : List Pr} {h : Int} (hm : m.length < 2) (hi : IsB s m h) : s.nd h = endB (dgs m) := by
  match m, hm with
  | [], _ =>
    have : h = 0 := hi
    unfold Slb.nd; rw [this, Slb.get_zero]; rfl
  | [x], _ =>
    obtain ⟨hd, c, h1⟩ := hi
    unfold Slb.nd; rw [(Slb.get_at h1).1]; rfl
end Go.Proofs.YtgffimanhmpohaaGreat
