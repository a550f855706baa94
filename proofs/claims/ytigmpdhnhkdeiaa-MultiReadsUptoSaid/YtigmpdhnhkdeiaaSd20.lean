/- Ways with slices on their own (plain): their box, digests aside, ends. -/
import Derived.Test.YtigmpdhnhkdeiaaXsO
import Derived.Test.YtigmpdhnhkdeiaaSkP
import Derived.Test.YtigmpdhnhkdeiaaBits
import Derived.Test.YtigmpdhnhkdeiaaA2
set_option linter.unusedSimpArgs false
set_option linter.unusedVariables false
namespace Go.Proofs.Ytigmpdhnhkdeiaa
open Go Go.RowKit
def wyE (ws : List MW) (X : List XR) : List AV := List.zipWith (fun w x => .st [.v x.v, w.en.av]) ws X
structure WyX (ws : List MW) (X : List XR) : Prop where
  len : X.length = ws.length
  at_ : ∀ k (h1 : k < ws.length) (h2 : k < X.length), XH X[k] 50 (.ba 32) (bas ws[k].sd)
theorem wyE_len {ws : List MW} {X : List XR} (h : X.length = ws.length) : (wyE ws X).length = ws.length := by
  unfold wyE; rw [List.length_zipWith, h, Nat.min_self]
theorem wyE_elem {ws : List MW} {X : List XR} (i : Nat) (h : i < (wyE ws X).length) (h1 : i < ws.length) (h2 : i < X.length) : (wyE ws X)[i] = .st [.v X[i].v, ws[i].en.av] := List.getElem_zipWith
theorem wyF_elem (n lo k : Nat) (c : Bool) (m : Nd) (vs : Nat → Value) (ns : Nat → Nd) (i : Nat) (h : i < (wyF n lo k c m vs ns).length) : (wyF n lo k c m vs ns)[i] = .st [.v (vs i), (if c = true ∧ lo ≤ i ∧ i < k then m else ns i).av] := by
  simp only [wyF, List.getElem_map, List.getElem_range]
theorem wyE_get {ws : List MW} {X : List XR} (k : Nat) (h1 : k < ws.length) (h2 : k < X.length) : (wyE ws X).getD k .any = .st [.v X[k].v, ws[k].en.av] := by
  have h : k < (List.zipWith (fun (w : MW) (x : XR) => AV.st [.v x.v, w.en.av]) ws X).length := by rw [List.length_zipWith]; omega
  unfold wyE
  rw [List.getD_eq_getElem?_getD, List.getElem?_eq_getElem h, Option.getD_some, List.getElem_zipWith]
theorem wyE_set {ws : List MW} {X : List XR} (k : Nat) (w : MW) (x : XR) : (wyE ws X).set k (.st [.v x.v, w.en.av]) = wyE (ws.set k w) (X.set k x) := by
  unfold wyE
  apply List.ext_getElem (by simp)
  intro i h1 h2
  rw [List.getElem_set, List.getElem_zipWith, List.getElem_zipWith, List.getElem_set, List.getElem_set]
  by_cases e : k = i
  · rw [if_pos e, if_pos e, if_pos e]
  · rw [if_neg e, if_neg e, if_neg e]
theorem WyX.set {ws : List MW} {X : List XR} (h : WyX ws X) (k : Nat) {w : MW} {x : XR} (hx : XH x 50 (.ba 32) (bas w.sd)) : WyX (ws.set k w) (X.set k x) := by
  refine ⟨by rw [List.length_set, List.length_set]; exact h.len, fun i h1 h2 => ?_⟩
  rw [List.length_set] at h1 h2
  rw [List.getElem_set, List.getElem_set]
  by_cases e : k = i
  · rw [if_pos e, if_pos e]; exact hx
  · rw [if_neg e, if_neg e]; exact h.at_ i h1 h2
theorem split_at {α : Type} (X : List α) (k : Nat) (h : k < X.length) : X = X.take k ++ X[k] :: X.drop (k + 1) := by
  rw [List.getElem_cons_drop h, List.take_append_drop]
theorem split_ex {α : Type} (X : List α) (k : Nat) (h : k < X.length) : ∃ X1 x X2, X = X1 ++ x :: X2 ∧ X1.length = k := ⟨X.take k, X[k], X.drop (k + 1), split_at X k h, List.length_take_of_le (by omega)⟩
theorem wyE_getS {ws : List MW} {X1 X2 : List XR} {x : XR} (h : X1.length < ws.length) : (wyE ws (X1 ++ x :: X2)).getD X1.length .any = .st [.v x.v, ws[X1.length].en.av] := by
  rw [wyE_get X1.length h (by simp)]
  simp
theorem set_mid {α : Type} (X1 X2 : List α) (x x' : α) : (X1 ++ x :: X2).set X1.length x' = X1 ++ x' :: X2 := by simp
theorem wyE_setS {ws : List MW} {X1 X2 : List XR} {x : XR} (w' : MW) (x' : XR) : (wyE ws (X1 ++ x :: X2)).set X1.length (.st [.v x'.v, w'.en.av]) = wyE (ws.set X1.length w') (X1 ++ x' :: X2) := by
  rw [wyE_set, set_mid]
theorem WyX.atS {ws : List MW} {X1 X2 : List XR} {x : XR} (h : WyX ws (X1 ++ x :: X2)) (hk : X1.length < ws.length) : XH x 50 (.ba 32) (bas ws[X1.length].sd) := by
  have := h.at_ X1.length hk (by simp)
  simpa using this
theorem WyX.setS {ws : List MW} {X1 X2 : List XR} {x x' : XR} {w' : MW} (h : WyX ws (X1 ++ x :: X2)) (hx : XH x' 50 (.ba 32) (bas w'.sd)) : WyX (ws.set X1.length w') (X1 ++ x' :: X2) := by
  have := h.set X1.length (w := w') hx
  rwa [set_mid] at this
def asd (h : List UInt8) (lo k : Nat) (ws : List MW) : List MW := ws.mapIdx fun i w => if lo ≤ i ∧ i < k then w.aside h else w
theorem asd_len (h : List UInt8) (lo k : Nat) (ws : List MW) : (asd h lo k ws).length = ws.length := by simp [asd]
theorem asd_get (h : List UInt8) (lo k : Nat) (ws : List MW) (i : Nat) (h1 : i < (asd h lo k ws).length) (h2 : i < ws.length) : (asd h lo k ws)[i] = if lo ≤ i ∧ i < k then ws[i].aside h else ws[i] := List.getElem_mapIdx
theorem asd_zero (h : List UInt8) (lo : Nat) (ws : List MW) : asd h lo lo ws = ws := by
  apply List.ext_getElem (asd_len _ _ _ _)
  intro i h1 h2
  rw [asd_get _ _ _ _ _ _ h2, if_neg (by omega)]
theorem asd_at (h : List UInt8) (lo k : Nat) (ws : List MW) (hk : k < ws.length) (hk2 : k < (asd h lo k ws).length) : (asd h lo k ws)[k] = ws[k] := by
  rw [asd_get _ _ _ _ _ _ hk, if_neg (by omega)]
theorem asd_step (h : List UInt8) (lo k : Nat) (ws : List MW) (hk : k < ws.length) (hl : lo ≤ k) : (asd h lo k ws).set k (ws[k].aside h) = asd h lo (k + 1) ws := by
  apply List.ext_getElem (by rw [List.length_set, asd_len, asd_len])
  intro i h1 h2
  have hi : i < ws.length := by rw [asd_len] at h2; exact h2
  rw [List.getElem_set, asd_get _ _ _ _ _ _ hi, asd_get _ _ _ _ _ _ hi]
  by_cases e : k = i
  · subst e; rw [if_pos rfl, if_pos ⟨hl, by omega⟩]
  · rw [if_neg e]
    by_cases hh : lo ≤ i ∧ i < k
    · rw [if_pos hh, if_pos ⟨hh.1, by omega⟩]
    · rw [if_neg hh, if_neg (fun q => hh ⟨q.1, by omega⟩)]
theorem mapIdx_mid {α : Type} (f : α → α) (A W B : List α) : (A ++ W ++ B).mapIdx (fun i w => if A.length ≤ i ∧ i < A.length + W.length then f w else w) = A ++ W.map f ++ B := by
  apply List.ext_getElem (by simp)
  intro i h1 h2
  rw [List.getElem_mapIdx]
  by_cases ha : i < A.length
  · rw [if_neg (by omega), List.getElem_append_left (by rw [List.length_append]; omega), List.getElem_append_left ha, List.getElem_append_left (by rw [List.length_append]; omega), List.getElem_append_left ha]
  by_cases hb : i < A.length + W.length
  · rw [if_pos ⟨by omega, hb⟩, List.getElem_append_left (by rw [List.length_append]; omega), List.getElem_append_right (by omega), List.getElem_append_left (by rw [List.length_append, List.length_map]; omega), List.getElem_append_right (by omega), List.getElem_map]
  · rw [if_neg (by omega), List.getElem_append_right (by rw [List.length_append]; omega), List.getElem_append_right (by rw [List.length_append, List.length_map]; omega)]
    simp only [List.length_append, List.length_map]
theorem asd_mid (h : List UInt8) (A W B : List MW) : asd h A.length (A.length + W.length) (A ++ W ++ B) = A ++ W.map (MW.aside h) ++ B := mapIdx_mid _ _ _ _
/-- The ways' box as a box of ends. -/
theorem wyE_end {A W B : List MW} {X : List XR} (b : Br) (hX : X.length = (A ++ W ++ B).length) :
    wyF (A ++ W ++ B).length A.length A.length true (Nd.one b.key b.v) (fun t => ((A ++ W ++ B).zip X).map (·.2.v) |>.getD t undef) (fun t => ((A ++ W ++ B).map (·.en)).getD t Nd.zero) = wyE (A ++ W ++ B) X ∧
    wyF (A ++ W ++ B).length A.length (A.length + W.length) true (Nd.one b.key b.v) (fun t => ((A ++ W ++ B).zip X).map (·.2.v) |>.getD t undef) (fun t => ((A ++ W ++ B).map (·.en)).getD t Nd.zero) = wyE (A ++ W.map (MW.lf b) ++ B) X := by
  have hv : ∀ i (h : i < (A ++ W ++ B).length) (h2 : i < X.length), (((A ++ W ++ B).zip X).map (·.2.v)).getD i undef = X[i].v := fun i h h2 => by
    rw [List.getD_eq_getElem?_getD, List.getElem?_map, List.getElem?_eq_getElem (by rw [List.length_zip]; omega), Option.map_some, Option.getD_some, List.getElem_zip]
  have hn : ∀ i (h : i < (A ++ W ++ B).length), ((A ++ W ++ B).map (·.en)).getD i Nd.zero = (A ++ W ++ B)[i].en := fun i h => by
    rw [List.getD_eq_getElem?_getD, List.getElem?_map, List.getElem?_eq_getElem h, Option.map_some, Option.getD_some]
  have key : ∀ i (h : i < (A ++ W ++ B).length) (h3 : i < (A ++ W.map (MW.lf b) ++ B).length), (A ++ W.map (MW.lf b) ++ B)[i] = if A.length ≤ i ∧ i < A.length + W.length then MW.lf b (A ++ W ++ B)[i] else (A ++ W ++ B)[i] := fun i h h3 => by
    have := List.getElem_of_eq (mapIdx_mid (MW.lf b) A W B).symm h3
    rw [this, List.getElem_mapIdx]
  refine ⟨List.ext_getElem (by rw [wyF_len, wyE_len hX]) fun i h1 h2 => ?_, List.ext_getElem (by rw [wyF_len, wyE_len (by simpa using hX)]; simp) fun i h1 h2 => ?_⟩
  · have h3 := h1
    rw [wyF_len] at h3
    rw [wyF_elem, wyE_elem i h2 h3 (by omega), if_neg (by omega)]
    rw [hv i h3 (by omega), hn i h3]
  · have h3 := h1
    rw [wyF_len] at h3
    have h4 : i < (A ++ W.map (MW.lf b) ++ B).length := by simpa using h3
    rw [wyF_elem, wyE_elem i h2 h4 (by omega), key i h3 h4]
    rw [hv i h3 (by omega)]
    by_cases hh : A.length ≤ i ∧ i < A.length + W.length
    · rw [if_pos ⟨rfl, hh⟩, if_pos hh]; rfl
    · rw [if_neg (fun q => hh q.2), if_neg hh, hn i h3]
theorem WyX.end_ {A W B : List MW} {X : List XR} (b : Br) (h : WyX (A ++ W ++ B) X) : WyX (A ++ W.map (MW.lf b) ++ B) X := by
  refine ⟨by have := h.len; simpa using this, fun i h1 h2 => ?_⟩
  have hl := h.len
  have q := h.at_ i (by omega) h2
  have : ((A ++ W.map (MW.lf b) ++ B)[i]).sd = ((A ++ W ++ B)[i]'(by omega)).sd := by
    have := List.getElem_of_eq (mapIdx_mid (MW.lf b) A W B).symm h1
    rw [this, List.getElem_mapIdx]
    split <;> rfl
  rw [this]; exact q
end Go.Proofs.Ytigmpdhnhkdeiaa
/- Digests put aside of ways, in a reader of a sketch for keys: multi.aside. -/
namespace Go.Proofs.Ytigmpdhnhkdeiaa
open Go Go.RowKit
abbrev mrdB (rest : List Br) (e : List UInt8) (n : Nat) (ws : List MW) (X : List XR) : List (Ty × AV) := [(mrdT, .st [.sl brT (brs rest) none, .ba e, .vw 1 0 n]), (.vc 68 pfT0, .vc 0 (wyE ws X))]
attribute [local irreducible] wpT
set_option maxRecDepth 20000 in
set_option maxHeartbeats 16000000 in
theorem maside_v (rest : List Br) (e : List UInt8) (he : e.length = 32) (h : List UInt8) (hh : h.length = 32) (ws : List MW) (hw : ∀ w ∈ ws, w.sd.length ≤ 1000) (n : Nat) (hnw : ws.length = n) (hn : n ≤ 64) (lo hi : Nat) (hlo : lo ≤ hi) (hhi : hi ≤ n) (X : List XR) (hW : WyX ws X) :
    VY Try.prog 230 (mrdB rest e n ws X) [.ptr 0 [], .ba h, .v (.int .i64 (lo : Int)), .v (.int .i64 (hi : Int))] X
      (fun X' bx' res => WyX (asd h lo hi ws) X' ∧ bx' = mrdB rest e n (asd h lo hi ws) X' ∧ res = .tup []) := by
  have hl0 : (wyE ws X).length = n := by rw [wyE_len hW.len]; exact hnw
  refine v_enterY Try.func230 rfl (by kernel_rfl) (by show 4 ≤ 33; decide) ?_
  intro L N w0 a w hL hN0 hR0 H
  have hM : N.bx.length ≤ 2 ∧ N.rw.length ≤ 0 := ⟨hN0, hR0⟩
  clear hN0 hR0
  obtain ⟨N1, hB, hZ, H, hN1, hR1⟩ := H.open_
  have hN : N1.bx.length ≤ 2 := Nat.le_of_eq hN1
  have hR : N1.rw.length ≤ 0 := Nat.le_of_eq hR1
  clear hN1 hR1
  have hX := And.intro @he (And.intro @hh (@hl0))
  refine mW ?_; clear H; intro a w H
  replace H := v_ref H 5 2 (Nat.le_trans hN (Nat.le_of_ble_eq_true rfl)) rfl rfl rfl
  simp only [nilT, strip, List.map_cons, List.map_nil, reduceIte, Nat.reduceEqDiff] at H
  refine v_loopI (fun k a w => ∃ X : List XR, WyX (asd h lo k ws) X ∧ RelY L Try.prog w0 N Try.f230.ntmps ⟨[(8, none, .v (.int .i64 ((k : Nat) : Int))), (5, none, .ref (.ba 32) (.ba h)), (3, none, .v (.int .i64 (hi : Int))), (0, none, .ptr 0 [])],
    [(mrdT, .st [.sl brT (brs rest) none, .ba e, .vw 1 0 n]), (.vc 68 pfT0, .vc 0 (wyE (asd h lo k ws) X)), (.ba 32, .ba h)], [2], []⟩ X a w) (fun k => lo ≤ k ∧ k ≤ hi) (fun k => hi - k) lo ⟨Nat.le_refl _, hlo⟩
    ⟨X, by rw [asd_zero]; exact hW, by rw [asd_zero]; exact RelY.close hB hZ (H.to 3 0 ⟨Nat.le_trans hN (Nat.le_of_ble_eq_true rfl), hR⟩ ⟨rfl, rfl, rfl, rfl, trivial⟩ rfl rfl rfl rfl rfl)⟩ ?_
  clear H hB hZ hN hR hW hl0
  rintro k a w1 hk ⟨X, hW, H⟩
  obtain ⟨hk1, hk2⟩ := hk
  obtain ⟨N1, hB, hZ, H, hN1, hR1⟩ := H.open_
  have hN : N1.bx.length ≤ 3 := Nat.le_of_eq hN1
  have hR : N1.rw.length ≤ 0 := Nat.le_of_eq hR1
  clear hN1 hR1
  have hlk : (wyE (asd h lo k ws) X).length = n := by rw [wyE_len hW.len, asd_len]; exact hnw
  clear hX; have hX := And.intro @he (And.intro @hh (@hlk))
  refine mW ?_; clear H; intro a w H
  refine mC H (fun hb => ?_) (fun hb => ?_)
  · have hlt : k < hi := by rw [decide_eq_true_eq] at hb; omega
    clear hb
    have hkw : k < ws.length := by omega
    have hXl := hW.len
    rw [asd_len] at hXl
    obtain ⟨X1, x, X2, rfl, rfl⟩ := split_ex X k (by omega)
    have hka : X1.length < (asd h lo X1.length ws).length := by rw [asd_len]; exact hkw
    have hg := wyE_getS (x := x) (X2 := X2) hka
    have hx0 := hW.atS hka
    rw [asd_at h lo X1.length ws hkw] at hg hx0
    have hst := asd_step h lo X1.length ws hkw hk1
    have hwl := hw _ (List.getElem_mem hkw)
    have hsl := bas_len ws[X1.length].sd
    generalize ws[X1.length] = v at *
    have hbe : (bas v.sd).take v.sd.length ++ [AV.ba h] = bas (v.aside h).sd := by
      rw [List.take_of_length_le (by omega)]; simp [bas, MW.aside]
    refine mS ?_
    clear hX; have hX := And.intro @he (And.intro @hh (And.intro @hlk (And.intro @hg (@hsl))))
    repeat (first | refine wp_seq ?_ | refine wp_block ?_)
    refine v_drawZ 0 [0, 1, 2, 4, 5, 6, 7, 9, 13, 8, 10, 11, 12, 3, 14, 15, 16, 17, 18] [3, 8, 12, 14, 15, 18] [0, 1, 2, 4, 5, 6, 7, 9, 10, 11, 13] [(8, 3), (12, 3), (3, 14), (3, 15), (8, 14), (12, 14), (1015, 14)] (by kernel_rfl) (by kernel_rfl) (by kernel_rfl) (by kernel_rfl) (by kernel_rfl) H (by rfl) ?_; clear H; intro gS H; try replace H := ntf H
    repeat' ((first | refine wpZ_q1 rfl rfl ?_ | refine wpZ_l1 rfl rfl rfl ?_ | refine wpZ_l2 rfl rfl rfl rfl rfl ?_ ?_ | refine wpZ_l3 rfl rfl rfl rfl rfl rfl rfl ?_ ?_ ?_ | refine wpZ_l4 rfl rfl rfl rfl rfl rfl rfl rfl rfl ?_ ?_ ?_ ?_) <;> ((first | (refine wpT_at 15 ?_; obtain ⟨g9, hL9, hb9, hr9, H⟩ := v_lendT (RelYT.close hB hZ H) hx0 27 rfl; simp only [nilT, reduceIte, Nat.reduceEqDiff] at H; replace H := ntf H; have hN9 : (g9.push (x.box 50 (.ba 32))).bx.length ≤ 4 := (by simp [Gh.push, hb9]); refine v_someT 1 tab_ok hN9 H rfl ctX ?_; clear H; intro a w H; replace H := ntf H; simp only [hbe] at H; obtain ⟨x', hx', H⟩ := v_giveT (bx := [(mrdT, _), (.vc 68 pfT0, _), (.ba 32, _)]) (e := 50) (T := .ba 32) (γ := 1) hL hL9 hb9 H [0, 3, 5, 8, 10, 11, 12, 15, 16, 17, 18, 19, 20, 21, 22, 23, 24, 25, 26, 28, 31, 32] 30 (v.sd.length + 1) (by simp [MW.aside, bas]) rfl rfl (by simp [bas, flat]) rfl rfl (Nat.zero_le _); obtain ⟨N2, hB2, hZ2, H, hN3, hR3⟩ := H.open_; replace H := ntf H; clear hN hB hZ; have hN : N2.bx.length ≤ 3 := Nat.le_of_eq hN3) | (refine v_someT 1 tab_ok hN H rfl ctX ?_; clear H; intro a w H; replace H := ntf H; simp only [List.drop_succ_cons, List.drop_zero, List.drop_nil])); refine wpT_nil ?_; try dsimp only))
    all_goals (refine wpZ_nil ?_; replace H := RelT.toRel H)
    all_goals
      have e9 : (wyE (asd h lo X1.length ws) (X1 ++ x :: X2)).set X1.length (.st [.v x'.v, v.en.av]) = wyE (asd h lo (X1.length + 1) ws) (X1 ++ x' :: X2) := (wyE_setS (v.aside h) x').trans (by rw [hst])
      have hW2 : WyX (asd h lo (X1.length + 1) ws) (X1 ++ x' :: X2) := by rw [← hst]; exact hW.setS hx'
      have hR : N2.rw.length ≤ 1 := Nat.le_of_eq hR3
      rw [e9] at H
      refine mS ?_
      clear hX; have hX := @hh
      refine mW ?_; clear H; intro a w H
      rw [show (X1.length : Int) + 1 = ((X1.length + 1 : Nat) : Int) by omega] at H
      exact ⟨X1.length + 1, ⟨by omega, hlt⟩, by omega, X1 ++ x' :: X2, hW2, (RelY.close hB2 hZ2 H).to 3 0 ⟨Nat.le_trans hM.1 (Nat.le_of_ble_eq_true rfl), hM.2⟩ ⟨rfl, rfl, rfl, rfl, trivial⟩ rfl rfl rfl rfl rfl⟩
  · have hge : k = hi := by rw [decide_eq_false_iff_not] at hb; omega
    clear hb
    subst hge
    refine mW ?_; clear H; intro a w H
    exact v_endY (rs := []) (ress := []) (nb := 2) (nr := 0) [0, 1] tab_ok hM rfl (RelY.close hB hZ H) (by rfl) rfl cbX trivial rfl ⟨hW, rfl, rfl⟩
end Go.Proofs.Ytigmpdhnhkdeiaa
/- Parts of a sketch that are clean: ref20.clean. -/
namespace Go.Proofs.Ytigmpdhnhkdeiaa
open Go Go.RowKit
theorem and3_bif (a b c : Bool) : (a && (b && c)) = (bif (bif a then b else false) then c else false) := by cases a <;> cases b <;> cases c <;> rfl
theorem clean0r (key v g : List UInt8) : Br.clean ⟨0, key, v, g⟩ = (bif (bif decide (key = List.replicate 32 0) then decide (v = List.replicate 32 0) else false) then decide (g = List.replicate 32 0) else false) := by
  rw [clean0, and3_bif]
theorem clean2r (key v g : List UInt8) : Br.clean ⟨2, key, v, g⟩ = (bif (bif decide (key = List.replicate 32 0) then decide (v = List.replicate 32 0) else false) then decide (g = List.replicate 32 0) else false) := by
  rw [clean2, and3_bif]
theorem clean3r (key v g : List UInt8) : Br.clean ⟨3, key, v, g⟩ = (bif decide (key = List.replicate 32 0) then decide (v = List.replicate 32 0) else false) := by
  rw [clean3, show decide (((3 : UInt8).toNat : Int) = 3) = true from by decide, Bool.true_and]
  cases decide (key = List.replicate 32 0) <;> rfl
set_option maxRecDepth 20000 in
theorem cleanR_v (b : Br) (hw : b.wf) : VC Try.prog 172 [b.av] [] (.v (.bool b.clean)) := by
  obtain ⟨h1, h2, h3⟩ := id hw
  obtain ⟨k, key, v, g⟩ := b
  dsimp only at h1 h2 h3
  have hz2 := z32_len
  have hzl : (List.replicate 32 (0 : UInt8)).length = 32 := List.length_replicate
  have k0 : decide ((k.toNat : Int) = 0) = decide (k = 0) := kz k 0 (by decide)
  have k1 : decide ((k.toNat : Int) = 1) = decide (k = 1) := kz k 1 (by decide)
  have k2 : decide ((k.toNat : Int) = 2) = decide (k = 2) := kz k 2 (by decide)
  have k3 : decide ((k.toNat : Int) = 3) = decide (k = 3) := kz k 3 (by decide)
  refine mE Try.func172 ?_; intro N w0 a w hN hR H
  simp only [Br.av] at H
  have hX := @hzl
  have hY := And.intro @h1 (And.intro @h2 (@h3))
  refine mW ?_; clear H; intro a w H
  refine mC H (fun hb => ?_) (fun hb => ?_)
  · rw [k0, decide_eq_true_eq] at hb
    subst hb
    refine mW ?_; clear H; intro a w H
    refine mC H (fun hb => ?_) (fun hb => ?_)
    · refine mW ?_; clear H; intro a w H
      rw [clean0r]
      refine wp_ret ?_; exact mEnd [] [] [.tmp 2] [_] hN hR H
    · exact absurd hb (by decide)
  · rw [k0, decide_eq_false_iff_not] at hb
    have hk0 := hb
    clear hb
    refine mW ?_; clear H; intro a w H
    refine mC H (fun hb => ?_) (fun hb => ?_)
    · rw [k2, decide_eq_true_eq] at hb
      subst hb
      refine mW ?_; clear H; intro a w H
      rw [clean2r]
      refine wp_ret ?_; exact mEnd [] [] [.tmp 2] [_] hN hR H
    · rw [k2, decide_eq_false_iff_not] at hb
      have hk2 := hb
      clear hb
      refine mW ?_; clear H; intro a w H
      refine mC H (fun hb => ?_) (fun hb => ?_)
      · rw [k1, decide_eq_true_eq] at hb
        subst hb
        refine mW ?_; clear H; intro a w H
        rw [clean1]
        refine wp_ret ?_; exact mEnd [] [] [.tmp 2] [_] hN hR H
      · rw [k1, decide_eq_false_iff_not] at hb
        have hk1 := hb
        clear hb
        refine mW ?_; clear H; intro a w H
        refine mC H (fun hb => ?_) (fun hb => ?_)
        · rw [k3, decide_eq_true_eq] at hb
          subst hb
          refine mW ?_; clear H; intro a w H
          rw [clean3r]
          refine wp_ret ?_; exact mEnd [] [] [.tmp 2] [_] hN hR H
        · rw [k3, decide_eq_false_iff_not] at hb
          refine mW ?_; clear H; intro a w H
          have e : Br.clean ⟨k, key, v, g⟩ = false := by
            unfold Br.clean
            rw [if_neg (by simp [hk0, hk2]), if_neg hk1, if_neg hb]
          rw [e]
          refine wp_ret ?_; exact mEnd [] [] [.tmp 2] [_] hN hR H
end Go.Proofs.Ytigmpdhnhkdeiaa
/- Parts that are clean: mpack.clean, multi.clean, ref21.clean. -/
namespace Go.Proofs.Ytigmpdhnhkdeiaa
open Go Go.RowKit
set_option maxRecDepth 20000 in
theorem uclean_v (b : Br) (hw : b.wf) : VC Try.prog 226 [b.av] [] (.v (.bool b.clean)) := by
  obtain ⟨h1, h2, h3⟩ := id hw
  obtain ⟨k, key, v, g⟩ := b
  dsimp only at h1 h2 h3
  have hz2 := z32_len
  have hzl : (List.replicate 32 (0 : UInt8)).length = 32 := List.length_replicate
  have k0 : decide ((k.toNat : Int) = 0) = decide (k = 0) := kz k 0 (by decide)
  have k1 : decide ((k.toNat : Int) = 1) = decide (k = 1) := kz k 1 (by decide)
  have k2 : decide ((k.toNat : Int) = 2) = decide (k = 2) := kz k 2 (by decide)
  have k3 : decide ((k.toNat : Int) = 3) = decide (k = 3) := kz k 3 (by decide)
  refine mE Try.func226 ?_; intro N w0 a w hN hR H
  simp only [Br.av] at H
  have hX := @hzl
  have hY := And.intro @h1 (And.intro @h2 (@h3))
  refine mW ?_; clear H; intro a w H
  refine mC H (fun hb => ?_) (fun hb => ?_)
  · rw [k0, decide_eq_true_eq] at hb
    subst hb
    refine mW ?_; clear H; intro a w H
    refine mC H (fun hb => ?_) (fun hb => ?_)
    · refine mW ?_; clear H; intro a w H
      rw [clean0]
      refine wp_ret ?_; exact mEnd [] [] [.tmp 2] [_] hN hR H
    · exact absurd hb (by decide)
  · rw [k0, decide_eq_false_iff_not] at hb
    have hk0 := hb
    clear hb
    refine mW ?_; clear H; intro a w H
    refine mC H (fun hb => ?_) (fun hb => ?_)
    · rw [k2, decide_eq_true_eq] at hb
      subst hb
      refine mW ?_; clear H; intro a w H
      rw [clean2]
      refine wp_ret ?_; exact mEnd [] [] [.tmp 2] [_] hN hR H
    · rw [k2, decide_eq_false_iff_not] at hb
      have hk2 := hb
      clear hb
      refine mW ?_; clear H; intro a w H
      refine mC H (fun hb => ?_) (fun hb => ?_)
      · rw [k1, decide_eq_true_eq] at hb
        subst hb
        refine mW ?_; clear H; intro a w H
        rw [clean1]
        refine wp_ret ?_; exact mEnd [] [] [.tmp 2] [_] hN hR H
      · rw [k1, decide_eq_false_iff_not] at hb
        have hk1 := hb
        clear hb
        refine mW ?_; clear H; intro a w H
        refine mC H (fun hb => ?_) (fun hb => ?_)
        · rw [k3, decide_eq_true_eq] at hb
          subst hb
          refine mW ?_; clear H; intro a w H
          rw [clean3]
          refine wp_ret ?_; exact mEnd [] [] [.tmp 2] [_] hN hR H
        · rw [k3, decide_eq_false_iff_not] at hb
          refine mW ?_; clear H; intro a w H
          have e : Br.clean ⟨k, key, v, g⟩ = false := by
            unfold Br.clean
            rw [if_neg (by simp [hk0, hk2]), if_neg hk1, if_neg hb]
          rw [e]
          refine wp_ret ?_; exact mEnd [] [] [.tmp 2] [_] hN hR H
end Go.Proofs.Ytigmpdhnhkdeiaa
/- A reader of a sketch for keys: multi.place. -/
namespace Go.Proofs.Ytigmpdhnhkdeiaa
open Go Go.RowKit
theorem plM_nil (f : Nat) (top : List UInt8) (d : Nat) (ws : List MW) : plM (f + 1) top d ws [] = ⟨[], ws, z32, false⟩ := rfl
theorem plM_cons (f : Nat) (top : List UInt8) (d : Nat) (ws : List MW) (b : Br) (r : List Br) : plM (f + 1) top d ws (b :: r) =
    if b.clean = false then ⟨b :: r, ws, z32, false⟩
    else if b.k = 0 then ⟨r, ws, sum [0], true⟩
    else if b.k = 3 then ⟨r, ws, b.g, ws.isEmpty⟩
    else if b.k = 1 then ⟨r, ws.map (MW.lf b), leafH b.key b.v, !ws.isEmpty && und d b.key top⟩
    else if ws.isEmpty = true then ⟨r, ws, z32, false⟩
    else if 256 ≤ d then ⟨r, ws, z32, false⟩
    else if (plM f top (d + 1) (ws.take (mpartN d ws)) r).ok = false then ⟨(plM f top (d + 1) (ws.take (mpartN d ws)) r).rest, (plM f top (d + 1) (ws.take (mpartN d ws)) r).ws ++ ws.drop (mpartN d ws), z32, false⟩
      else ⟨(plM f (flipL top d) (d + 1) (ws.drop (mpartN d ws)) (plM f top (d + 1) (ws.take (mpartN d ws)) r).rest).rest,
        (plM f top (d + 1) (ws.take (mpartN d ws)) r).ws.map (MW.aside (plM f (flipL top d) (d + 1) (ws.drop (mpartN d ws)) (plM f top (d + 1) (ws.take (mpartN d ws)) r).rest).dg) ++ (plM f (flipL top d) (d + 1) (ws.drop (mpartN d ws)) (plM f top (d + 1) (ws.take (mpartN d ws)) r).rest).ws.map (MW.aside (plM f top (d + 1) (ws.take (mpartN d ws)) r).dg),
        innerH (plM f top (d + 1) (ws.take (mpartN d ws)) r).dg (plM f (flipL top d) (d + 1) (ws.drop (mpartN d ws)) (plM f top (d + 1) (ws.take (mpartN d ws)) r).rest).dg, (plM f (flipL top d) (d + 1) (ws.drop (mpartN d ws)) (plM f top (d + 1) (ws.take (mpartN d ws)) r).rest).ok⟩ := rfl
theorem mpart_le (d : Nat) (ws : List MW) : mpartN d ws ≤ ws.length := by
  unfold mpartN
  exact (List.takeWhile_sublist _).length_le
theorem len_dec (A W : List MW) : decide ((A.length : Int) < ((A.length + W.length : Nat) : Int)) = !W.isEmpty := by
  cases W with
  | nil => exact decide_eq_false (by simp)
  | cons w W => exact decide_eq_true (by simp only [List.length_cons]; omega)
attribute [local irreducible] wpT
set_option maxRecDepth 20000 in
set_option maxHeartbeats 16000000 in
theorem mplace_v (n : Nat) (hn : n ≤ 64) (ks : List (List UInt8)) (hks : ks.length = n) (hk32 : ∀ k ∈ ks, k.length = 32) : ∀ (f : Nat) (top : List UInt8) (d : Nat) (A W B : List MW) (rest : List Br) (X : List XR), f + d = 257 → d ≤ 256 → top.length = 32 → (∀ b ∈ rest, b.wf) → rest.length ≤ 100000 → (A ++ W ++ B).map (·.key) = ks → (∀ w ∈ A ++ W ++ B, w.wf) → (∀ w ∈ A ++ W ++ B, w.sd.length ≤ 1000) → (∀ w ∈ W, w.sd.length + f ≤ 600) → WyX (A ++ W ++ B) X →
    VY Try.prog 179 (mrdB rest (sum [0]) n (A ++ W ++ B) X) [.ptr 0 [], .sl (.ba 32) (bas ks) none, .v (.int .i64 (A.length : Int)), .v (.int .i64 ((A.length + W.length : Nat) : Int)), .ba top, .v (.int .i64 (d : Int))] X
      (fun X' bx' res => WyX (A ++ (plM f top d W rest).ws ++ B) X' ∧ bx' = mrdB (plM f top d W rest).rest (sum [0]) n (A ++ (plM f top d W rest).ws ++ B) X' ∧ res = .tup [.ba (plM f top d W rest).dg, .v (.bool (plM f top d W rest).ok)]) := by
  intro f
  induction f with
  | zero => intro top d A W B rest X hf hd; omega
  | succ f ih =>
    intro top d A W B rest X hf hd256 ht hrw hrl hkey hwf hfew hfw hW
    have hnl : (A ++ W ++ B).length = n := by rw [← hks, ← hkey, List.length_map]
    have hl0 : (wyE (A ++ W ++ B) X).length = n := by rw [wyE_len hW.len]; exact hnl
    have hbl := bas_len ks
    have hs0 : (sum [0]).length = 32 := sum_length _
    have eo := len_dec A W
    cases rest with
    | nil =>
      have hrb : (brs []).length = 0 := rfl
      rw [plM_nil]
      simp only [z32]
      refine v_enterY Try.func179 rfl (by kernel_rfl) (by show 6 ≤ 151; decide) ?_
      intro L N w0 a w hL hN0 hR0 H
      have hM : N.bx.length ≤ 2 ∧ N.rw.length ≤ 0 := ⟨hN0, hR0⟩
      clear hN0 hR0
      obtain ⟨N1, hB, hZ, H, hN1, hR1⟩ := H.open_
      have hN : N1.bx.length ≤ 2 := Nat.le_of_eq hN1
      have hR : N1.rw.length ≤ 0 := Nat.le_of_eq hR1
      clear hN1 hR1
      have hX := And.intro @hrb (And.intro @ht (@hl0))
      refine mW ?_; clear H; intro a w H
      refine mSk (.v (.bool true)) H ?_; clear H; intro a w H
      refine mW ?_; clear H; intro a w H
      refine mC H (fun hb => ?_) (fun hb => ?_)
      · clear hb
        refine mW ?_; clear H; intro a w H
        refine wp_ret ?_
        exact v_endY (rs := [.cell 12 50, .tmp 13]) (ress := [_, _]) (nb := 2) (nr := 0) [0, 1] tab_ok hM rfl (RelY.close hB hZ H) (by rfl) rfl cbX caX rfl ⟨hW, rfl, rfl⟩
      · exact absurd hb (by decide)
    | cons b rest =>
      have hbw := hrw b List.mem_cons_self
      have hcl := uclean_v b hbw
      have hrw2 : ∀ b ∈ rest, b.wf := fun b h => hrw b (List.mem_cons_of_mem _ h)
      rw [plM_cons]
      obtain ⟨bk, bkey, bv, bg⟩ := b
      obtain ⟨q1, q2, q3⟩ := id hbw
      dsimp only at q1 q2 q3
      simp only [List.length_cons] at hrl
      generalize hbe : brs (⟨bk, bkey, bv, bg⟩ :: rest) = B0
      have hbl0 : B0.length = (brs rest).length + 1 := by rw [← hbe]; simp [brs]
      have hb0 : B0.getD 0 .any = .st [.v (B8 bk), .ba bkey, .ba bv, .ba bg] := by rw [← hbe]; rfl
      have hbs : List.drop 1 B0 = brs rest := by rw [← hbe]; rfl
      have e0 : decide ((((brs rest).length + 1 : Nat) : Int) = 0) = false := decide_eq_false (by omega)
      have k0 : decide ((bk.toNat : Int) = 0) = decide (bk = 0) := kz bk 0 (by decide)
      have k1 : decide ((bk.toNat : Int) = 1) = decide (bk = 1) := kz bk 1 (by decide)
      have k3 : decide ((bk.toNat : Int) = 3) = decide (bk = 3) := kz bk 3 (by decide)
      dsimp only
      simp only [Br.av] at hcl
      simp only [mrdB, hbe]
      refine v_enterY Try.func179 rfl (by kernel_rfl) (by show 6 ≤ 151; decide) ?_
      intro L N w0 a w hL hN0 hR0 H
      have hM : N.bx.length ≤ 2 ∧ N.rw.length ≤ 0 := ⟨hN0, hR0⟩
      clear hN0 hR0
      obtain ⟨N1, hB, hZ, H, hN1, hR1⟩ := H.open_
      have hN : N1.bx.length ≤ 2 := Nat.le_of_eq hN1
      have hR : N1.rw.length ≤ 0 := Nat.le_of_eq hR1
      clear hN1 hR1
      have hX := And.intro @hbl0 (And.intro @hb0 (And.intro @ht (And.intro @q1 (And.intro @q2 (And.intro @q3 (And.intro @hs0 (@hl0)))))))
      refine mW ?_; clear H; intro a w H
      refine mCallG [] [] (hcl) H ?_; clear H; intro a w H; try refine wpList_nil ?_
      simp only [e0] at H
      refine mW ?_; clear H; intro a w H
      refine mC H (fun hb => ?_) (fun hb => ?_)
      · have hc : Br.clean ⟨bk, bkey, bv, bg⟩ = false := by simpa using hb
        rw [if_pos hc]
        dsimp only
        simp only [z32, hbe]
        clear hb
        refine mW ?_; clear H; intro a w H
        refine wp_ret ?_
        exact v_endY (rs := [.cell 12 50, .tmp 13]) (ress := [_, _]) (nb := 2) (nr := 0) [0, 1] tab_ok hM rfl (RelY.close hB hZ H) (by rfl) rfl cbX caX rfl ⟨hW, rfl, rfl⟩
      · have hc : Br.clean ⟨bk, bkey, bv, bg⟩ = true := by simpa using hb
        rw [if_neg (by rw [hc]; decide)]
        clear hb
        refine mW ?_; clear H; intro a w H
        simp only [hbs, eo] at H
        refine mC H (fun hb => ?_) (fun hb => ?_)
        · rw [k0, decide_eq_true_eq] at hb
          rw [if_pos hb]
          dsimp only
          clear hb
          clear hX; have hX := And.intro @ht (And.intro @q1 (And.intro @q2 (And.intro @q3 (And.intro @hs0 (@hl0)))))
          refine mW ?_; clear H; intro a w H
          refine wp_ret ?_
          exact v_endY (rs := [.cell 12 50, .tmp 13]) (ress := [_, _]) (nb := 2) (nr := 0) [0, 1] tab_ok hM rfl (RelY.close hB hZ H) (by rfl) rfl cbX caX rfl ⟨hW, rfl, rfl⟩
        · rw [k0, decide_eq_false_iff_not] at hb
          rw [if_neg hb]
          have n0 := hb
          clear hb
          clear hX; have hX := And.intro @ht (And.intro @q1 (And.intro @q2 (And.intro @q3 (And.intro @hs0 (@hl0)))))
          refine mW ?_; clear H; intro a w H
          refine mC H (fun hb => ?_) (fun hb => ?_)
          · rw [k3, decide_eq_true_eq] at hb
            rw [if_pos hb]
            dsimp only
            clear hb
            refine mW ?_; clear H; intro a w H
            simp only [Bool.not_not] at H
            refine wp_ret ?_
            exact v_endY (rs := [.cell 12 50, .tmp 13]) (ress := [_, _]) (nb := 2) (nr := 0) [0, 1] tab_ok hM rfl (RelY.close hB hZ H) (by rfl) rfl cbX caX rfl ⟨hW, rfl, rfl⟩
          · rw [k3, decide_eq_false_iff_not] at hb
            rw [if_neg hb]
            have n3 := hb
            clear hb
            refine mW ?_; clear H; intro a w H
            refine mC H (fun hb => ?_) (fun hb => ?_)
            · rw [k1, decide_eq_true_eq] at hb
              rw [if_pos hb]
              subst hb
              dsimp only
              have hll := leafH_len bkey bv
              have hlf := leaf_v bkey bv q1 q2
              have hun := under_v bkey top q1 ht (d : Int)
              have eu : decide (0 ≤ (d : Int) ∧ (d : Int) ≤ 256 ∧ (d : Int) ≤ (com bkey top : Int)) = und d bkey top := by
                unfold und; rw [decide_eq_decide]; omega
              rw [eu] at hun
              have hW2 := hW.end_ ⟨1, bkey, bv, bg⟩
              have hl2 : (wyE (A ++ W.map (MW.lf ⟨1, bkey, bv, bg⟩) ++ B) X).length = n := by rw [wyE_len hW2.len, ← hnl]; simp
              have hend := mend_v rest (sum [0]) hs0 n hn ⟨1, bkey, bv, bg⟩ hbw A.length (A.length + W.length) (by omega) (by rw [← hnl]; simp) (fun t => ((A ++ W ++ B).zip X).map (·.2.v) |>.getD t undef) (fun t => ((A ++ W ++ B).map (·.en)).getD t Nd.zero) (fun t => by
                rw [List.getD_eq_getElem?_getD, List.getElem?_map]
                cases hg : (A ++ W ++ B)[t]? with
                | none => exact zero_wf
                | some z => exact (hwf z (List.mem_of_getElem? hg)).en)
              obtain ⟨we1, we2⟩ := wyE_end (A := A) (W := W) (B := B) ⟨1, bkey, bv, bg⟩ hW.len
              rw [hnl] at we1 we2
              dsimp only at we1 we2 hend
              have ed : decide ((1 : UInt8) = 1) = true := rfl
              rw [ed, we1, we2] at hend
              simp only [Br.av] at hend
              clear we1 we2
              clear hX; have hX := And.intro @ht (And.intro @q1 (And.intro @q2 (And.intro @q3 (And.intro @hs0 (And.intro @hl0 (And.intro @hl2 (@hll)))))))
              refine mW ?_; clear H; intro a w H
              refine mCall [0, 1] [] (hend) H ?_; clear H; intro a w H; try refine wpList_nil ?_
              refine mW ?_; clear H; intro a w H
              refine mCall [] [] (hlf) H ?_; clear H; intro a w H; try refine wpList_nil ?_
              refine mW ?_; clear H; intro a w H
              refine mCallG [] [] (hun) H ?_; clear H; intro a w H; try refine wpList_nil ?_
              refine mW ?_; clear H; intro a w H
              have eb : (bif !W.isEmpty then und d bkey top else false) = (!W.isEmpty && und d bkey top) := by cases W.isEmpty <;> rfl
              rw [eb] at H
              refine wp_ret ?_
              exact v_endY (rs := [.cell 12 50, .tmp 13]) (ress := [_, _]) (nb := 2) (nr := 0) [0, 1] tab_ok hM rfl (RelY.close hB hZ H) (by rfl) rfl cbX caX rfl ⟨hW2, rfl, rfl⟩
            · rw [k1, decide_eq_false_iff_not] at hb
              rw [if_neg hb]
              have hk2 : bk = 2 := by
                rcases Br.clean_k hc with h | h | h | h
                · exact absurd h n0
                · exact absurd h hb
                · exact h
                · exact absurd h n3
              clear hb
              subst hk2
              refine mW ?_; clear H; intro a w H
              simp only [Bool.not_not] at H
              refine mC H (fun hb => ?_) (fun hb => ?_)
              · have e : ∀ {α : Type} (u w : α), (if W.isEmpty = true then u else if 256 ≤ d then u else w) = u := fun u w => by
                  cases hwe : W.isEmpty
                  · rw [if_neg (by decide)]
                    rw [hwe] at hb
                    have hb2 : decide (256 ≤ (d : Int)) = true := hb
                    rw [decide_eq_true_eq] at hb2
                    rw [if_pos (by omega)]
                  · rw [if_pos rfl]
                rw [e]
                simp only [z32]
                clear hb
                refine mW ?_; clear H; intro a w H
                refine wp_ret ?_
                exact v_endY (rs := [.cell 12 50, .tmp 13]) (ress := [_, _]) (nb := 2) (nr := 0) [0, 1] tab_ok hM rfl (RelY.close hB hZ H) (by rfl) rfl cbX caX rfl ⟨hW, rfl, rfl⟩
              · have hwe : W.isEmpty = false := by
                  cases hwe : W.isEmpty
                  · rfl
                  · rw [hwe] at hb; cases hb
                have hd : d < 256 := by
                  rw [hwe] at hb
                  have hb2 : decide (256 ≤ (d : Int)) = false := hb
                  rw [decide_eq_false_iff_not] at hb2
                  omega
                clear hb
                rw [if_neg (by rw [hwe]; decide), if_neg (by omega)]
                have hp := mpart_le d W
                have hpart := mparted_v (W.map (·.key)) (fun k hk => by obtain ⟨w, hw, rfl⟩ := List.mem_map.1 hk; exact (hwf w (by simp [hw])).key) (by rw [List.length_map]; have := congrArg List.length hkey; simp at this; omega) d hd
                rw [← mpart_eq] at hpart
                generalize mpartN d W = p at *
                have hA1 : A ++ W.take p ++ (W.drop p ++ B) = A ++ W ++ B := by rw [List.append_assoc, ← List.append_assoc (W.take p), List.take_append_drop, List.append_assoc]
                have hsl : List.drop A.length (List.take (A.length + W.length) (bas ks)) = bas (W.map (·.key)) := by
                  rw [← hkey]
                  simp only [bas, List.map_append, List.append_assoc]
                  rw [List.take_append, List.take_of_length_le (by simp), List.drop_append, List.drop_of_length_le (by simp)]
                  simp
                clear hX; have hX := And.intro @ht (And.intro @q1 (And.intro @q2 (And.intro @q3 (And.intro @hs0 (And.intro @hl0 (@hbl))))))
                refine mW ?_; clear H; intro a w H
                rw [hsl] at H
                refine mCall [] [] (hpart) H ?_; clear H; intro a w H; try refine wpList_nil ?_
                have hlp : (W.take p).length = p := List.length_take_of_le hp
                have x1 := plM_wf (f := f) (top := top) (d := d + 1) hrw2 (ws := W.take p) (fun w hw => hwf w (by have := List.mem_of_mem_take hw; simp [this]))
                have x2 := plM_len (f := f) (top := top) (d := d + 1) (ws := W.take p) (l := rest)
                have x3 := plM_keys (f := f) (top := top) (d := d + 1) (ws := W.take p) (l := rest)
                have x4 := plM_few (m := 599 - f) (f := f) (top := top) (d := d + 1) (ws := W.take p) (l := rest) (fun w hw => by have := hfw w (List.mem_of_mem_take hw); omega)
                have ih1 := ih top (d + 1) A (W.take p) (W.drop p ++ B) rest X (by omega) (by omega) ht hrw2 (by omega) (by rw [hA1]; exact hkey) (by rw [hA1]; exact hwf) (by rw [hA1]; exact hfew) (fun w hw => by have := hfw w (List.mem_of_mem_take hw); omega) (by rw [hA1]; exact hW)
                rw [hA1, hlp, show ((A.length + p : Nat) : Int) = (A.length : Int) + (p : Int) by omega, show ((d + 1 : Nat) : Int) = (d : Int) + 1 by omega] at ih1
                rw [hlp] at x2
                generalize plM f top (d + 1) (W.take p) rest = x at *
                obtain ⟨xr, xw, xh, xo⟩ := x
                obtain ⟨x5, x6, x7, x8⟩ := x1
                dsimp only at x2 x3 x4 x5 x6 x7 x8 ih1 ⊢
                clear hX; have hX := And.intro @ht (And.intro @q1 (And.intro @q2 (And.intro @q3 (And.intro @hs0 (And.intro @hl0 (@x8))))))
                refine mW ?_; clear H; intro a w H
                refine v_callY [0, 1] (ih1) hL hB hZ H (by rintro Y bx' res ⟨_, rfl, rfl⟩; exact ⟨rfl, rfl⟩) ?_
                clear H hB hZ hN hR
                rintro X1 bx' res a w ⟨hWX1, rfl, rfl⟩ H
                replace H := nfY H
                obtain ⟨N1, hB, hZ, H, hN1, hR1⟩ := H.open_
                have hN : N1.bx.length ≤ 5 := Nat.le_of_eq hN1
                have hR : N1.rw.length ≤ 0 := Nat.le_of_eq hR1
                clear hN1 hR1
                have hl1 : (wyE (A ++ xw ++ (W.drop p ++ B)) X1).length = n := by rw [wyE_len hWX1.len, ← hnl, ← hA1]; simp [x2, hp]
                clear hX; have hX := And.intro @ht (And.intro @q1 (And.intro @q2 (And.intro @q3 (And.intro @hs0 (And.intro @hl1 (@x8))))))
                refine mW ?_; clear H; intro a w H
                refine mC H (fun hb => ?_) (fun hb => ?_)
                · have hxo : xo = false := by simpa using hb
                  rw [if_pos hxo]
                  dsimp only
                  simp only [z32]
                  clear hb
                  have ea : A ++ (xw ++ W.drop p) ++ B = A ++ xw ++ (W.drop p ++ B) := by simp only [List.append_assoc]
                  rw [ea]
                  refine mW ?_; clear H; intro a w H
                  refine wp_ret ?_
                  exact v_endY (rs := [.cell 12 50, .tmp 13]) (ress := [_, _]) (nb := 2) (nr := 0) [0, 1] tab_ok hM rfl (RelY.close hB hZ H) (by rfl) rfl cbX caX rfl ⟨hWX1, rfl, rfl⟩
                · have hxo : xo = true := by simpa using hb
                  rw [if_neg (by rw [hxo]; decide)]
                  clear hb
                  replace H := mK [0, 1, 2, 3, 5, 10, 12, 16, 17, 18, 118] 6 0 hN hR H
                  have hfl := flip_v top ht d hd
                  have hfll := flipL_len top d
                  rw [ht] at hfll
                  have hmem : ∀ w ∈ A ++ xw ++ W.drop p ++ B, w.wf ∧ w.sd.length ≤ 1000 := fun w hw => by
                    simp only [List.mem_append] at hw
                    rcases hw with ((hw | hw) | hw) | hw
                    · exact ⟨hwf w (by simp [hw]), hfew w (by simp [hw])⟩
                    · exact ⟨x7 w hw, by have := x4 w hw; omega⟩
                    · have := List.mem_of_mem_drop hw; exact ⟨hwf w (by simp [this]), hfew w (by simp [this])⟩
                    · exact ⟨hwf w (by simp [hw]), hfew w (by simp [hw])⟩
                  have hx5 : ∀ b ∈ xr, b.wf := fun b hb => hrw2 b (x5 b hb)
                  have y1 := plM_wf (f := f) (top := flipL top d) (d := d + 1) (l := xr) hx5 (ws := W.drop p) (fun w hw => hwf w (by have := List.mem_of_mem_drop hw; simp [this]))
                  have y2 := plM_len (f := f) (top := flipL top d) (d := d + 1) (ws := W.drop p) (l := xr)
                  have y3 := plM_keys (f := f) (top := flipL top d) (d := d + 1) (ws := W.drop p) (l := xr)
                  have y4 := plM_few (m := 599 - f) (f := f) (top := flipL top d) (d := d + 1) (ws := W.drop p) (l := xr) (fun w hw => by have := hfw w (List.mem_of_mem_drop hw); omega)
                  have hk2 : (A ++ xw ++ W.drop p ++ B).map (·.key) = ks := by
                    rw [← hkey, ← hA1]; simp only [List.map_append, x3, List.append_assoc]
                  have ih2 := ih (flipL top d) (d + 1) (A ++ xw) (W.drop p) B xr X1 (by omega) (by omega) hfll hx5 (by omega) hk2 (fun w hw => (hmem w hw).1) (fun w hw => (hmem w hw).2) (fun w hw => by have := hfw w (List.mem_of_mem_drop hw); omega) (by rw [List.append_assoc]; exact hWX1)
                  have hdl : (W.drop p).length = W.length - p := List.length_drop
                  rw [List.length_append, x2, hdl, show A.length + p + (W.length - p) = A.length + W.length by omega, show ((A.length + p : Nat) : Int) = (A.length : Int) + (p : Int) by omega, show ((d + 1 : Nat) : Int) = (d : Int) + 1 by omega] at ih2
                  rw [hdl] at y2
                  have hAx : A ++ xw ++ (W.drop p ++ B) = A ++ xw ++ W.drop p ++ B := by simp only [List.append_assoc]
                  rw [hAx] at H hl1
                  generalize flipL top d = tf at *
                  generalize plM f tf (d + 1) (W.drop p) xr = y at *
                  obtain ⟨yr, yw, yh, yo⟩ := y
                  obtain ⟨y5, y6, y7, y8⟩ := y1
                  dsimp only at y2 y3 y4 y5 y6 y7 y8 ih2 ⊢
                  clear hX; have hX := And.intro @ht (And.intro @hs0 (And.intro @hl1 (And.intro @x8 (And.intro @hfll (@y8)))))
                  refine mW ?_; clear H; intro a w H
                  refine mCall [] [] (hfl) H ?_; clear H; intro a w H; try refine wpList_nil ?_
                  refine mW ?_; clear H; intro a w H
                  refine v_callY [0, 1] (ih2) hL hB hZ H (by rintro Y bx' res ⟨_, rfl, rfl⟩; exact ⟨rfl, rfl⟩) ?_
                  clear H hB hZ hN hR
                  rintro X2 bx' res a w ⟨hWX2, rfl, rfl⟩ H
                  replace H := nfY H
                  obtain ⟨N1, hB, hZ, H, hN1, hR1⟩ := H.open_
                  have hN : N1.bx.length ≤ 7 := Nat.le_of_eq hN1
                  have hR : N1.rw.length ≤ 0 := Nat.le_of_eq hR1
                  clear hN1 hR1
                  have hl2 : (wyE (A ++ xw ++ yw ++ B) X2).length = n := by rw [wyE_len hWX2.len, ← hnl]; simp [x2, y2]; omega
                  clear hX; have hX := And.intro @ht (And.intro @hs0 (And.intro @hl2 (And.intro @x8 (And.intro @hfll (@y8)))))
                  refine mW ?_; clear H; intro a w H
                  have hn2 : (A ++ xw ++ yw ++ B).length = n := by rw [← hnl]; simp [x2, y2]; omega
                  have hfw2 : ∀ w ∈ A ++ xw ++ yw ++ B, w.sd.length ≤ 1000 := fun w hw => by
                    simp only [List.mem_append] at hw
                    rcases hw with ((hw | hw) | hw) | hw
                    · exact hfew w (by simp [hw])
                    · have := x4 w hw; omega
                    · have := y4 w hw; omega
                    · exact hfew w (by simp [hw])
                  have a1 := maside_v yr (sum [0]) hs0 yh y8 (A ++ xw ++ yw ++ B) hfw2 n hn2 hn A.length (A.length + p) (Nat.le_add_right _ _) (by rw [← hnl]; simp; omega) X2 hWX2
                  have ea1 : asd yh A.length (A.length + p) (A ++ xw ++ yw ++ B) = A ++ xw.map (MW.aside yh) ++ yw ++ B := by
                    have := asd_mid yh A xw (yw ++ B); rw [x2] at this; simpa only [List.append_assoc] using this
                  rw [ea1, show ((A.length + p : Nat) : Int) = (A.length : Int) + (p : Int) by omega] at a1
                  refine v_callY [0, 1] (a1) hL hB hZ H (by rintro Y bx' res ⟨_, rfl, rfl⟩; exact ⟨rfl, rfl⟩) ?_
                  clear H hB hZ hN hR
                  rintro X3 bx' res a w ⟨hWX3, rfl, rfl⟩ H
                  replace H := nfY H
                  obtain ⟨N1, hB, hZ, H, hN1, hR1⟩ := H.open_
                  have hN : N1.bx.length ≤ 8 := Nat.le_of_eq hN1
                  have hR : N1.rw.length ≤ 0 := Nat.le_of_eq hR1
                  clear hN1 hR1
                  have hn3 : (A ++ xw.map (MW.aside yh) ++ yw ++ B).length = n := by rw [← hn2]; simp
                  have hl3 : (wyE (A ++ xw.map (MW.aside yh) ++ yw ++ B) X3).length = n := by rw [wyE_len hWX3.len]; exact hn3
                  have hfw3 : ∀ w ∈ A ++ xw.map (MW.aside yh) ++ yw ++ B, w.sd.length ≤ 1000 := fun w hw => by
                    simp only [List.mem_append] at hw
                    rcases hw with ((hw | hw) | hw) | hw
                    · exact hfew w (by simp [hw])
                    · obtain ⟨z, hz, rfl⟩ := List.mem_map.1 hw
                      have := x4 z hz
                      show (z.sd ++ [_]).length ≤ _
                      rw [List.length_append, List.length_singleton]; omega
                    · have := y4 w hw; omega
                    · exact hfew w (by simp [hw])
                  have a2 := maside_v yr (sum [0]) hs0 xh x8 (A ++ xw.map (MW.aside yh) ++ yw ++ B) hfw3 n hn3 hn (A.length + p) (A.length + W.length) (by omega) (by rw [← hnl]; simp) X3 hWX3
                  have ea2 : asd xh (A.length + p) (A.length + W.length) (A ++ xw.map (MW.aside yh) ++ yw ++ B) = A ++ (xw.map (MW.aside yh) ++ yw.map (MW.aside xh)) ++ B := by
                    have := asd_mid xh (A ++ xw.map (MW.aside yh)) yw B
                    rw [List.length_append, List.length_map, x2, y2, show A.length + p + (W.length - p) = A.length + W.length by omega] at this
                    rw [this]; simp only [List.append_assoc]
                  rw [ea2, show ((A.length + p : Nat) : Int) = (A.length : Int) + (p : Int) by omega] at a2
                  clear hX; have hX := And.intro @ht (And.intro @hs0 (And.intro @hl3 (And.intro @x8 (And.intro @hfll (@y8)))))
                  refine mW ?_; clear H; intro a w H
                  refine v_callY [0, 1] (a2) hL hB hZ H (by rintro Y bx' res ⟨_, rfl, rfl⟩; exact ⟨rfl, rfl⟩) ?_
                  clear H hB hZ hN hR
                  rintro X4 bx' res a w ⟨hWX4, rfl, rfl⟩ H
                  replace H := nfY H
                  obtain ⟨N1, hB, hZ, H, hN1, hR1⟩ := H.open_
                  have hN : N1.bx.length ≤ 8 := Nat.le_of_eq hN1
                  have hR : N1.rw.length ≤ 0 := Nat.le_of_eq hR1
                  clear hN1 hR1
                  have hl4 : (wyE (A ++ (xw.map (MW.aside yh) ++ yw.map (MW.aside xh)) ++ B) X4).length = n := by rw [wyE_len hWX4.len, ← hn3]; simp
                  have hin := inner_v xh yh x8 y8
                  have hinl := innerH_len xh yh
                  clear hX; have hX := And.intro @ht (And.intro @hs0 (And.intro @hl4 (And.intro @x8 (And.intro @hfll (And.intro @y8 (@hinl))))))
                  refine mW ?_; clear H; intro a w H
                  refine mCall [] [] (hin) H ?_; clear H; intro a w H; try refine wpList_nil ?_
                  refine mW ?_; clear H; intro a w H
                  refine wp_ret ?_
                  exact v_endY (rs := [.cell 12 50, .tmp 13]) (ress := [_, _]) (nb := 2) (nr := 0) [0, 1] tab_ok hM rfl (RelY.close hB hZ H) (by rfl) rfl cbX caX rfl ⟨hWX4, rfl, rfl⟩
end Go.Proofs.Ytigmpdhnhkdeiaa
/- The document's keys with a bit as said: ref04.Set, Filled; what has to be open: ref20.Open of a stretch. -/
namespace Go.Proofs.Ytigmpdhnhkdeiaa
open Go Go.RowKit
def setL (p : List UInt8) (d : Nat) (b : Bool) : List UInt8 := if bitN p d = b then p else flipL p d
theorem setL_len (p : List UInt8) (d : Nat) (b : Bool) : (setL p d b).length = p.length := by unfold setL; split; rfl; exact flipL_len _ _
theorem setL_low {d : Nat} {p : List UInt8} (h : Low d p) (hd : d < 256) : setL p d false = p ∧ setL p d true = flipL p d := by
  unfold setL
  rw [h.2 d (Nat.le_refl _) hd]
  exact ⟨if_pos rfl, if_neg (by decide)⟩
set_option maxRecDepth 100000 in
theorem setX_ : ∀ (m : Fin 8) (x : Fin 256) (b : Bool), 0 ≤ (x.val : Int) + ((if b then 1 else 0) - (if bitAt (UInt8.ofNat x.val) m.val then 1 else 0)) * ((2 : Int) ^ (7 - m.val)) ∧ (x.val : Int) + ((if b then 1 else 0) - (if bitAt (UInt8.ofNat x.val) m.val then 1 else 0)) * ((2 : Int) ^ (7 - m.val)) ≤ 255 ∧
    UInt8.ofNat ((x.val : Int) + ((if b then 1 else 0) - (if bitAt (UInt8.ofNat x.val) m.val then 1 else 0)) * ((2 : Int) ^ (7 - m.val))).toNat = if bitAt (UInt8.ofNat x.val) m.val = b then UInt8.ofNat x.val else UInt8.ofNat x.val ^^^ UInt8.ofNat (128 / 2 ^ m.val) := by decide +kernel
set_option maxRecDepth 20000 in
theorem setR_v (p : List UInt8) (hp : p.length = 32) (d : Nat) (hd : d < 256) (b : Bool) : VC Try.prog 177 [.ba p, .v (.int .i64 (d : Int)), .v (.int .i64 (if b then 1 else 0))] [] (.ba (setL p d b)) := by
  have hbit := bitR_v p hp (d : Int)
  have hpb : pbit p (d : Int) = if bitN p d then 1 else 0 := by rw [pbit, if_pos (by omega), Int.toNat_natCast]
  rw [hpb] at hbit
  obtain ⟨s1, s2, s3⟩ := setX_ ⟨d % 8, by omega⟩ ⟨(p.getD (d / 8) 0).toNat, UInt8.toNat_lt _⟩ b
  simp only [UInt8.ofNat_toNat] at s1 s2 s3
  have hbn : bitAt (p.getD (d / 8) 0) (d % 8) = bitN p d := rfl
  rw [hbn] at s1 s2 s3
  have e8 : ((d : Int) / 8).toNat = d / 8 := by omega
  have hbi : (if b then (1 : Int) else 0) = 0 ∨ (if b then (1 : Int) else 0) = 1 := by cases b <;> simp
  have hbj : (if bitN p d then (1 : Int) else 0) = 0 ∨ (if bitN p d then (1 : Int) else 0) = 1 := by cases bitN p d <;> simp
  have hres : p.set (d / 8) (UInt8.ofNat (((p.getD (d / 8) 0).toNat : Int) + ((if b then 1 else 0) - (if bitN p d then 1 else 0)) * ((2 : Int) ^ (7 - d % 8))).toNat) = setL p d b := by
    rw [s3]; unfold setL
    split
    · rw [List.getD_eq_getElem?_getD, List.getElem?_eq_getElem (by omega)]; simp
    · rfl
  generalize hbv : (if b then (1 : Int) else 0) = bv at *
  generalize hbw : (if bitN p d then (1 : Int) else 0) = bw at *
  refine mE Try.func177 ?_; intro N w0 a w hN hR H
  refine mW ?_; clear H; intro a w H
  refine v_loop (fun i : Nat => ⟨[(8, none, .v (.int .i64 (i : Int))), (7, none, .v (.int .i64 ((2 ^ i : Nat) : Int))), (6, none, .ptr 1 []), (3, none, .ptr 0 []), (1, none, .v (.int .i64 (d : Int))), (2, none, .v (.int .i64 bv))], [(.ba 32, .ba p), (.ba 32, .ba (List.replicate 32 0))], [], []⟩)
    (fun i => i ≤ 7 - d % 8) (fun i => 7 - d % 8 - i) 0 (Nat.zero_le _) (H.to 2 0 ⟨Nat.le_trans hN (Nat.zero_le _), hR⟩ ⟨rfl, rfl, rfl, rfl, rfl, rfl, trivial⟩ rfl rfl rfl rfl rfl) ?_
  clear H
  intro i a w hi H
  have hi7 : i ≤ 7 := by omega
  have hp2 : 2 ^ i ≤ 128 := by
    have : 2 ^ i ≤ 2 ^ 7 := Nat.pow_le_pow_right (by decide) hi7
    exact this
  obtain ⟨v, hv⟩ : ∃ v, v = 2 ^ i := ⟨_, rfl⟩
  rw [← hv] at H hp2
  have hv' : PLift (v = 2 ^ i) := ⟨hv⟩
  clear hv
  refine mW ?_; clear H; intro a w H
  refine mC H (fun hb => ?_) (fun hb => ?_)
  · have hlt : i < 7 - d % 8 := by rw [decide_eq_true_eq] at hb; omega
    clear hb s1 s2 s3 hres
    refine mW ?_; clear H; intro a w H
    have e2 : (2 : Int) * (v : Int) = ((2 ^ (i + 1) : Nat) : Int) := by
      have hv : v = 2 ^ i := hv'.down
      rw [Nat.pow_succ, ← hv]; omega
    rw [e2] at H
    exact ⟨i + 1, by omega, by omega, H.to 2 0 ⟨Nat.le_trans hN (by decide), hR⟩ ⟨rfl, rfl, rfl, rfl, rfl, rfl, trivial⟩ rfl rfl rfl rfl rfl⟩
  · have hge : i = 7 - d % 8 := by rw [decide_eq_false_iff_not] at hb; omega
    clear hb
    subst hge
    have e9 : (2 : Int) ^ (7 - d % 8) = (v : Int) := by
      have hv : v = 2 ^ (7 - d % 8) := hv'.down
      rw [hv]; simp
    rw [e9] at s1 s2 s3 hres
    clear hv' e9
    have hx8 := (p.getD (d / 8) 0).toNat_lt
    refine mS ?_
    have hX := @e8
    have hY := @hp
    refine mS ?_; refine mD 2 [8] [0, 1, 2, 3, 4, 5, 10] H ?_; clear H; intro gS H; refine mT ?_; clear H; intro a w H
    refine mT ?_; clear H; intro a w H
    refine mCallT [] [] (hbit) H ?_; clear H; intro a w H
    refine mT ?_; clear H; intro a w H
    refine v_drawNil H ?_; clear H; intro H
    refine mW ?_; clear H; intro a w H
    rw [Int.emod_eq_of_lt s1 (by omega), hres] at H
    have hsl := setL_len p d b
    rw [hp] at hsl
    clear hX; have hX := @hsl
    refine wp_ret ?_; exact mEnd [] [] [.cell 6 49] [_] hN hR H
end Go.Proofs.Ytigmpdhnhkdeiaa
/- The document's keys from a depth on (ref04.Filled); what has to be open for a stretch (ref20.Open). -/
namespace Go.Proofs.Ytigmpdhnhkdeiaa
open Go Go.RowKit
end Go.Proofs.Ytigmpdhnhkdeiaa
/- What has to be open for a stretch: ref20.Open. -/
namespace Go.Proofs.Ytigmpdhnhkdeiaa
open Go Go.RowKit
end Go.Proofs.Ytigmpdhnhkdeiaa
/- Places of a sketch (plain): what the document's reader tells. -/
namespace Go.Proofs.Ytigmpdhnhkdeiaa
open Go Go.RowKit
/-- A place: its part, its digest, its depth, a key that goes there, how many parts it and all below it have. -/
structure Pl where
  b : Br
  g : List UInt8
  d : Nat
  p : List UInt8
  n : Nat
def Tr.part : Tr → Br
  | .e => ⟨0, z32, z32, z32⟩
  | .c g => ⟨3, z32, z32, g⟩
  | .l k v => ⟨1, k, v, z32⟩
  | .n _ _ => ⟨2, z32, z32, z32⟩
def Tr.num : Tr → Nat
  | .n a b => 1 + a.num + b.num
  | _ => 1
def Tr.pl : Tr → List UInt8 → Nat → List Pl
  | .n a b, p, d => ⟨⟨2, z32, z32, z32⟩, innerH a.dg b.dg, d, p, 1 + a.num + b.num⟩ :: (a.pl p (d + 1) ++ b.pl (flipL p d) (d + 1))
  | .e, p, d => [⟨Tr.e.part, Tr.e.dg, d, p, 1⟩]
  | .c g, p, d => [⟨(Tr.c g).part, (Tr.c g).dg, d, p, 1⟩]
  | .l k v, p, d => [⟨(Tr.l k v).part, (Tr.l k v).dg, d, p, 1⟩]
theorem Tr.num_pos (t : Tr) : 0 < t.num := by cases t <;> simp [Tr.num]; omega
theorem Tr.pl_len (t : Tr) : ∀ p d, (t.pl p d).length = t.num := by
  induction t with
  | n a b ha hb => intro p d; simp only [Tr.pl, List.length_cons, List.length_append, ha, hb, Tr.num]; omega
  | _ => intro p d; rfl
theorem Tr.pl_head (t : Tr) (p : List UInt8) (d : Nat) : ∃ r, t.pl p d = ⟨t.part, t.dg, d, p, t.num⟩ :: r := by
  cases t <;> exact ⟨_, rfl⟩
theorem clean_e {b : Br} (h : b.clean = true) : (b.k = 0 → b = Tr.e.part) ∧ (b.k = 1 → b = (Tr.l b.key b.v).part) ∧ (b.k = 2 → b = ⟨2, z32, z32, z32⟩) ∧ (b.k = 3 → b = (Tr.c b.g).part) := by
  obtain ⟨k, key, v, g⟩ := b
  refine ⟨fun e => ?_, fun e => ?_, fun e => ?_, fun e => ?_⟩ <;> dsimp only at e <;> subst e <;> unfold Br.clean at h
  · rw [if_pos (Or.inl rfl), decide_eq_true_iff] at h; obtain ⟨h1, h2, h3⟩ := h; dsimp only at h1 h2 h3; rw [h1, h2, h3]; rfl
  · rw [if_neg (by dsimp only; decide), if_pos rfl, decide_eq_true_iff] at h; dsimp only at h; rw [h]; rfl
  · rw [if_pos (Or.inr rfl), decide_eq_true_iff] at h; obtain ⟨h1, h2, h3⟩ := h; dsimp only at h1 h2 h3; rw [h1, h2, h3]
  · rw [if_neg (by dsimp only; decide), if_neg (by dsimp only; decide), if_pos rfl, decide_eq_true_iff] at h; obtain ⟨h1, h2⟩ := h; dsimp only at h1 h2; rw [h1, h2]; rfl
/-- The document's reader. -/
def rdP (op : List UInt8 → Nat → Bool) : Nat → List Br → List UInt8 → Nat → List Pl × Bool
  | 0, _, _, _ => ([], false)
  | _ + 1, [], _, _ => ([], false)
  | f + 1, b :: r, p, d =>
    if b.clean = false then ([], false)
    else if b.k = 0 then ([⟨b, sum [0], d, p, 1⟩], true)
    else if op p d = false then ([⟨b, b.g, d, p, 1⟩], decide (b.k = 3))
    else if b.k = 1 then ([⟨b, leafH b.key b.v, d, p, 1⟩], und d b.key p)
    else if b.k ≠ 2 ∨ 255 < d then ([], false)
    else
      let x := rdP op f r p (d + 1)
      if x.2 = false then ([], false) else
      let y := rdP op f ((b :: r).drop (1 + ((x.1.head?.map Pl.n).getD 0))) (flipL p d) (d + 1)
      if y.2 = false then ([], false) else
      (⟨b, innerH ((x.1.head?.map Pl.g).getD z32) ((y.1.head?.map Pl.g).getD z32), d, p, 1 + ((x.1.head?.map Pl.n).getD 0) + ((y.1.head?.map Pl.n).getD 0)⟩ :: (x.1 ++ y.1), true)
theorem rdP_some {op : List UInt8 → Nat → Bool} : ∀ {f : Nat} {p : List UInt8} {d : Nat} {l : List Br} {t : Tr} {r : List Br}, f + d = 257 → rdTr op f p d l = some (t, r) → rdP op f l p d = (t.pl p d, true) ∧ l.drop t.num = r ∧ t.num ≤ l.length
  | 0, p, d, l, t, r, _, h => by simp [rdTr] at h
  | f + 1, p, d, [], t, r, _, h => by simp [rdTr] at h
  | f + 1, p, d, b :: rest, t, r, hf, h => by
    unfold rdTr at h
    unfold rdP
    split at h
    · cases h
    · rename_i h1
      rw [if_neg h1]
      have hc := clean_e (by simpa using h1)
      split at h
      · rename_i h2
        simp only [Option.some.injEq, Prod.mk.injEq] at h; obtain ⟨rfl, rfl⟩ := h
        rw [if_pos h2]
        refine ⟨?_, rfl, by simp [Tr.num]⟩
        rw [hc.1 h2]; rfl
      · rename_i h2
        rw [if_neg h2]
        split at h
        · rename_i h3
          split at h
          · cases h
          · rename_i h4
            simp only [Option.some.injEq, Prod.mk.injEq] at h; obtain ⟨rfl, rfl⟩ := h
            rw [if_pos (by simpa using h4)]
            refine ⟨?_, rfl, by simp [Tr.num]⟩
            simp only [Tr.pl, Tr.dg, Prod.mk.injEq, List.cons.injEq, Pl.mk.injEq, and_true]
            exact ⟨hc.2.2.2 h3, decide_eq_true h3⟩
        · rename_i h3
          split at h
          · cases h
          · rename_i h4
            rw [if_neg h4]
            split at h
            · rename_i h5
              rw [if_pos h5]
              split at h
              · rename_i h6
                simp only [Option.some.injEq, Prod.mk.injEq] at h; obtain ⟨rfl, rfl⟩ := h
                refine ⟨?_, rfl, by simp [Tr.num]⟩
                simp only [Tr.pl, Tr.dg, Prod.mk.injEq, List.cons.injEq, Pl.mk.injEq, and_true]
                exact ⟨hc.2.1 h5, h6⟩
              · cases h
            · rename_i h5
              rw [if_neg h5]
              split at h
              · cases h
              · rename_i h6
                have hk2 : b.k = 2 := by
                  rcases Br.clean_k (by simpa using h1) with q | q | q | q
                  · exact absurd q h2
                  · exact absurd q h5
                  · exact q
                  · exact absurd q h3
                rw [if_neg (by rintro (q | q); exact q hk2; omega)]
                split at h
                · cases h
                · rename_i x r1 e1
                  split at h
                  · cases h
                  · rename_i y r2 e2
                    simp only [Option.some.injEq, Prod.mk.injEq] at h; obtain ⟨rfl, rfl⟩ := h
                    obtain ⟨a1, a2, a3⟩ := rdP_some (by omega) e1
                    obtain ⟨b1, b2, b3⟩ := rdP_some (by omega) e2
                    obtain ⟨q1, hq1⟩ := x.pl_head p (d + 1)
                    obtain ⟨q2, hq2⟩ := y.pl_head (flipL p d) (d + 1)
                    have hdr : (b :: rest).drop (1 + x.num) = r1 := by rw [Nat.add_comm, List.drop_succ_cons]; exact a2
                    have hd1 : (((x.pl p (d + 1)).head?.map Pl.n).getD 0) = x.num := by rw [hq1]; rfl
                    have hd2 : (((y.pl (flipL p d) (d + 1)).head?.map Pl.n).getD 0) = y.num := by rw [hq2]; rfl
                    have hd3 : (((x.pl p (d + 1)).head?.map Pl.g).getD z32) = x.dg := by rw [hq1]; rfl
                    have hd4 : (((y.pl (flipL p d) (d + 1)).head?.map Pl.g).getD z32) = y.dg := by rw [hq2]; rfl
                    rw [a1]
                    dsimp only
                    rw [if_neg (by simp), hd1, hdr, b1]
                    dsimp only
                    rw [if_neg (by simp), hd2, hd3, hd4]
                    have hr1 : r1.length = rest.length - x.num := by rw [← a2, List.length_drop]
                    refine ⟨?_, ?_, ?_⟩
                    · simp only [Tr.pl, Prod.mk.injEq, List.cons.injEq, Pl.mk.injEq, and_true]
                      exact hc.2.2.1 hk2
                    · rw [Tr.num, show 1 + x.num + y.num = (x.num + y.num) + 1 by omega, List.drop_succ_cons, ← b2, ← a2, List.drop_drop]
                    · simp only [Tr.num, List.length_cons]; omega
theorem rdP_none {op : List UInt8 → Nat → Bool} : ∀ {f : Nat} {p : List UInt8} {d : Nat} {l : List Br}, f + d = 257 → rdTr op f p d l = none → (rdP op f l p d).2 = false
  | 0, p, d, l, _, h => by simp [rdP]
  | f + 1, p, d, [], _, h => by simp [rdP]
  | f + 1, p, d, b :: rest, hf, h => by
    unfold rdTr at h
    unfold rdP
    split at h
    · rename_i h1; rw [if_pos h1]
    · rename_i h1
      rw [if_neg h1]
      split at h
      · cases h
      · rename_i h2
        rw [if_neg h2]
        split at h
        · rename_i h3
          split at h
          · rename_i h4
            rw [if_neg (by rw [h4]; decide), if_neg (by rw [h3]; decide), if_pos (.inl (by rw [h3]; decide))]
          · cases h
        · rename_i h3
          split at h
          · rename_i h4; rw [if_pos h4]; exact decide_eq_false h3
          · rename_i h4
            rw [if_neg h4]
            split at h
            · rename_i h5
              rw [if_pos h5]
              split at h
              · cases h
              · rename_i h6; simpa using h6
            · rename_i h5
              rw [if_neg h5]
              split at h
              · rename_i h6
                rw [if_pos (.inr (by omega))]
              · rename_i h6
                split
                · rfl
                · split at h
                  · rename_i e1
                    dsimp only
                    rw [if_pos (rdP_none (by omega) e1)]
                  · rename_i x r1 e1
                    obtain ⟨a1, a2, a3⟩ := rdP_some (by omega) e1
                    obtain ⟨q1, hq1⟩ := x.pl_head p (d + 1)
                    have hd1 : (((x.pl p (d + 1)).head?.map Pl.n).getD 0) = x.num := by rw [hq1]; rfl
                    have hdr : (b :: rest).drop (1 + x.num) = r1 := by rw [Nat.add_comm, List.drop_succ_cons]; exact a2
                    split at h
                    · rename_i e2
                      rw [a1]
                      dsimp only
                      rw [if_neg (by simp), hd1, hdr, if_pos (rdP_none (by omega) e2)]
                    · cases h
end Go.Proofs.Ytigmpdhnhkdeiaa
/- A key's way through places (plain). -/
namespace Go.Proofs.Ytigmpdhnhkdeiaa
open Go Go.RowKit
/-- The place at which a key's way ends. -/
def Tr.last (key : List UInt8) : Nat → Tr → Tr
  | d, .n a b => if bitN key d then b.last key (d + 1) else a.last key (d + 1)
  | _, .e => .e
  | _, .c g => .c g
  | _, .l k v => .l k v
theorem rd_last {op : List UInt8 → Nat → Bool} {k : List UInt8} (hop : ∀ top d, d ≤ 256 → und d k top = true → op top d = true) : ∀ {f : Nat} {top : List UInt8} {d : Nat} {l : List Br} {t : Tr} {r : List Br}, f + d = 257 → Low d top → rdTr op f top d l = some (t, r) → und d k top = true → ∀ g, t.last k d ≠ .c g
  | 0, top, d, l, t, r, _, _, h, _ => by simp [rdTr] at h
  | f + 1, top, d, [], t, r, _, _, h, _ => by simp [rdTr] at h
  | f + 1, top, d, b :: rest, t, r, hf, hl, h, hu => by
    intro g
    unfold rdTr at h
    split at h
    · cases h
    · split at h
      · simp only [Option.some.injEq, Prod.mk.injEq] at h; obtain ⟨rfl, rfl⟩ := h; intro e; cases e
      · split at h
        · split at h
          · cases h
          · rename_i h4; exact absurd (hop top d (by omega) hu) h4
        · split at h
          · cases h
          · split at h
            · split at h
              · simp only [Option.some.injEq, Prod.mk.injEq] at h; obtain ⟨rfl, rfl⟩ := h; intro e; cases e
              · cases h
            · split at h
              · cases h
              · have hd : d < 256 := by omega
                split at h
                · cases h
                · rename_i x r1 e1
                  split at h
                  · cases h
                  · rename_i y r2 e2
                    simp only [Option.some.injEq, Prod.mk.injEq] at h; obtain ⟨rfl, rfl⟩ := h
                    unfold Tr.last
                    cases hb : bitN k d
                    · rw [if_neg (by decide)]
                      exact rd_last hop (by omega) hl.up e1 (by rw [und_left hd hl, hu, hb]; rfl) g
                    · rw [if_pos rfl]
                      exact rd_last hop (by omega) (hl.flip hd) e2 (by rw [und_right hd hl, hu, hb]; rfl) g
/-- A place of a list of places: a tree there, and what is after it. -/
def AtP (l : List Pl) (i : Nat) (u : Tr) (q : List UInt8) (e : Nat) : Prop := ∃ r, l.drop i = u.pl q e ++ r
theorem AtP.top (t : Tr) (p : List UInt8) (d : Nat) : AtP (t.pl p d) 0 t p d := ⟨[], by simp⟩
theorem AtP.get {l : List Pl} {i : Nat} {u : Tr} {q : List UInt8} {e : Nat} (h : AtP l i u q e) : i + u.num ≤ l.length ∧ l[i]? = some ⟨u.part, u.dg, e, q, u.num⟩ := by
  obtain ⟨r, h⟩ := h
  obtain ⟨r2, h2⟩ := u.pl_head q e
  have hl := congrArg List.length h
  rw [List.length_drop, List.length_append, Tr.pl_len] at hl
  have hp := u.num_pos
  refine ⟨by omega, ?_⟩
  have := congrArg (fun x => x[0]?) h
  simp only [List.getElem?_drop, Nat.add_zero] at this
  rw [this, h2]; rfl
theorem AtP.left {l : List Pl} {i : Nat} {a b : Tr} {q : List UInt8} {e : Nat} (h : AtP l i (.n a b) q e) : AtP l (i + 1) a q (e + 1) := by
  obtain ⟨r, h⟩ := h
  refine ⟨b.pl (flipL q e) (e + 1) ++ r, ?_⟩
  rw [← List.drop_drop, h]
  simp only [Tr.pl, List.cons_append, List.drop_succ_cons, List.drop_zero, List.append_assoc]
theorem AtP.right {l : List Pl} {i : Nat} {a b : Tr} {q : List UInt8} {e : Nat} (h : AtP l i (.n a b) q e) : AtP l (i + 1 + a.num) b (flipL q e) (e + 1) := by
  obtain ⟨r, h⟩ := h
  refine ⟨r, ?_⟩
  rw [← List.drop_drop, ← List.drop_drop, h]
  simp only [Tr.pl, List.cons_append, List.drop_succ_cons, List.drop_zero, List.append_assoc]
  rw [← Tr.pl_len a q (e + 1), List.drop_left]
theorem Tr.part_k (t : Tr) : t.part.k = 2 ↔ ∃ a b, t = .n a b := by
  cases t with
  | n a b => exact ⟨fun _ => ⟨a, b, rfl⟩, fun _ => rfl⟩
  | e => exact ⟨fun h => absurd h (by decide), fun ⟨_, _, h⟩ => by cases h⟩
  | c g => exact ⟨fun h => absurd h (by simp [Tr.part]), fun ⟨_, _, h⟩ => by cases h⟩
  | l k v => exact ⟨fun h => absurd h (by simp [Tr.part]), fun ⟨_, _, h⟩ => by cases h⟩
theorem Tr.last_n {key : List UInt8} {d : Nat} {t : Tr} (h : t.part.k ≠ 2) : t.last key d = t ∧ t.way key d = [] := by
  cases t with
  | n a b => exact absurd rfl h
  | _ => exact ⟨rfl, rfl⟩
theorem Tr.fin_last (key : List UInt8) (x : Nd) : ∀ (t : Tr) (d : Nat), t.fin key d x = match t.last key d with | .l k v => Nd.one k v | _ => x
  | .n a b, d => by
    unfold Tr.fin Tr.last
    split
    · exact Tr.fin_last key x b (d + 1)
    · exact Tr.fin_last key x a (d + 1)
  | .e, d => rfl
  | .c g, d => rfl
  | .l k v, d => rfl
def Pl.leaf (x : Pl) : Option (List UInt8 × List UInt8) := if x.b.k = 1 then some (x.b.key, x.b.v) else none
end Go.Proofs.Ytigmpdhnhkdeiaa
/- The document's reader of a sketch: ref20.Read, by what has to be open. -/
namespace Go.Proofs.Ytigmpdhnhkdeiaa
open Go Go.RowKit
/-- What is asked. -/
abbrev askE (ks : List (List UInt8)) (sp : Bool) (fr to : List UInt8) : AV := .st [.sl (.ba 32) (bas ks) none, .v (.bool sp), .ba fr, .ba to]
def Pl.av (x : Pl) : AV := .st [x.b.av, .ba x.g, .v (.int .i64 (x.d : Int)), .ba x.p, .v (.int .i64 (x.n : Int))]
def pls (l : List Pl) : List AV := l.map Pl.av
theorem pls_len (l : List Pl) : (pls l).length = l.length := by simp [pls]
abbrev plT : Ty := ti56.ty
theorem rd_dgl : ∀ {op : List UInt8 → Nat → Bool} {f : Nat} {p : List UInt8} {d : Nat} {l : List Br} {t : Tr} {r : List Br}, (∀ b ∈ l, b.wf) → rdTr op f p d l = some (t, r) → t.dg.length = 32 ∧ ∀ b ∈ r, b.wf
  | op, 0, p, d, l, t, r, _, h => by simp [rdTr] at h
  | op, f + 1, p, d, [], t, r, _, h => by simp [rdTr] at h
  | op, f + 1, p, d, b :: rest, t, r, hw, h => by
    have hw2 : ∀ b ∈ rest, b.wf := fun b hb => hw b (List.mem_cons_of_mem _ hb)
    unfold rdTr at h
    split at h
    · cases h
    · split at h
      · simp only [Option.some.injEq, Prod.mk.injEq] at h; obtain ⟨rfl, rfl⟩ := h; exact ⟨sum_length _, hw2⟩
      · split at h
        · split at h
          · cases h
          · simp only [Option.some.injEq, Prod.mk.injEq] at h; obtain ⟨rfl, rfl⟩ := h; exact ⟨(hw b List.mem_cons_self).g, hw2⟩
        · split at h
          · cases h
          · split at h
            · split at h
              · simp only [Option.some.injEq, Prod.mk.injEq] at h; obtain ⟨rfl, rfl⟩ := h; exact ⟨leafH_len _ _, hw2⟩
              · cases h
            · split at h
              · cases h
              · split at h
                · cases h
                · rename_i x r1 e1
                  split at h
                  · cases h
                  · rename_i y r2 e2
                    simp only [Option.some.injEq, Prod.mk.injEq] at h; obtain ⟨rfl, rfl⟩ := h
                    exact ⟨innerH_len _ _, (rd_dgl (rd_dgl hw2 e1).2 e2).2⟩
theorem rdP_cons (op : List UInt8 → Nat → Bool) (f : Nat) (b : Br) (r : List Br) (p : List UInt8) (d : Nat) : rdP op (f + 1) (b :: r) p d =
    if b.clean = false then ([], false)
    else if b.k = 0 then ([⟨b, sum [0], d, p, 1⟩], true)
    else if op p d = false then ([⟨b, b.g, d, p, 1⟩], decide (b.k = 3))
    else if b.k = 1 then ([⟨b, leafH b.key b.v, d, p, 1⟩], und d b.key p)
    else if b.k ≠ 2 ∨ 255 < d then ([], false)
    else
      if (rdP op f r p (d + 1)).2 = false then ([], false) else
      if (rdP op f ((b :: r).drop (1 + (((rdP op f r p (d + 1)).1.head?.map Pl.n).getD 0))) (flipL p d) (d + 1)).2 = false then ([], false) else
      (⟨b, innerH (((rdP op f r p (d + 1)).1.head?.map Pl.g).getD z32) (((rdP op f ((b :: r).drop (1 + (((rdP op f r p (d + 1)).1.head?.map Pl.n).getD 0))) (flipL p d) (d + 1)).1.head?.map Pl.g).getD z32), d, p, 1 + (((rdP op f r p (d + 1)).1.head?.map Pl.n).getD 0) + (((rdP op f ((b :: r).drop (1 + (((rdP op f r p (d + 1)).1.head?.map Pl.n).getD 0))) (flipL p d) (d + 1)).1.head?.map Pl.n).getD 0)⟩ :: ((rdP op f r p (d + 1)).1 ++ (rdP op f ((b :: r).drop (1 + (((rdP op f r p (d + 1)).1.head?.map Pl.n).getD 0))) (flipL p d) (d + 1)).1), true) := rfl
theorem Tr.pl_top (t : Tr) (p : List UInt8) (d : Nat) : ((t.pl p d).head?.map Pl.n).getD 0 = t.num ∧ ((t.pl p d).head?.map Pl.g).getD z32 = t.dg ∧ (pls (t.pl p d)).getD 0 .any = (⟨t.part, t.dg, d, p, t.num⟩ : Pl).av := by
  obtain ⟨r, h⟩ := t.pl_head p d
  rw [h]; exact ⟨rfl, rfl, rfl⟩
attribute [local irreducible] wpT
abbrev read20 (ks : List (List UInt8)) (sp : Bool) (fr to : List UInt8) (l : List Br) (p : List UInt8) (d : Nat) (L : List Pl) (o : Bool) : Prop :=
  VC Try.prog 111 [askE ks sp fr to, .sl brT (brs l) none, .ba p, .v (.int .i64 (d : Int))] [] (.tup [.sl plT (pls L) none, .v (.bool o)])
set_option maxRecDepth 20000 in
theorem read20_nil (ks : List (List UInt8)) (sp : Bool) (fr to p : List UInt8) (d : Nat) (h1 : fr.length = 32) (h2 : to.length = 32) (ht : p.length = 32) : read20 ks sp fr to [] p d [] false := by
  have hbl : (brs []).length = 0 := rfl
  unfold read20
  simp only [pls, List.map_nil]
  refine mE Try.func111 ?_; intro N w0 a w hN hR H
  have hX := And.intro @hbl (And.intro @ht (And.intro @h1 (@h2)))
  refine mW ?_; clear H; intro a w H
  refine mSk (.v (.bool true)) H ?_; clear H; intro a w H
  refine mW ?_; clear H; intro a w H
  refine mC H (fun hb => ?_) (fun hb => ?_)
  · refine mW ?_; clear H; intro a w H
    refine wp_ret ?_; exact mEnd [] [] [.tmp 8, .tmp 9] [_, _] hN hR H
  · exact absurd hb (by decide)
set_option maxRecDepth 20000 in
set_option maxHeartbeats 4000000 in
/-- What is read of a part that is none of an inner place. -/
theorem read20_one (ks : List (List UInt8)) (sp : Bool) (fr to : List UInt8) (op : List UInt8 → Nat → Bool) (h1 : fr.length = 32) (h2 : to.length = 32) (p : List UInt8) (d : Nat) (ht : p.length = 32) (hd256 : d ≤ 256) (b : Br) (rest : List Br) (hbw : b.wf)
    (hop1 : VC Try.prog 174 [askE ks sp fr to, .ba p, .v (.int .i64 ((d : Nat) : Int))] [] (.v (.bool (op p d)))) (hl : rest.length < 65536)
    (hno : b.clean = false ∨ b.k = 0 ∨ op p d = false ∨ b.k = 1 ∨ b.k ≠ 2 ∨ 255 < d) (f : Nat) :
    read20 ks sp fr to (b :: rest) p d (rdP op (f + 1) (b :: rest) p d).1 (rdP op (f + 1) (b :: rest) p d).2 := by
  have hcl := cleanR_v b hbw
  have hem := emptyR_v
  unfold read20
  rw [rdP_cons]
  obtain ⟨bk, bkey, bv, bg⟩ := b
  obtain ⟨q1, q2, q3⟩ := id hbw
  dsimp only at q1 q2 q3 hno
  have hun := underR_v bkey p q1 ht (d : Int)
  have eu : decide (0 ≤ (d : Int) ∧ (d : Int) ≤ 256 ∧ (d : Int) ≤ (com bkey p : Int)) = und d bkey p := by
    unfold und; rw [decide_eq_decide]; omega
  rw [eu] at hun
  have hlf := leafHR_v bkey bv q1 q2
  have hll := leafH_len bkey bv
  generalize hbe : brs (⟨bk, bkey, bv, bg⟩ :: rest) = B
  have hbl : B.length = rest.length + 1 := by rw [← hbe]; simp [brs]
  have hb0 : B.getD 0 .any = .st [.v (B8 bk), .ba bkey, .ba bv, .ba bg] := by rw [← hbe]; rfl
  have e0 : decide (((rest.length + 1 : Nat) : Int) = 0) = false := decide_eq_false (by omega)
  have k0 : decide ((bk.toNat : Int) = 0) = decide (bk = 0) := kz bk 0 (by decide)
  have k1 : decide ((bk.toNat : Int) = 1) = decide (bk = 1) := kz bk 1 (by decide)
  have k2 : decide ((bk.toNat : Int) = 2) = decide (bk = 2) := kz bk 2 (by decide)
  have k3 : decide ((bk.toNat : Int) = 3) = decide (bk = 3) := kz bk 3 (by decide)
  have hs0 : (sum [0]).length = 32 := sum_length _
  have hfit : fit (Ty.sc.cn ((Ty.ba 32).cn ((Ty.ba 32).cn ((Ty.ba 32).cn Ty.nl)))) (B.getD 0 AV.any) := by rw [hb0]; exact ⟨trivial, q1, q2, q3, trivial⟩
  dsimp only
  simp only [Br.av] at hcl
  clear hbe
  refine mE Try.func111 ?_; intro N w0 a w hN hR H
  have hX := And.intro @hbl (And.intro @hb0 (And.intro @ht (And.intro @q1 (And.intro @q2 (And.intro @q3 (And.intro @hs0 (And.intro @h1 (@h2))))))))
  refine mW ?_; clear H; intro a w H
  refine mCallG [] [] (hcl) H ?_; clear H; intro a w H; try refine wpList_nil ?_
  simp only [e0] at H
  refine mW ?_; clear H; intro a w H
  refine mC H (fun hb => ?_) (fun hb => ?_)
  · have hc : Br.clean ⟨bk, bkey, bv, bg⟩ = false := by simpa using hb
    rw [if_pos hc]
    simp only [pls, List.map_nil]
    refine mW ?_; clear H; intro a w H
    refine wp_ret ?_; exact mEnd [] [] [.tmp 8, .tmp 9] [_, _] hN hR H
  · have hc : Br.clean ⟨bk, bkey, bv, bg⟩ = true := by simpa using hb
    rw [if_neg (by rw [hc]; decide)]
    rw [hc] at hno
    clear hb
    refine mS ?_
    replace H := mK [0, 1, 2, 3, 4, 6, 8, 9] 2 0 hN hR H
    refine mW ?_; clear H; intro a w H
    refine mCall [] [] (hem) H ?_; clear H; intro a w H; try refine wpList_nil ?_
    refine mW ?_; clear H; intro a w H
    refine mC H (fun hb => ?_) (fun hb => ?_)
    · rw [k0, decide_eq_true_eq] at hb
      rw [if_pos hb]
      simp only [pls, List.map_cons, List.map_nil, Pl.av, Br.av]
      refine mW ?_; clear H; intro a w H
      refine wp_ret ?_; exact mEnd [] [] [.tmp 8, .tmp 9] [_, _] hN hR H
    · rw [k0, decide_eq_false_iff_not] at hb
      rw [if_neg hb]
      have n0 := hb
      clear hb
      refine mS ?_
      replace H := mK [0, 1, 2, 3, 4, 6, 8, 9, 10, 11] 5 0 hN hR H
      refine mW ?_; clear H; intro a w H
      refine mCall [] [] (hop1) H ?_; clear H; intro a w H; try refine wpList_nil ?_
      refine mW ?_; clear H; intro a w H
      refine mC H (fun hb => ?_) (fun hb => ?_)
      · have ho : op p d = false := by simpa using hb
        rw [if_pos ho]
        simp only [pls, List.map_cons, List.map_nil, Pl.av, Br.av]
        refine mW ?_; clear H; intro a w H
        refine mS ?_; refine mD 5 [1] [2, 3, 4] H ?_; clear H; intro gS H
        refine mT ?_; clear H; intro a w H
        refine v_drawNil H ?_; clear H; intro H
        simp only [k3] at H
        refine mW ?_; clear H; intro a w H
        refine wp_ret ?_; exact mEnd [] [] [.tmp 8, .tmp 9] [_, _] hN hR H
      · have ho : op p d = true := by simpa using hb
        rw [if_neg (by rw [ho]; decide)]
        rw [ho] at hno
        clear hb
        refine mS ?_
        replace H := mK [0, 1, 2, 3, 4, 6, 8, 9, 10, 11] 5 0 hN hR H
        refine mW ?_; clear H; intro a w H
        refine mC H (fun hb => ?_) (fun hb => ?_)
        · rw [k1, decide_eq_true_eq] at hb
          rw [if_pos hb]
          simp only [pls, List.map_cons, List.map_nil, Pl.av, Br.av]
          clear hX; have hX := And.intro @hbl (And.intro @hb0 (And.intro @ht (And.intro @q1 (And.intro @q2 (And.intro @q3 (And.intro @hs0 (And.intro @h1 (And.intro @h2 (@hll)))))))))
          refine mW ?_; clear H; intro a w H
          refine mCall [] [] (hlf) H ?_; clear H; intro a w H; try refine wpList_nil ?_
          refine mW ?_; clear H; intro a w H
          repeat (first | refine wp_seq ?_ | refine wp_block ?_)
          refine v_drawZ 5 [0, 2, 3, 4, 5, 1, 6, 7, 8] [1, 6] [0, 2, 3, 4, 5] [(1, 6)] (by kernel_rfl) (by kernel_rfl) (by kernel_rfl) (by kernel_rfl) (by kernel_rfl) H (by rfl) ?_; clear H; intro gS H; try replace H := ntf H
          repeat' ((first | refine wpZ_q1 rfl rfl ?_ | refine wpZ_l1 rfl rfl rfl ?_ | refine wpZ_l2 rfl rfl rfl rfl rfl ?_ ?_ | refine wpZ_l3 rfl rfl rfl rfl rfl rfl rfl ?_ ?_ ?_ | refine wpZ_l4 rfl rfl rfl rfl rfl rfl rfl rfl rfl ?_ ?_ ?_ ?_) <;> ((first | (refine wpT_at 6 ?_; refine mCallT [] [] (hun) H ?_; clear H; intro a w H) | (refine v_someT 1 tab_ok hN H rfl ctX ?_; clear H; intro a w H; replace H := ntf H; simp only [List.drop_succ_cons, List.drop_zero, List.drop_nil])); refine wpT_nil ?_; try dsimp only))
          all_goals (refine wpZ_nil ?_; replace H := RelT.toRel H)
          all_goals
            refine mW ?_; clear H; intro a w H
            refine wp_ret ?_; exact mEnd [] [] [.tmp 8, .tmp 9] [_, _] hN hR H
        · rw [k1, decide_eq_false_iff_not] at hb
          rw [if_neg hb]
          have n1 := hb
          clear hb
          refine mW ?_; clear H; intro a w H
          simp only [k2] at H
          have e : bk ≠ 2 ∨ 255 < d := by
            rcases hno with h | h | h | h | h
            · cases h
            · exact absurd h n0
            · cases h
            · exact absurd h n1
            · exact h
          refine mC H (fun hb => ?_) (fun hb => ?_)
          · rw [if_pos e]
            simp only [pls, List.map_nil]
            refine mW ?_; clear H; intro a w H
            refine wp_ret ?_; exact mEnd [] [] [.tmp 8, .tmp 9] [_, _] hN hR H
          · exfalso
            by_cases hk : bk = 2
            · rw [hk] at hb
              have : decide (255 < (d : Int)) = false := hb
              rw [decide_eq_false_iff_not] at this
              rcases e with e | e
              · exact e hk
              · omega
            · rw [decide_eq_false hk] at hb; cases hb
end Go.Proofs.Ytigmpdhnhkdeiaa
/- The document's reader of a sketch at an inner place. -/
namespace Go.Proofs.Ytigmpdhnhkdeiaa
open Go Go.RowKit
attribute [local irreducible] wpT
set_option maxRecDepth 20000 in
set_option maxHeartbeats 4000000 in
theorem read20_in1 (ks : List (List UInt8)) (sp : Bool) (fr to : List UInt8) (h1 : fr.length = 32) (h2 : to.length = 32) (p : List UInt8) (d : Nat) (hlow : Low d p) (hd : d < 256) (rest : List Br)
    (hop1 : VC Try.prog 174 [askE ks sp fr to, .ba p, .v (.int .i64 ((d : Nat) : Int))] [] (.v (.bool true))) (hl : rest.length < 65536) (L1 : List Pl)
    (c1 : read20 ks sp fr to rest p (d + 1) L1 false) :
    read20 ks sp fr to (⟨2, z32, z32, z32⟩ :: rest) p d [] false := by
  have ht := hlow.1
  have hz2 : (List.replicate 32 (0 : UInt8)).length = 32 := List.length_replicate
  have hcl := cleanR_v ⟨2, List.replicate 32 0, List.replicate 32 0, List.replicate 32 0⟩ ⟨hz2, hz2, hz2⟩
  rw [show Br.clean ⟨2, List.replicate 32 0, List.replicate 32 0, List.replicate 32 0⟩ = true by decide +kernel] at hcl
  have hem := emptyR_v
  unfold read20 at *
  simp only [z32]
  have hs1 := setR_v p ht d hd false
  have hs2 := setR_v p ht d hd true
  obtain ⟨w1, w2⟩ := setL_low hlow hd
  rw [w1] at hs1
  rw [w2] at hs2
  simp only [Bool.false_eq_true, if_false, if_true] at hs1 hs2
  have hfl := flipL_len p d
  rw [ht] at hfl
  rw [show ((d + 1 : Nat) : Int) = (d : Int) + 1 by omega] at *
  generalize hbe : brs (⟨2, List.replicate 32 0, List.replicate 32 0, List.replicate 32 0⟩ :: rest) = B
  have hbl : B.length = rest.length + 1 := by rw [← hbe]; simp [brs]
  have hb0 : B.getD 0 .any = .st [.v (B8 2), .ba (List.replicate 32 0), .ba (List.replicate 32 0), .ba (List.replicate 32 0)] := by rw [← hbe]; rfl
  have hbs : List.drop 1 B = brs rest := by rw [← hbe]; rfl
  have e0 : decide (((rest.length + 1 : Nat) : Int) = 0) = false := decide_eq_false (by omega)
  have e2 : decide ((255 : Int) < (d : Int)) = false := decide_eq_false (by omega)
  have hs0 : (sum [0]).length = 32 := sum_length _
  have hfit : fit (Ty.sc.cn ((Ty.ba 32).cn ((Ty.ba 32).cn ((Ty.ba 32).cn Ty.nl)))) (B.getD 0 AV.any) := by rw [hb0]; exact ⟨trivial, hz2, hz2, hz2, trivial⟩
  simp only [Br.av] at hcl
  refine mE Try.func111 ?_; intro N w0 a w hN hR H
  have hX := And.intro @hbl (And.intro @hb0 (And.intro @ht (And.intro @hz2 (And.intro @hs0 (And.intro @h1 (@h2))))))
  refine mW ?_; clear H; intro a w H
  refine mCallG [] [] (hcl) H ?_; clear H; intro a w H; try refine wpList_nil ?_
  simp only [e0] at H
  refine mW ?_; clear H; intro a w H
  refine mC H (fun hb => ?_) (fun hb => ?_)
  · exact absurd hb (by decide)
  · clear hb
    refine mS ?_
    replace H := mK [0, 1, 2, 3, 4, 6, 8, 9] 2 0 hN hR H
    refine mW ?_; clear H; intro a w H
    refine mCall [] [] (hem) H ?_; clear H; intro a w H; try refine wpList_nil ?_
    refine mW ?_; clear H; intro a w H
    refine mC H (fun hb => ?_) (fun hb => ?_)
    · exact absurd hb (by decide)
    · clear hb
      refine mS ?_
      replace H := mK [0, 1, 2, 3, 4, 6, 8, 9, 10, 11] 5 0 hN hR H
      refine mW ?_; clear H; intro a w H
      refine mCall [] [] (hop1) H ?_; clear H; intro a w H; try refine wpList_nil ?_
      refine mW ?_; clear H; intro a w H
      refine mC H (fun hb => ?_) (fun hb => ?_)
      · exact absurd hb (by decide)
      · clear hb
        refine mS ?_
        replace H := mK [0, 1, 2, 3, 4, 6, 8, 9, 10, 11] 5 0 hN hR H
        refine mW ?_; clear H; intro a w H
        refine mC H (fun hb => ?_) (fun hb => ?_)
        · exact absurd hb (by decide)
        · clear hb
          refine mW ?_; clear H; intro a w H
          simp only [e2] at H
          refine mC H (fun hb => ?_) (fun hb => ?_)
          · exact absurd hb (by decide)
          · clear hb
            refine mS ?_
            replace H := mK [0, 1, 2, 3, 4, 6, 8, 9, 11] 5 0 hN hR H
            refine mS ?_; refine mD 5 [5, 8] [0, 1, 2, 6, 7] H ?_; clear H; intro gS H
            refine mT ?_; clear H; intro a w H
            refine mCallT [] [] (hs1) H ?_; clear H; intro a w H
            refine mT ?_; clear H; intro a w H
            simp only [hbs] at H
            refine mCallT [] [] (c1) H ?_; clear H; intro a w H
            refine mT ?_; clear H; intro a w H
            refine v_drawNil H ?_; clear H; intro H
            refine mW ?_; clear H; intro a w H
            refine mC H (fun hb => ?_) (fun hb => ?_)
            · simp only [pls, List.map_nil]
              refine mW ?_; clear H; intro a w H
              refine wp_ret ?_; exact mEnd [] [] [.tmp 8, .tmp 9] [_, _] hN hR H
            · exact absurd hb (by decide)
end Go.Proofs.Ytigmpdhnhkdeiaa
/- The document's reader of a sketch at an inner place. -/
namespace Go.Proofs.Ytigmpdhnhkdeiaa
open Go Go.RowKit
attribute [local irreducible] wpT
set_option maxRecDepth 20000 in
set_option maxHeartbeats 4000000 in
theorem read20_in2 (ks : List (List UInt8)) (sp : Bool) (fr to : List UInt8) (h1 : fr.length = 32) (h2 : to.length = 32) (p : List UInt8) (d : Nat) (hlow : Low d p) (hd : d < 256) (rest : List Br)
    (hop1 : VC Try.prog 174 [askE ks sp fr to, .ba p, .v (.int .i64 ((d : Nat) : Int))] [] (.v (.bool true))) (hl : rest.length < 65536)
    (x : Tr) (r1 : List Br) (x1 : x.dg.length = 32) (hxn : x.num ≤ rest.length) (hdr : rest.drop x.num = r1) (c1 : read20 ks sp fr to rest p (d + 1) (x.pl p (d + 1)) true) (L2 : List Pl) (c2 : read20 ks sp fr to r1 (flipL p d) (d + 1) L2 false) :
    read20 ks sp fr to (⟨2, z32, z32, z32⟩ :: rest) p d [] false := by
  have ht := hlow.1
  have hz2 : (List.replicate 32 (0 : UInt8)).length = 32 := List.length_replicate
  have hcl := cleanR_v ⟨2, List.replicate 32 0, List.replicate 32 0, List.replicate 32 0⟩ ⟨hz2, hz2, hz2⟩
  rw [show Br.clean ⟨2, List.replicate 32 0, List.replicate 32 0, List.replicate 32 0⟩ = true by decide +kernel] at hcl
  have hem := emptyR_v
  unfold read20 at *
  simp only [z32]
  have hs1 := setR_v p ht d hd false
  have hs2 := setR_v p ht d hd true
  obtain ⟨w1, w2⟩ := setL_low hlow hd
  rw [w1] at hs1
  rw [w2] at hs2
  simp only [Bool.false_eq_true, if_false, if_true] at hs1 hs2
  have hfl := flipL_len p d
  rw [ht] at hfl
  rw [show ((d + 1 : Nat) : Int) = (d : Int) + 1 by omega] at *
  generalize hbe : brs (⟨2, List.replicate 32 0, List.replicate 32 0, List.replicate 32 0⟩ :: rest) = B
  have hbl : B.length = rest.length + 1 := by rw [← hbe]; simp [brs]
  have hb0 : B.getD 0 .any = .st [.v (B8 2), .ba (List.replicate 32 0), .ba (List.replicate 32 0), .ba (List.replicate 32 0)] := by rw [← hbe]; rfl
  have hbs : List.drop 1 B = brs rest := by rw [← hbe]; rfl
  have e0 : decide (((rest.length + 1 : Nat) : Int) = 0) = false := decide_eq_false (by omega)
  have e2 : decide ((255 : Int) < (d : Int)) = false := decide_eq_false (by omega)
  have hs0 : (sum [0]).length = 32 := sum_length _
  have hfit : fit (Ty.sc.cn ((Ty.ba 32).cn ((Ty.ba 32).cn ((Ty.ba 32).cn Ty.nl)))) (B.getD 0 AV.any) := by rw [hb0]; exact ⟨trivial, hz2, hz2, hz2, trivial⟩
  simp only [Br.av] at hcl
  refine mE Try.func111 ?_; intro N w0 a w hN hR H
  have hX := And.intro @hbl (And.intro @hb0 (And.intro @ht (And.intro @hz2 (And.intro @hs0 (And.intro @h1 (@h2))))))
  refine mW ?_; clear H; intro a w H
  refine mCallG [] [] (hcl) H ?_; clear H; intro a w H; try refine wpList_nil ?_
  simp only [e0] at H
  refine mW ?_; clear H; intro a w H
  refine mC H (fun hb => ?_) (fun hb => ?_)
  · exact absurd hb (by decide)
  · clear hb
    refine mS ?_
    replace H := mK [0, 1, 2, 3, 4, 6, 8, 9] 2 0 hN hR H
    refine mW ?_; clear H; intro a w H
    refine mCall [] [] (hem) H ?_; clear H; intro a w H; try refine wpList_nil ?_
    refine mW ?_; clear H; intro a w H
    refine mC H (fun hb => ?_) (fun hb => ?_)
    · exact absurd hb (by decide)
    · clear hb
      refine mS ?_
      replace H := mK [0, 1, 2, 3, 4, 6, 8, 9, 10, 11] 5 0 hN hR H
      refine mW ?_; clear H; intro a w H
      refine mCall [] [] (hop1) H ?_; clear H; intro a w H; try refine wpList_nil ?_
      refine mW ?_; clear H; intro a w H
      refine mC H (fun hb => ?_) (fun hb => ?_)
      · exact absurd hb (by decide)
      · clear hb
        refine mS ?_
        replace H := mK [0, 1, 2, 3, 4, 6, 8, 9, 10, 11] 5 0 hN hR H
        refine mW ?_; clear H; intro a w H
        refine mC H (fun hb => ?_) (fun hb => ?_)
        · exact absurd hb (by decide)
        · clear hb
          refine mW ?_; clear H; intro a w H
          simp only [e2] at H
          refine mC H (fun hb => ?_) (fun hb => ?_)
          · exact absurd hb (by decide)
          · clear hb
            refine mS ?_
            replace H := mK [0, 1, 2, 3, 4, 6, 8, 9, 11] 5 0 hN hR H
            refine mS ?_; refine mD 5 [5, 8] [0, 1, 2, 6, 7] H ?_; clear H; intro gS H
            refine mT ?_; clear H; intro a w H
            refine mCallT [] [] (hs1) H ?_; clear H; intro a w H
            refine mT ?_; clear H; intro a w H
            simp only [hbs] at H
            refine mCallT [] [] (c1) H ?_; clear H; intro a w H
            refine mT ?_; clear H; intro a w H
            refine v_drawNil H ?_; clear H; intro H
            refine mW ?_; clear H; intro a w H
            refine mC H (fun hb => ?_) (fun hb => ?_)
            · exact absurd hb (by decide)
            · clear hb
              obtain ⟨t1, t2, t3⟩ := x.pl_top p (d + 1)
              have hxl := x.pl_len p (d + 1)
              have hxl2 := pls_len (x.pl p (d + 1))
              rw [hxl] at hxl2
              have hxp := x.num_pos
              have hbd : List.drop (1 + x.num) B = brs r1 := by rw [← hbe, ← hdr, Nat.add_comm]; simp only [brs, List.map_drop, List.map_cons, List.drop_succ_cons]
              simp only [Pl.av] at t3
              generalize x.pl p (d + 1) = xp at *
              refine mS ?_
              replace H := mK [0, 1, 2, 3, 4, 6, 8, 9, 11, 13] 5 0 hN hR H
              clear hX; have hX := And.intro @hbl (And.intro @hb0 (And.intro @ht (And.intro @hz2 (And.intro @hs0 (And.intro @h1 (And.intro @h2 (And.intro @hxl2 (@t3))))))))
              refine mS ?_; refine mD 5 [10, 13] [0, 1, 2, 3, 4, 5, 6, 7, 11, 12] H ?_; clear H; intro gS H
              refine mTN 3 hN H ?_; clear H; intro a w H; simp only [List.drop_succ_cons, List.drop_zero, List.drop_nil]
              refine mTN 1 hN H ?_; clear H; intro a w H; simp only [List.drop_succ_cons, List.drop_zero, List.drop_nil]
              refine mTN 3 hN H ?_; clear H; intro a w H; simp only [List.drop_succ_cons, List.drop_zero, List.drop_nil]
              have e5 : (1 : Int) + (x.num : Int) = ((1 + x.num : Nat) : Int) := by omega
              simp only [e5] at H
              refine mTN 1 hN H ?_; clear H; intro a w H; simp only [List.drop_succ_cons, List.drop_zero, List.drop_nil]
              simp only [hbd] at H
              refine mTN 2 hN H ?_; clear H; intro a w H; simp only [List.drop_succ_cons, List.drop_zero, List.drop_nil]
              refine mCallT [] [] (hs2) H ?_; clear H; intro a w H
              refine mT ?_; clear H; intro a w H
              refine mCallT [] [] (c2) H ?_; clear H; intro a w H
              refine mT ?_; clear H; intro a w H
              refine v_drawNil H ?_; clear H; intro H
              refine mW ?_; clear H; intro a w H
              refine mC H (fun hb => ?_) (fun hb => ?_)
              · simp only [pls, List.map_nil]
                refine mW ?_; clear H; intro a w H
                refine wp_ret ?_; exact mEnd [] [] [.tmp 8, .tmp 9] [_, _] hN hR H
              · exact absurd hb (by decide)
end Go.Proofs.Ytigmpdhnhkdeiaa
/- The document's reader of a sketch at an inner place. -/
namespace Go.Proofs.Ytigmpdhnhkdeiaa
open Go Go.RowKit
attribute [local irreducible] wpT
set_option maxRecDepth 20000 in
set_option maxHeartbeats 4000000 in
theorem read20_in3 (ks : List (List UInt8)) (sp : Bool) (fr to : List UInt8) (h1 : fr.length = 32) (h2 : to.length = 32) (p : List UInt8) (d : Nat) (hlow : Low d p) (hd : d < 256) (rest : List Br)
    (hop1 : VC Try.prog 174 [askE ks sp fr to, .ba p, .v (.int .i64 ((d : Nat) : Int))] [] (.v (.bool true))) (hl : rest.length < 65536)
    (x : Tr) (r1 : List Br) (x1 : x.dg.length = 32) (hxn : x.num ≤ rest.length) (hdr : rest.drop x.num = r1) (c1 : read20 ks sp fr to rest p (d + 1) (x.pl p (d + 1)) true) (y : Tr) (y1 : y.dg.length = 32) (hyn : x.num + y.num ≤ rest.length) (c2 : read20 ks sp fr to r1 (flipL p d) (d + 1) (y.pl (flipL p d) (d + 1)) true) :
    read20 ks sp fr to (⟨2, z32, z32, z32⟩ :: rest) p d (⟨⟨2, z32, z32, z32⟩, innerH x.dg y.dg, d, p, 1 + x.num + y.num⟩ :: (x.pl p (d + 1) ++ y.pl (flipL p d) (d + 1))) true := by
  have ht := hlow.1
  have hz2 : (List.replicate 32 (0 : UInt8)).length = 32 := List.length_replicate
  have hcl := cleanR_v ⟨2, List.replicate 32 0, List.replicate 32 0, List.replicate 32 0⟩ ⟨hz2, hz2, hz2⟩
  rw [show Br.clean ⟨2, List.replicate 32 0, List.replicate 32 0, List.replicate 32 0⟩ = true by decide +kernel] at hcl
  have hem := emptyR_v
  unfold read20 at *
  simp only [z32]
  have hs1 := setR_v p ht d hd false
  have hs2 := setR_v p ht d hd true
  obtain ⟨w1, w2⟩ := setL_low hlow hd
  rw [w1] at hs1
  rw [w2] at hs2
  simp only [Bool.false_eq_true, if_false, if_true] at hs1 hs2
  have hfl := flipL_len p d
  rw [ht] at hfl
  rw [show ((d + 1 : Nat) : Int) = (d : Int) + 1 by omega] at *
  generalize hbe : brs (⟨2, List.replicate 32 0, List.replicate 32 0, List.replicate 32 0⟩ :: rest) = B
  have hbl : B.length = rest.length + 1 := by rw [← hbe]; simp [brs]
  have hb0 : B.getD 0 .any = .st [.v (B8 2), .ba (List.replicate 32 0), .ba (List.replicate 32 0), .ba (List.replicate 32 0)] := by rw [← hbe]; rfl
  have hbs : List.drop 1 B = brs rest := by rw [← hbe]; rfl
  have e0 : decide (((rest.length + 1 : Nat) : Int) = 0) = false := decide_eq_false (by omega)
  have e2 : decide ((255 : Int) < (d : Int)) = false := decide_eq_false (by omega)
  have hs0 : (sum [0]).length = 32 := sum_length _
  have hfit : fit (Ty.sc.cn ((Ty.ba 32).cn ((Ty.ba 32).cn ((Ty.ba 32).cn Ty.nl)))) (B.getD 0 AV.any) := by rw [hb0]; exact ⟨trivial, hz2, hz2, hz2, trivial⟩
  simp only [Br.av] at hcl
  refine mE Try.func111 ?_; intro N w0 a w hN hR H
  have hX := And.intro @hbl (And.intro @hb0 (And.intro @ht (And.intro @hz2 (And.intro @hs0 (And.intro @h1 (@h2))))))
  refine mW ?_; clear H; intro a w H
  refine mCallG [] [] (hcl) H ?_; clear H; intro a w H; try refine wpList_nil ?_
  simp only [e0] at H
  refine mW ?_; clear H; intro a w H
  refine mC H (fun hb => ?_) (fun hb => ?_)
  · exact absurd hb (by decide)
  · clear hb
    refine mS ?_
    replace H := mK [0, 1, 2, 3, 4, 6, 8, 9] 2 0 hN hR H
    refine mW ?_; clear H; intro a w H
    refine mCall [] [] (hem) H ?_; clear H; intro a w H; try refine wpList_nil ?_
    refine mW ?_; clear H; intro a w H
    refine mC H (fun hb => ?_) (fun hb => ?_)
    · exact absurd hb (by decide)
    · clear hb
      refine mS ?_
      replace H := mK [0, 1, 2, 3, 4, 6, 8, 9, 10, 11] 5 0 hN hR H
      refine mW ?_; clear H; intro a w H
      refine mCall [] [] (hop1) H ?_; clear H; intro a w H; try refine wpList_nil ?_
      refine mW ?_; clear H; intro a w H
      refine mC H (fun hb => ?_) (fun hb => ?_)
      · exact absurd hb (by decide)
      · clear hb
        refine mS ?_
        replace H := mK [0, 1, 2, 3, 4, 6, 8, 9, 10, 11] 5 0 hN hR H
        refine mW ?_; clear H; intro a w H
        refine mC H (fun hb => ?_) (fun hb => ?_)
        · exact absurd hb (by decide)
        · clear hb
          refine mW ?_; clear H; intro a w H
          simp only [e2] at H
          refine mC H (fun hb => ?_) (fun hb => ?_)
          · exact absurd hb (by decide)
          · clear hb
            refine mS ?_
            replace H := mK [0, 1, 2, 3, 4, 6, 8, 9, 11] 5 0 hN hR H
            refine mS ?_; refine mD 5 [5, 8] [0, 1, 2, 6, 7] H ?_; clear H; intro gS H
            refine mT ?_; clear H; intro a w H
            refine mCallT [] [] (hs1) H ?_; clear H; intro a w H
            refine mT ?_; clear H; intro a w H
            simp only [hbs] at H
            refine mCallT [] [] (c1) H ?_; clear H; intro a w H
            refine mT ?_; clear H; intro a w H
            refine v_drawNil H ?_; clear H; intro H
            refine mW ?_; clear H; intro a w H
            refine mC H (fun hb => ?_) (fun hb => ?_)
            · exact absurd hb (by decide)
            · clear hb
              obtain ⟨t1, t2, t3⟩ := x.pl_top p (d + 1)
              obtain ⟨u1, u2, u3⟩ := y.pl_top (flipL p d) (d + 1)
              have hyl := y.pl_len (flipL p d) (d + 1)
              have hyl2 := pls_len (y.pl (flipL p d) (d + 1))
              rw [hyl] at hyl2
              simp only [Pl.av] at u3
              have hyp := y.num_pos
              generalize y.pl (flipL p d) (d + 1) = yp at *
              have hxl := x.pl_len p (d + 1)
              have hxl2 := pls_len (x.pl p (d + 1))
              rw [hxl] at hxl2
              have hxp := x.num_pos
              have hbd : List.drop (1 + x.num) B = brs r1 := by rw [← hbe, ← hdr, Nat.add_comm]; simp only [brs, List.map_drop, List.map_cons, List.drop_succ_cons]
              simp only [Pl.av] at t3
              generalize x.pl p (d + 1) = xp at *
              refine mS ?_
              replace H := mK [0, 1, 2, 3, 4, 6, 8, 9, 11, 13] 5 0 hN hR H
              clear hX; have hX := And.intro @hbl (And.intro @hb0 (And.intro @ht (And.intro @hz2 (And.intro @hs0 (And.intro @h1 (And.intro @h2 (And.intro @hxl2 (@t3))))))))
              refine mS ?_; refine mD 5 [10, 13] [0, 1, 2, 3, 4, 5, 6, 7, 11, 12] H ?_; clear H; intro gS H
              refine mTN 3 hN H ?_; clear H; intro a w H; simp only [List.drop_succ_cons, List.drop_zero, List.drop_nil]
              refine mTN 1 hN H ?_; clear H; intro a w H; simp only [List.drop_succ_cons, List.drop_zero, List.drop_nil]
              refine mTN 3 hN H ?_; clear H; intro a w H; simp only [List.drop_succ_cons, List.drop_zero, List.drop_nil]
              have e5 : (1 : Int) + (x.num : Int) = ((1 + x.num : Nat) : Int) := by omega
              simp only [e5] at H
              refine mTN 1 hN H ?_; clear H; intro a w H; simp only [List.drop_succ_cons, List.drop_zero, List.drop_nil]
              simp only [hbd] at H
              refine mTN 2 hN H ?_; clear H; intro a w H; simp only [List.drop_succ_cons, List.drop_zero, List.drop_nil]
              refine mCallT [] [] (hs2) H ?_; clear H; intro a w H
              refine mT ?_; clear H; intro a w H
              refine mCallT [] [] (c2) H ?_; clear H; intro a w H
              refine mT ?_; clear H; intro a w H
              refine v_drawNil H ?_; clear H; intro H
              refine mW ?_; clear H; intro a w H
              refine mC H (fun hb => ?_) (fun hb => ?_)
              · exact absurd hb (by decide)
              · clear hb
                have eg : ∀ q : Pl, pls (q :: (xp ++ yp)) = q.av :: (pls xp ++ pls yp) := fun q => by simp [pls]
                rw [eg]
                simp only [Pl.av, Br.av]
                refine mS ?_
                replace H := mK [0, 1, 2, 3, 4, 6, 8, 9, 11, 13, 15] 5 0 hN hR H
                have hinl := innerH_len x.dg y.dg
                have hin := innerHR_v x.dg y.dg x1 y1
                clear hX; have hX := And.intro @hbl (And.intro @hb0 (And.intro @ht (And.intro @hz2 (And.intro @hs0 (And.intro @h1 (And.intro @h2 (And.intro @hxl2 (And.intro @t3 (And.intro @hyl2 (And.intro @u3 (And.intro @x1 (And.intro @y1 (@hinl)))))))))))))
                refine mS ?_; refine mD 0 [8, 10] [] H ?_; clear H; intro gS H
                refine mTN 1 hN H ?_; clear H; intro a w H; simp only [List.drop_succ_cons, List.drop_zero, List.drop_nil]
                refine mTN 1 hN H ?_; clear H; intro a w H; simp only [List.drop_succ_cons, List.drop_zero, List.drop_nil]
                refine mTN 3 hN H ?_; clear H; intro a w H; simp only [List.drop_succ_cons, List.drop_zero, List.drop_nil]
                refine mTN 1 hN H ?_; clear H; intro a w H; simp only [List.drop_succ_cons, List.drop_zero, List.drop_nil]
                refine mTN 2 hN H ?_; clear H; intro a w H; simp only [List.drop_succ_cons, List.drop_zero, List.drop_nil]
                refine mCallT [] [] (hin) H ?_; clear H; intro a w H
                refine mT ?_; clear H; intro a w H
                refine v_drawNil H ?_; clear H; intro H
                refine mS ?_
                refine mS ?_; refine mD 0 [11] [] H ?_; clear H; intro gS H
                refine mTN 1 hN H ?_; clear H; intro a w H; simp only [List.drop_succ_cons, List.drop_zero, List.drop_nil]
                refine mTN 1 hN H ?_; clear H; intro a w H; simp only [List.drop_succ_cons, List.drop_zero, List.drop_nil]
                refine mTN 4 hN H ?_; clear H; intro a w H; simp only [List.drop_succ_cons, List.drop_zero, List.drop_nil]
                refine mTN 1 hN H ?_; clear H; intro a w H; simp only [List.drop_succ_cons, List.drop_zero, List.drop_nil]
                refine mTN 3 hN H ?_; clear H; intro a w H; simp only [List.drop_succ_cons, List.drop_zero, List.drop_nil]
                have e6 : (1 : Int) + (x.num : Int) + (y.num : Int) = ((1 + x.num + y.num : Nat) : Int) := by omega
                simp only [e5, e6] at H
                refine mT ?_; clear H; intro a w H
                refine v_drawNil H ?_; clear H; intro H
                refine mW ?_; clear H; intro a w H
                refine wp_ret ?_; exact mEnd [] [] [.tmp 8, .tmp 9] [_, _] hN hR H
set_option maxRecDepth 20000 in
/-- The document's reader tells the places of a sketch. -/
theorem read20_v (ks : List (List UInt8)) (sp : Bool) (fr to : List UInt8) (op : List UInt8 → Nat → Bool)
    (hop : ∀ p d, p.length = 32 → d ≤ 256 → VC Try.prog 174 [askE ks sp fr to, .ba p, .v (.int .i64 ((d : Nat) : Int))] [] (.v (.bool (op p d))))
    (h1 : fr.length = 32) (h2 : to.length = 32) : ∀ (f : Nat) (p : List UInt8) (d : Nat) (l : List Br), f + d = 257 → d ≤ 256 → Low d p → (∀ b ∈ l, b.wf) → l.length ≤ 65536 →
    read20 ks sp fr to l p d (rdP op f l p d).1 (rdP op f l p d).2 := by
  intro f
  induction f with
  | zero => intro p d l hf hd; omega
  | succ f ih =>
    intro p d l hf hd256 hlow hw hl
    cases l with
    | nil => exact read20_nil ks sp fr to p d h1 h2 hlow.1
    | cons b rest =>
      have hbw := hw b List.mem_cons_self
      have hwr : ∀ b ∈ rest, b.wf := fun b hb => hw b (List.mem_cons_of_mem _ hb)
      simp only [List.length_cons] at hl
      by_cases hno : b.clean = false ∨ b.k = 0 ∨ op p d = false ∨ b.k = 1 ∨ b.k ≠ 2 ∨ 255 < d
      · exact read20_one ks sp fr to op h1 h2 p d hlow.1 hd256 b rest hbw (hop p d hlow.1 hd256) (by omega) hno f
      · simp only [not_or, Bool.not_eq_false, Classical.not_not] at hno
        obtain ⟨n1, n2, n3, n4, n5, n6⟩ := hno
        have hb2 := (clean_e n1).2.2.1 n5
        have hd : d < 256 := by omega
        have ho := hop p d hlow.1 hd256
        rw [n3] at ho
        rw [rdP_cons, if_neg (by rw [n1]; decide), if_neg n2, if_neg (by rw [n3]; decide), if_neg n4, if_neg (by rintro (h | h); exact h n5; exact n6 h)]
        subst hb2
        have ih1 := ih p (d + 1) rest (by omega) (by omega) hlow.up hwr (by omega)
        cases ex : rdTr op f p (d + 1) rest with
        | none =>
          have e2 := rdP_none (by omega) ex
          rw [if_pos e2]
          rw [e2] at ih1
          exact read20_in1 ks sp fr to h1 h2 p d hlow hd rest ho (by omega) _ ih1
        | some Q =>
          obtain ⟨x, r1⟩ := Q
          obtain ⟨a1, a2, a3⟩ := rdP_some (by omega) ex
          obtain ⟨x1, x2⟩ := rd_dgl hwr ex
          obtain ⟨t1, t2, t3⟩ := x.pl_top p (d + 1)
          have hdr : (⟨2, z32, z32, z32⟩ :: rest : List Br).drop (1 + x.num) = r1 := by rw [Nat.add_comm, List.drop_succ_cons]; exact a2
          have hr1 : r1.length = rest.length - x.num := by rw [← a2, List.length_drop]
          rw [a1] at ih1 ⊢
          dsimp only at ih1 ⊢
          rw [if_neg (by decide), t1, t2, hdr]
          have ih2 := ih (flipL p d) (d + 1) r1 (by omega) (by omega) (hlow.flip hd) x2 (by omega)
          cases ey : rdTr op f (flipL p d) (d + 1) r1 with
          | none =>
            have e2 := rdP_none (by omega) ey
            rw [if_pos e2]
            rw [e2] at ih2
            exact read20_in2 ks sp fr to h1 h2 p d hlow hd rest ho (by omega) x r1 x1 a3 a2 ih1 _ ih2
          | some Q =>
            obtain ⟨y, r2⟩ := Q
            obtain ⟨b1, b2, b3⟩ := rdP_some (by omega) ey
            obtain ⟨y1, y2⟩ := rd_dgl x2 ey
            obtain ⟨u1, u2, u3⟩ := y.pl_top (flipL p d) (d + 1)
            rw [b1] at ih2 ⊢
            dsimp only at ih2 ⊢
            rw [if_neg (by decide), u1, u2]
            exact read20_in3 ks sp fr to h1 h2 p d hlow hd rest ho (by omega) x r1 x1 a3 a2 ih1 y y1 (by omega) ih2
end Go.Proofs.Ytigmpdhnhkdeiaa
/- A reader of a stretch: (*span.reader).place. -/
namespace Go.Proofs.Ytigmpdhnhkdeiaa
open Go Go.RowKit

end Go.Proofs.Ytigmpdhnhkdeiaa
/- slices.Reverse of digests, in memory that may be written. -/
namespace Go.Proofs.Ytigmpdhnhkdeiaa
open Go Go.RowKit
def revG (n k : Nat) (g : Nat → List UInt8) (t : Nat) : List UInt8 := if t < k ∨ n ≤ t + k then g (n - 1 - t) else g t
def revF (n k : Nat) (g : Nat → List UInt8) : List AV := (List.range n).map fun t => .ba (revG n k g t)
theorem revF_len (n k : Nat) (g : Nat → List UInt8) : (revF n k g).length = n := by simp [revF]
theorem revF_get (n k : Nat) (g : Nat → List UInt8) (t : Nat) (h : t < n) : (revF n k g).getD t .any = .ba (revG n k g t) := by simp [revF, List.getD_eq_getElem?_getD, h]
theorem revF_zero (ls : List (List UInt8)) : revF ls.length 0 (fun t => ls.getD t []) = bas ls := by
  apply List.ext_getElem (by simp [revF, bas])
  intro i h1 h2
  simp [revF] at h1
  simp [revF, bas, revG, h1]
  omega
theorem revF_end (ls : List (List UInt8)) (k : Nat) (hk : ls.length ≤ 2 * k + 1) : revF ls.length k (fun t => ls.getD t []) = bas ls.reverse := by
  apply List.ext_getElem (by simp [revF, bas])
  intro i h1 h2
  simp [revF] at h1
  simp only [revF, bas, revG, List.getElem_map, List.getElem_range, List.getElem_reverse, AV.ba.injEq]
  split
  · rw [List.getD_eq_getElem?_getD, List.getElem?_eq_getElem (by omega)]; rfl
  · rw [List.getD_eq_getElem?_getD, List.getElem?_eq_getElem (by omega)]
    have : i = ls.length - 1 - i := by omega
    simp only [Option.getD_some]; congr 1
theorem revF_step (n k : Nat) (g : Nat → List UInt8) (h : 2 * k + 1 < n) : ((revF n k g).set k (.ba (g (n - 1 - k)))).set (n - 1 - k) (.ba (g k)) = revF n (k + 1) g := by
  apply List.ext_getElem (by simp [revF])
  intro i h1 h2
  simp [revF] at h2
  rw [List.getElem_set]
  split
  · rename_i e; subst e
    simp only [revF, revG, List.getElem_map, List.getElem_range, AV.ba.injEq]
    rw [if_pos (by omega), show n - 1 - (n - 1 - k) = k by omega]
  · rw [List.getElem_set]
    split
    · rename_i e; subst e
      simp only [revF, revG, List.getElem_map, List.getElem_range, AV.ba.injEq]
      rw [if_pos (by omega)]
    · simp only [revF, revG, List.getElem_map, List.getElem_range, AV.ba.injEq]
      by_cases hh : i < k ∨ n ≤ i + k
      · rw [if_pos hh, if_pos (by omega)]
      · rw [if_neg hh, if_neg (by omega)]
set_option maxRecDepth 20000 in
theorem revV_v (ls : List (List UInt8)) (γ : Nat) (hl : ls.length ≤ 1000000) (h32 : ∀ x ∈ ls, x.length = 32) :
    VX Try.prog 180 [(.vc 50 (.ba 32), .vc γ (bas ls))] [] [] [.vw 0 γ ls.length] [(.vc 50 (.ba 32), .vc γ (bas ls.reverse))] [] [] (.tup []) := by
  rw [← revF_zero ls]
  have hend := revF_end ls
  obtain ⟨g, hg⟩ : ∃ g : Nat → List UInt8, g = fun t => ls.getD t [] := ⟨_, rfl⟩
  have hg32 : ∀ t, t < ls.length → (g t).length = 32 := fun t ht => by
    rw [hg]; dsimp only; rw [List.getD_eq_getElem?_getD, List.getElem?_eq_getElem ht]; exact h32 _ (List.getElem_mem ht)
  rw [← hg] at hend ⊢
  generalize ls.reverse = lr at *
  generalize ls.length = n at *
  clear hg h32
  have hl0 := revF_len n 0 g
  have e00 : (n : Int) - 1 - ((0 : Nat) : Int) = (n : Int) - 1 := by omega
  refine mE Try.func180 ?_; intro N w0 a w hN hR H
  refine mW ?_; clear H; intro a w H
  refine v_loop (fun k : Nat => ⟨[(3, none, .v (.int .i64 ((n : Int) - 1 - (k : Int)))), (2, none, .v (.int .i64 (k : Int))), (0, none, .vw 0 γ n)], [(.vc 50 (.ba 32), .vc γ (revF n k g))], [], []⟩) (fun k => 2 * k ≤ n) (fun k => n - k) 0 (by omega)
    (H.to 1 0 ⟨Nat.le_trans hN (Nat.le_of_ble_eq_true rfl), hR⟩ ⟨by rw [e00]; rfl, rfl, rfl, trivial⟩ rfl rfl rfl rfl rfl) ?_
  clear H
  intro k a w hk H
  have hlk := revF_len n k g
  have hX := @hlk
  refine mW ?_; clear H; intro a w H
  refine mC H (fun hb => ?_) (fun hb => ?_)
  · have hlt : 2 * k + 1 < n := by rw [decide_eq_true_eq] at hb; omega
    clear hb
    have e1 : ((n : Int) - 1 - (k : Int)).toNat = n - 1 - k := by omega
    have g1 := revF_get n k g k (by omega)
    have g2 := revF_get n k g (n - 1 - k) (by omega)
    have r1 : revG n k g k = g k := by unfold revG; rw [if_neg (by omega)]
    have r2 : revG n k g (n - 1 - k) = g (n - 1 - k) := by unfold revG; rw [if_neg (by omega)]
    rw [r1] at g1
    rw [r2] at g2
    have q1 := hg32 k (by omega)
    have q2 := hg32 (n - 1 - k) (by omega)
    have hst := revF_step n k g hlt
    clear hX; have hX := And.intro @hlk (And.intro @e1 (And.intro @g1 (And.intro @g2 (And.intro @q1 (@q2)))))
    refine mS ?_; refine mD 0 [13, 15] [2, 3] H ?_; clear H; intro gS H
    refine mT ?_; clear H; intro a w H
    refine v_drawNil H ?_; clear H; intro H
    refine mW ?_; clear H; intro a w H
    rw [hst, show (n : Int) - 1 - (k : Int) - 1 = (n : Int) - 1 - ((k + 1 : Nat) : Int) by omega, show (k : Int) + 1 = ((k + 1 : Nat) : Int) by omega] at H
    exact ⟨k + 1, by omega, by omega, H.to 1 0 ⟨Nat.le_trans hN (Nat.le_of_ble_eq_true rfl), hR⟩ ⟨rfl, rfl, rfl, trivial⟩ rfl rfl rfl rfl rfl⟩
  · have hge : n ≤ 2 * k + 1 := by rw [decide_eq_false_iff_not] at hb; omega
    rw [hend k hge] at H
    refine mW ?_; clear H; intro a w H
    exact mEnd [0] [] [] [] hN hR H
end Go.Proofs.Ytigmpdhnhkdeiaa
/- Proofs as bytes: the document's. -/
namespace Go.Proofs.Ytigmpdhnhkdeiaa
open Go Go.RowKit
end Go.Proofs.Ytigmpdhnhkdeiaa
/- A region at a function's end in which the named results are loaded and stored again: nothing changes. -/
namespace Go.Proofs.Ytigmpdhnhkdeiaa
open Go Go.RowKit
section
variable {P : Program} {τ : Tab} {w0 w : World} {N : Gh} {st : St} {nt : Nat} {a : Act}
end
end Go.Proofs.Ytigmpdhnhkdeiaa
/- What bytes say to whoever knows the root: verify, and the document's. -/
namespace Go.Proofs.Ytigmpdhnhkdeiaa
open Go Go.RowKit
end Go.Proofs.Ytigmpdhnhkdeiaa
/- span.read: what is read of a span. -/
namespace Go.Proofs.Ytigmpdhnhkdeiaa
open Go Go.RowKit
/-- A span. -/
structure Sp where
  p : List Br
  v : List (List UInt8)
structure Sp.wf (s : Sp) : Prop where
  p : ∀ b ∈ s.p, b.wf
  lp : s.p.length ≤ 90000
  lv : s.v.length ≤ 90000
  v : ∀ x ∈ s.v, x.length ≤ 34359730000
def Sp.av (s : Sp) : AV := .st [.sl brT (brs s.p) none, .sl .sc (bss s.v) none]
attribute [local irreducible] wpT
end Go.Proofs.Ytigmpdhnhkdeiaa
/- Entries. -/
namespace Go.Proofs.Ytigmpdhnhkdeiaa
open Go Go.RowKit
end Go.Proofs.Ytigmpdhnhkdeiaa
/- span.Check, Root, Single. -/
namespace Go.Proofs.Ytigmpdhnhkdeiaa
open Go Go.RowKit
attribute [local irreducible] wpT
end Go.Proofs.Ytigmpdhnhkdeiaa
/- A key's way through places: ref20.Way. -/
namespace Go.Proofs.Ytigmpdhnhkdeiaa
open Go Go.RowKit
/-- Digests and keys are as long as they should be; no inner place too deep. -/
def Tr.okd : Nat → Tr → Prop
  | d, .n a b => d < 256 ∧ a.dg.length = 32 ∧ b.dg.length = 32 ∧ a.okd (d + 1) ∧ b.okd (d + 1)
  | _, .l k v => k.length = 32 ∧ v.length = 32
  | _, _ => True
theorem rd_okd {op : List UInt8 → Nat → Bool} : ∀ {f : Nat} {p : List UInt8} {d : Nat} {l : List Br} {t : Tr} {r : List Br}, (∀ b ∈ l, b.wf) → rdTr op f p d l = some (t, r) → t.okd d
  | 0, p, d, l, t, r, _, h => by simp [rdTr] at h
  | f + 1, p, d, [], t, r, _, h => by simp [rdTr] at h
  | f + 1, p, d, b :: rest, t, r, hw, h => by
    have hw2 : ∀ b ∈ rest, b.wf := fun b hb => hw b (List.mem_cons_of_mem _ hb)
    unfold rdTr at h
    split at h
    · cases h
    · split at h
      · simp only [Option.some.injEq, Prod.mk.injEq] at h; obtain ⟨rfl, rfl⟩ := h; trivial
      · split at h
        · split at h
          · cases h
          · simp only [Option.some.injEq, Prod.mk.injEq] at h; obtain ⟨rfl, rfl⟩ := h; trivial
        · split at h
          · cases h
          · split at h
            · split at h
              · simp only [Option.some.injEq, Prod.mk.injEq] at h; obtain ⟨rfl, rfl⟩ := h
                exact ⟨(hw b List.mem_cons_self).key, (hw b List.mem_cons_self).v⟩
              · cases h
            · split at h
              · cases h
              · rename_i h6
                split at h
                · cases h
                · rename_i x r1 e1
                  split at h
                  · cases h
                  · rename_i y r2 e2
                    simp only [Option.some.injEq, Prod.mk.injEq] at h; obtain ⟨rfl, rfl⟩ := h
                    obtain ⟨x1, x2⟩ := rd_dgl hw2 e1
                    exact ⟨by omega, x1, (rd_dgl x2 e2).1, rd_okd hw2 e1, rd_okd x2 e2⟩
def Tr.end_ (t : Tr) : Nd := ⟨t.part.k, t.part.key, t.part.v, z32, z32⟩
theorem Tr.last_not (key : List UInt8) : ∀ (t : Tr) (d : Nat) (a b : Tr), t.last key d ≠ .n a b
  | .n x y, d, a, b => by
    unfold Tr.last; split
    · exact Tr.last_not key y (d + 1) a b
    · exact Tr.last_not key x (d + 1) a b
  | .e, _, _, _ => fun h => by cases h
  | .c _, _, _, _ => fun h => by cases h
  | .l _ _, _, _, _ => fun h => by cases h
theorem end_fin {t : Tr} {key : List UInt8} {d : Nat} (hc : ∀ g, t.last key d ≠ .c g) : (t.last key d).end_ = t.fin key d Nd.zero := by
  rw [Tr.fin_last]
  cases h : t.last key d with
  | e => rfl
  | c g => exact absurd h (hc g)
  | l k v => rfl
  | n a b => exact absurd h (Tr.last_not key t d a b)
theorem Tr.part_okd {t : Tr} {d : Nat} (h : t.okd d) : t.part.key.length = 32 ∧ t.part.v.length = 32 := by
  cases t with
  | l k v => exact h
  | _ => exact ⟨z32_len, z32_len⟩
/-- Where a key's way has come to. -/
structure WI where
  i : Nat
  u : Tr
  q : List UInt8
  e : Nat
  sd : List (List UInt8)
structure WI.ok (L : List Pl) (key : List UInt8) (W : List (List UInt8)) (T : Tr) (x : WI) : Prop where
  at_ : AtP L x.i x.u x.q x.e
  way : W = x.sd ++ x.u.way key x.e
  last : T = x.u.last key x.e
  sd : ∀ g ∈ x.sd, g.length = 32
  okd : x.u.okd x.e
  len : x.sd.length = x.e
theorem pls_get {L : List Pl} {i : Nat} {x : Pl} (h : L[i]? = some x) : (pls L).getD i .any = x.av := by
  rw [List.getD_eq_getElem?_getD, pls, List.getElem?_map, h]; rfl
attribute [local irreducible] wpT
set_option maxRecDepth 20000 in
set_option maxHeartbeats 8000000 in
theorem way20_v (t : Tr) (key p : List UInt8) (hk : key.length = 32) (hc : ∀ g, t.last key 0 ≠ .c g) (ht : t.okd 0) (hn : t.num ≤ 70000) :
    VC Try.prog 114 [.sl plT (pls (t.pl p 0)) none, .ba key] [] (⟨t.way key 0, t.fin key 0 Nd.zero⟩ : Pf).av := by
  have h0 : WI.ok (t.pl p 0) key (t.way key 0) (t.last key 0) ⟨0, t, p, 0, []⟩ := ⟨AtP.top t p 0, rfl, rfl, fun g hg => (by cases hg), ht, rfl⟩
  have hLl : (t.pl p 0).length ≤ 70000 := by rw [Tr.pl_len]; exact hn
  rw [← end_fin hc]
  clear hc
  generalize t.pl p 0 = L at *
  generalize t.way key 0 = W at *
  generalize t.last key 0 = T at *
  have hPl := pls_len L
  have hz2 := z32_len
  have hzl : (List.replicate 32 (0 : UInt8)).length = 32 := List.length_replicate
  refine mE Try.func114 ?_; intro N w0 a w hN hR H
  have hX := And.intro @hPl (And.intro @hk (@hzl))
  refine mW ?_; clear H; intro a w H
  replace H := v_nilVB tab_ok H 2 [0] 50 (j := ti50) rfl (by decide) rfl rfl rfl
  simp only [List.set_cons_succ, List.set_cons_zero, List.length_cons, List.length_nil, Nat.reduceAdd, List.cons_append, List.nil_append, AV.put, List.getElem?_cons_succ, List.getElem?_cons_zero] at H
  refine v_loop (fun x : WI => ⟨[(6, none, .v (.int .i64 (x.i : Int))), (5, none, .ptr 2 []), (4, none, .ptr 1 []), (3, none, .ptr 0 []), (0, none, .sl plT (pls L) none)],
    [(.ba 32, .ba key), (ti68.ty, .st [.v (.slice none 0 0), .st [.v (.int .u8 0), .ba (List.replicate 32 0), .ba (List.replicate 32 0), .ba (List.replicate 32 0), .ba (List.replicate 32 0)]]), (ti68.ty, .st [.vw 3 x.sd.length x.sd.length, .st [.v (.int .u8 0), .ba (List.replicate 32 0), .ba (List.replicate 32 0), .ba (List.replicate 32 0), .ba (List.replicate 32 0)]]), (.vc 50 (.ba 32), .vc x.sd.length (bas x.sd))], [], []⟩)
    (fun x => WI.ok L key W T x) (fun x => x.u.num) ⟨0, t, p, 0, []⟩ h0
    (H.to 4 0 ⟨Nat.le_trans hN (Nat.le_of_ble_eq_true rfl), hR⟩ ⟨rfl, rfl, rfl, rfl, rfl, trivial⟩ rfl rfl rfl rfl rfl) ?_
  clear H h0
  rintro ⟨i, u, q, e, sd⟩ a w ho H
  obtain ⟨o1, o2, o3, o4, o5, o6⟩ := ho
  dsimp only at o1 o2 o3 o4 o5 o6 H
  obtain ⟨g1, g2⟩ := o1.get
  have g3 := pls_get g2
  simp only [Pl.av, Br.av] at g3
  have hsl := bas_len sd
  have hpos := u.num_pos
  have k2 : decide ((u.part.k.toNat : Int) = 2) = decide (u.part.k = 2) := kz u.part.k 2 (by decide)
  obtain ⟨pk1, pk2⟩ := Tr.part_okd o5
  refine mS ?_
  clear hX; have hX := And.intro @hPl (And.intro @hk (And.intro @hzl (And.intro @hsl (@g3))))
  (try refine wp_region_lit ?_); refine mN 3 hN H ?_; clear H; intro a w H
  refine mW ?_; clear H; intro a w H
  simp only [k2] at H
  refine mC H (fun hb => ?_) (fun hb => ?_)
  · rw [decide_eq_true_eq] at hb
    obtain ⟨ua, ub, rfl⟩ := (Tr.part_k u).1 hb
    clear hb g1 g2 g3 pk1 pk2 hpos k2
    obtain ⟨oe, oa, ob, oka, okb⟩ := o5
    have al := o1.left
    have ar := o1.right
    obtain ⟨l1, l2⟩ := al.get
    obtain ⟨r1, r2⟩ := ar.get
    have l3 := pls_get l2
    have r3 := pls_get r2
    obtain ⟨_, c2⟩ := o1.get
    have c3 := pls_get c2
    simp only [Pl.av, Br.av] at l3 r3 c3
    have hbit := bitR_v key hk (e : Int)
    have hpb : pbit key (e : Int) = if bitN key e then 1 else 0 := by rw [pbit, if_pos (by omega), Int.toNat_natCast]
    rw [hpb] at hbit
    have e1 : (i : Int) + 1 = ((i + 1 : Nat) : Int) := by omega
    have e2 : ((i + 1 : Nat) : Int) + (ua.num : Int) = ((i + 1 + ua.num : Nat) : Int) := by omega
    have pa := ua.num_pos
    have pb := ub.num_pos
    refine mS ?_
    clear hX; have hX := And.intro @hPl (And.intro @hk (And.intro @hzl (And.intro @hsl (@l3))))
    replace H := mK [0, 3, 4, 5, 6] 4 0 hN hR H
    (try refine wp_region_lit ?_); refine mN 3 hN H ?_; clear H; intro a w H
    refine wpList_nil ?_
    simp only [e1] at H
    refine mS ?_
    (try refine wp_region_lit ?_); refine mN 4 hN H ?_; clear H; intro a w H
    refine mW ?_; clear H; intro a w H
    simp only [e2] at H
    refine mS ?_
    replace H := mK [0, 3, 4, 5, 6, 7, 8] 4 0 hN hR H
    clear hX; have hX := And.intro @hPl (And.intro @hk (And.intro @hzl (And.intro @hsl (@c3))))
    refine mS ?_; refine mD 1 [6] [] H ?_; clear H; intro gS H
    refine mTN 4 hN H ?_; clear H; intro a w H; simp only [List.drop_succ_cons, List.drop_zero, List.drop_nil]
    refine mTN 2 hN H ?_; clear H; intro a w H; simp only [List.drop_succ_cons, List.drop_zero, List.drop_nil]
    refine mCallT [] [] (hbit) H ?_; clear H; intro a w H
    refine mT ?_; clear H; intro a w H
    refine v_drawNil H ?_; clear H; intro H
    refine mW ?_; clear H; intro a w H
    refine mC H (fun hb => ?_) (fun hb => ?_)
    · have hbe : bitN key e = false := by
        cases h : bitN key e
        · rfl
        · rw [h] at hb; exact absurd hb (by decide)
      clear hb
      refine mS ?_
      replace H := mK [0, 3, 4, 5, 6, 7, 8] 4 0 hN hR H
      have ho2 : WI.ok L key W T ⟨i + 1, ua, q, e + 1, sd ++ [ub.dg]⟩ := by
        refine ⟨al, ?_, ?_, ?_, oka, by dsimp only; rw [List.length_append, o6]; rfl⟩
        · rw [o2]; simp [Tr.way, hbe]
        · rw [o3]; simp [Tr.last, hbe]
        · intro g hg
          rcases List.mem_append.1 hg with hg | hg
          · exact o4 g hg
          · rw [List.mem_singleton.1 hg]; assumption
      obtain ⟨zs, hzs⟩ : ∃ z, z = sd ++ [ub.dg] := ⟨_, rfl⟩
      rw [← hzs] at ho2
      have z1 : sd.length + 1 = zs.length := by rw [hzs, List.length_append]; rfl
      have z2 : bas sd ++ [.ba ub.dg] = bas zs := by rw [hzs]; simp [bas]
      have z3 : (bas sd).take sd.length = bas sd := List.take_of_length_le (by omega)
      have z4 : sd.length ≤ 256 := by omega
      clear hX; have hX := And.intro @hPl (And.intro @hk (And.intro @hzl (And.intro @hsl (And.intro @r3 (And.intro @oa (@ob))))))
      repeat (first | refine wp_seq ?_ | refine wp_block ?_)
      refine v_drawZ 0 [0, 2, 3, 4, 5, 6, 1, 7, 8, 9, 10] [1, 7, 8, 10] [0, 2, 3, 4, 5, 6] [(1, 7)] (by kernel_rfl) (by kernel_rfl) (by kernel_rfl) (by kernel_rfl) (by kernel_rfl) H (by rfl) ?_; clear H; intro gS H; try replace H := ntf H
      repeat' ((first | refine wpZ_q1 rfl rfl ?_ | refine wpZ_l1 rfl rfl rfl ?_ | refine wpZ_l2 rfl rfl rfl rfl rfl ?_ ?_ | refine wpZ_l3 rfl rfl rfl rfl rfl rfl rfl ?_ ?_ ?_ | refine wpZ_l4 rfl rfl rfl rfl rfl rfl rfl rfl rfl ?_ ?_ ?_ ?_) <;> ((first | (refine v_someT 1 tab_ok hN H rfl ctX ?_; clear H; intro a w H; replace H := ntf H; simp only [List.drop_succ_cons, List.drop_zero, List.drop_nil])); refine wpT_nil ?_; try dsimp only))
      all_goals (refine wpZ_nil ?_; replace H := RelT.toRel H)
      all_goals
        simp only [z1, z2, z3] at H
        refine mW ?_; clear H; intro a w H
        exact ⟨⟨i + 1, ua, q, e + 1, zs⟩, ho2, by dsimp only [Tr.num]; omega, H.to 4 0 ⟨Nat.le_trans hN (Nat.le_of_ble_eq_true rfl), hR⟩ ⟨rfl, rfl, rfl, rfl, rfl, trivial⟩ rfl rfl rfl rfl rfl⟩
    · have hbe : bitN key e = true := by
        cases h : bitN key e
        · rw [h] at hb; exact absurd hb (by decide)
        · rfl
      clear hb
      refine mS ?_
      clear hX; have hX := And.intro @hPl (And.intro @hk (And.intro @hzl (And.intro @hsl (And.intro @r3 (And.intro @oa (@ob))))))
      replace H := mK [0, 3, 4, 5, 6, 7, 8] 4 0 hN hR H
      have ho2 : WI.ok L key W T ⟨i + 1 + ua.num, ub, flipL q e, e + 1, sd ++ [ua.dg]⟩ := by
        refine ⟨ar, ?_, ?_, ?_, okb, by dsimp only; rw [List.length_append, o6]; rfl⟩
        · rw [o2]; simp [Tr.way, hbe]
        · rw [o3]; simp [Tr.last, hbe]
        · intro g hg
          rcases List.mem_append.1 hg with hg | hg
          · exact o4 g hg
          · rw [List.mem_singleton.1 hg]; assumption
      obtain ⟨zs, hzs⟩ : ∃ z, z = sd ++ [ua.dg] := ⟨_, rfl⟩
      rw [← hzs] at ho2
      have z1 : sd.length + 1 = zs.length := by rw [hzs, List.length_append]; rfl
      have z2 : bas sd ++ [.ba ua.dg] = bas zs := by rw [hzs]; simp [bas]
      have z3 : (bas sd).take sd.length = bas sd := List.take_of_length_le (by omega)
      have z4 : sd.length ≤ 256 := by omega
      clear hX; have hX := And.intro @hPl (And.intro @hk (And.intro @hzl (And.intro @hsl (And.intro @l3 (And.intro @oa (@ob))))))
      repeat (first | refine wp_seq ?_ | refine wp_block ?_)
      refine v_drawZ 0 [0, 2, 3, 4, 5, 6, 1, 7, 8, 9, 10] [1, 7, 8, 10] [0, 2, 3, 4, 5, 6] [(1, 7)] (by kernel_rfl) (by kernel_rfl) (by kernel_rfl) (by kernel_rfl) (by kernel_rfl) H (by rfl) ?_; clear H; intro gS H; try replace H := ntf H
      repeat' ((first | refine wpZ_q1 rfl rfl ?_ | refine wpZ_l1 rfl rfl rfl ?_ | refine wpZ_l2 rfl rfl rfl rfl rfl ?_ ?_ | refine wpZ_l3 rfl rfl rfl rfl rfl rfl rfl ?_ ?_ ?_ | refine wpZ_l4 rfl rfl rfl rfl rfl rfl rfl rfl rfl ?_ ?_ ?_ ?_) <;> ((first | (refine v_someT 1 tab_ok hN H rfl ctX ?_; clear H; intro a w H; replace H := ntf H; simp only [List.drop_succ_cons, List.drop_zero, List.drop_nil])); refine wpT_nil ?_; try dsimp only))
      all_goals (refine wpZ_nil ?_; replace H := RelT.toRel H)
      all_goals
        simp only [z1, z2, z3] at H
        refine mW ?_; clear H; intro a w H
        exact ⟨⟨i + 1 + ua.num, ub, flipL q e, e + 1, zs⟩, ho2, by dsimp only [Tr.num]; omega, H.to 4 0 ⟨Nat.le_trans hN (Nat.le_of_ble_eq_true rfl), hR⟩ ⟨rfl, rfl, rfl, rfl, rfl, trivial⟩ rfl rfl rfl rfl rfl⟩
  · rw [decide_eq_false_iff_not] at hb
    obtain ⟨f1, f2⟩ := Tr.last_n (key := key) (d := e) hb
    rw [f2, List.append_nil] at o2
    rw [f1] at o3
    subst o2 o3
    refine mS ?_
    clear hX; have hX := And.intro @hPl (And.intro @hk (And.intro @hzl (And.intro @hsl (And.intro @g3 (And.intro @pk1 (@pk2))))))
    replace H := mK [0, 3, 4, 5, 6] 4 0 hN hR H
    refine mS ?_; refine mD 0 [20] [] H ?_; clear H; intro gS H
    refine mTN 3 hN H ?_; clear H; intro a w H; simp only [List.drop_succ_cons, List.drop_zero, List.drop_nil]
    refine mTN 6 hN H ?_; clear H; intro a w H; simp only [List.drop_succ_cons, List.drop_zero, List.drop_nil]
    refine mTN 6 hN H ?_; clear H; intro a w H; simp only [List.drop_succ_cons, List.drop_zero, List.drop_nil]
    refine mT ?_; clear H; intro a w H
    refine v_drawNil H ?_; clear H; intro H
    have tw : (bas W).take W.length = bas W := List.take_of_length_le (by omega)
    replace H := v_frzB H 3 2 [0] (Nat.le_trans hN (Nat.zero_le _)) rfl rfl rfl rfl (by omega)
    simp only [AV.put, List.set_cons_succ, List.set_cons_zero, List.getElem?_cons_succ, List.getElem?_cons_zero, tw] at H
    simp only [Pf.av, Nd.av, Tr.end_, z32]
    refine mW ?_; clear H; intro a w H
    refine wp_ret ?_; exact mEnd [] [] [.cell 4 68] [_] hN hR H
end Go.Proofs.Ytigmpdhnhkdeiaa
/- proof.Says, proof.Holds. -/
namespace Go.Proofs.Ytigmpdhnhkdeiaa
open Go Go.RowKit
end Go.Proofs.Ytigmpdhnhkdeiaa
/- What a span says of a key (plain). -/
namespace Go.Proofs.Ytigmpdhnhkdeiaa
open Go Go.RowKit
theorem und_zero (k top : List UInt8) : und 0 k top = true := by unfold und; simp
end Go.Proofs.Ytigmpdhnhkdeiaa
/- What the document tells of a span (plain). -/
namespace Go.Proofs.Ytigmpdhnhkdeiaa
open Go Go.RowKit
theorem rd_num {op : List UInt8 → Nat → Bool} {f : Nat} {p : List UInt8} {d : Nat} {l : List Br} {t : Tr} {r : List Br} (hf : f + d = 257) (h : rdTr op f p d l = some (t, r)) : t.num ≤ l.length ∧ l.drop t.num = r := by
  obtain ⟨_, h2, h3⟩ := rdP_some hf h; exact ⟨h3, h2⟩
theorem rd_rest {op : List UInt8 → Nat → Bool} {f : Nat} {p : List UInt8} {d : Nat} {l : List Br} {t : Tr} {r : List Br} (hf : f + d = 257) (h : rdTr op f p d l = some (t, r)) : r = [] ↔ t.num = l.length := by
  obtain ⟨h1, h2⟩ := rd_num hf h
  rw [← h2, List.drop_eq_nil_iff]; omega
end Go.Proofs.Ytigmpdhnhkdeiaa
/- What has to be open for keys: ref20.Open. -/
namespace Go.Proofs.Ytigmpdhnhkdeiaa
open Go Go.RowKit
theorem und_dec (d : Nat) (hd : d ≤ 256) (k p : List UInt8) : decide (0 ≤ (d : Int) ∧ (d : Int) ≤ 256 ∧ (d : Int) ≤ (com k p : Int)) = und d k p := by
  unfold und; rw [decide_eq_decide]; omega
theorem any_drop {α : Type} (f : α → Bool) (l : List α) (k : Nat) (hk : k < l.length) : (l.drop k).any f = (f l[k] || (l.drop (k + 1)).any f) := by
  rw [List.drop_eq_getElem_cons hk, List.any_cons]
attribute [local irreducible] wpT
set_option maxRecDepth 20000 in
theorem openK_v (ks : List (List UInt8)) (hk32 : ∀ k ∈ ks, k.length = 32) (hl : ks.length ≤ 65536) (fr to p : List UInt8) (h1 : fr.length = 32) (h2 : to.length = 32) (h3 : p.length = 32) (d : Nat) (hd : d ≤ 256) :
    VC Try.prog 174 [askE ks false fr to, .ba p, .v (.int .i64 ((d : Nat) : Int))] [] (.v (.bool (ks.any fun k => und d k p))) := by
  have hbl := bas_len ks
  have h0 : (ks.drop 0).any (fun k => und d k p) = ks.any fun k => und d k p := by rw [List.drop_zero]
  generalize (ks.any fun k => und d k p) = R at *
  refine mE Try.func174 ?_; intro N w0 a w hN hR H
  have hX := And.intro @hbl (And.intro @h1 (And.intro @h2 (@h3)))
  refine mW ?_; clear H; intro a w H
  refine mC H (fun hb => ?_) (fun hb => ?_)
  · exact absurd hb (by decide)
  · clear hb
    refine mW ?_; clear H; intro a w H
    refine v_loop (fun k : Nat => ⟨[(11, none, .v (.int .i64 (k : Int))), (6, none, .v (.bool false)), (4, none, .ptr 1 []), (3, none, .ptr 0 []), (2, none, .v (.int .i64 (d : Int)))], [(ti195.ty, askE ks false fr to), (.ba 32, .ba p)], [], []⟩) (fun k => k ≤ ks.length ∧ (ks.drop k).any (fun k => und d k p) = R) (fun k => ks.length - k) 0 ⟨Nat.zero_le _, h0⟩
      (H.to 2 0 ⟨Nat.le_trans hN (Nat.le_of_ble_eq_true rfl), Nat.le_trans hR (Nat.zero_le _)⟩ ⟨rfl, rfl, rfl, rfl, rfl, trivial⟩ rfl rfl rfl rfl rfl) ?_
    clear H
    intro k a w hk H
    obtain ⟨hk1, hk2⟩ := hk
    refine mW ?_; clear H; intro a w H
    refine mC H (fun hb => ?_) (fun hb => ?_)
    · have hlt : k < ks.length := by rw [decide_eq_true_eq] at hb; omega
      clear hb
      rw [any_drop _ _ _ hlt] at hk2
      have hg := bas_get ks k hlt
      have hq := hk32 _ (List.getElem_mem hlt)
      generalize ks[k] = q at *
      have hun := underR_v q p hq h3 (d : Int)
      rw [und_dec d hd] at hun
      clear hX; have hX := And.intro @hbl (And.intro @h1 (And.intro @h2 (And.intro @h3 (And.intro @hg (@hq)))))
      refine mS ?_; refine mD 2 [7] [] H ?_; clear H; intro gS H
      refine mTN 4 hN H ?_; clear H; intro a w H; simp only [List.drop_succ_cons, List.drop_zero, List.drop_nil]
      refine mT ?_; clear H; intro a w H
      refine mCallT [] [] (hun) H ?_; clear H; intro a w H
      refine mT ?_; clear H; intro a w H
      refine v_drawNil H ?_; clear H; intro H
      refine mC H (fun hb => ?_) (fun hb => ?_)
      · rw [hb, Bool.true_or] at hk2
        subst hk2
        refine mW ?_; clear H; intro a w H
        refine wp_ret ?_; exact mEnd [] [] [.tmp 6] [_] hN hR H
      · rw [hb, Bool.false_or] at hk2
        clear hb
        refine mW ?_; clear H; intro a w H
        rw [show (k : Int) + 1 = ((k + 1 : Nat) : Int) by omega] at H
        exact ⟨k + 1, ⟨hlt, hk2⟩, by omega, H.to 2 0 ⟨Nat.le_trans hN (Nat.le_of_ble_eq_true rfl), Nat.le_trans hR (Nat.zero_le _)⟩ ⟨rfl, rfl, rfl, rfl, rfl, trivial⟩ rfl rfl rfl rfl rfl⟩
    · have hge : ks.length ≤ k := by rw [decide_eq_false_iff_not] at hb; omega
      clear hb
      rw [List.drop_eq_nil_of_le hge] at hk2
      subst hk2
      refine mW ?_; clear H; intro a w H
      refine wp_ret ?_; exact mEnd [] [] [.tmp 6] [_] hN hR H
end Go.Proofs.Ytigmpdhnhkdeiaa
/- The document's places of a sketch for keys: ref20.Places. -/
namespace Go.Proofs.Ytigmpdhnhkdeiaa
open Go Go.RowKit
def opK (ks : List (List UInt8)) (top : List UInt8) (d : Nat) : Bool := ks.any fun k => und d k top
/-- Rising keys. -/
def upK : List (List UInt8) → Bool
  | a :: b :: l => decide (Lib.compareBytes a b < 0) && upK (b :: l)
  | _ => true
theorem upK_drop (ks : List (List UInt8)) (k : Nat) (h : k + 1 < ks.length) : upK (ks.drop k) = (decide (Lib.compareBytes (ks[k]'(by omega)) ks[k + 1] < 0) && upK (ks.drop (k + 1))) := by
  rw [List.drop_eq_getElem_cons (show k < ks.length by omega), List.drop_eq_getElem_cons h]; rfl
theorem upK_end (ks : List (List UInt8)) (k : Nat) (h : ks.length ≤ k + 1) : upK (ks.drop k) = true := by
  match hq : ks.drop k with
  | [] => rfl
  | [a] => rfl
  | a :: b :: l =>
    have := congrArg List.length hq
    rw [List.length_drop] at this
    simp only [List.length_cons] at this
    omega
def muR (ks : List (List UInt8)) (p : List Br) : Option (Tr × List Br) := rdTr (opK ks) 257 (List.replicate 32 0) 0 p
/-- The error of a sketch for keys. -/
def muE (ks : List (List UInt8)) (p : List Br) : Int :=
  if 64 < ks.length ∨ 65536 < p.length then 4 else if upK ks = false then 2 else match muR ks p with
    | some (_, []) => 0
    | _ => 11
def muT (ks : List (List UInt8)) (p : List Br) : Tr := match muR ks p with
  | some (t, _) => t
  | none => .e
def muPl (ks : List (List UInt8)) (p : List Br) : List Pl := if muE ks p = 0 then (muT ks p).pl (List.replicate 32 0) 0 else []
attribute [local irreducible] wpT
set_option maxRecDepth 20000 in
set_option maxHeartbeats 8000000 in
theorem places20_v (ks : List (List UInt8)) (hk32 : ∀ k ∈ ks, k.length = 32) (p : List Br) (hw : ∀ b ∈ p, b.wf) (hl1 : ks.length ≤ 34359730000) (hl2 : p.length ≤ 34359730000) :
    VC Try.prog 25 [.sl (.ba 32) (bas ks) none, .st [.sl brT (brs p) none]] [] (.tup [.sl plT (pls (muPl ks p)) none, .v (.int .i64 (muE ks p))]) := by
  have hkl := bas_len ks
  have hpl := brs_len p
  have hz2 : (List.replicate 32 (0 : UInt8)).length = 32 := List.length_replicate
  obtain ⟨U, hU⟩ : ∃ U, upK ks = U := ⟨_, rfl⟩
  have h0 : upK (ks.drop 0) = U := by rw [List.drop_zero]; exact hU
  unfold muPl
  refine mE Try.func25 ?_; intro N w0 a w hN hR H
  have hX := And.intro @hkl (And.intro @hpl (@hz2))
  refine mW ?_; clear H; intro a w H
  refine mC H (fun hb => ?_) (fun hb => ?_)
  · have e : 64 < ks.length ∨ 65536 < p.length := by
      cases hd : decide ((64 : Int) < (ks.length : Int))
      · rw [hd] at hb
        have : decide ((65536 : Int) < (p.length : Int)) = true := hb
        rw [decide_eq_true_eq] at this; omega
      · rw [decide_eq_true_eq] at hd; omega
    have e4 : muE ks p = 4 := by unfold muE; rw [if_pos e]
    rw [e4, if_neg (by decide)]
    simp only [pls, List.map_nil]
    refine mW ?_; clear H; intro a w H
    refine wp_ret ?_; exact mEnd [] [] [.tmp 4, .tmp 5] [_, _] hN hR H
  · have e : ¬ (64 < ks.length ∨ 65536 < p.length) := by
      cases hd : decide ((64 : Int) < (ks.length : Int))
      · rw [hd] at hb
        have : decide ((65536 : Int) < (p.length : Int)) = false := hb
        rw [decide_eq_false_iff_not] at this hd; omega
      · rw [hd] at hb; cases hb
    clear hb
    refine mS ?_
    replace H := mK [0, 3, 4, 5] 1 0 hN hR H
    refine mW ?_; clear H; intro a w H
    refine v_loop (fun i : Nat => ⟨[(6, none, .v (.int .i64 ((i + 1 : Nat) : Int))), (5, none, .v (.int .i64 0)), (4, none, .v (.slice none 0 0)), (3, none, .ptr 0 []), (0, none, .sl (.ba 32) (bas ks) none)], [(ti44.ty, .st [.sl brT (brs p) none])], [], []⟩) (fun i => (i = 0 ∨ i + 1 ≤ ks.length) ∧ upK (ks.drop i) = U) (fun i => ks.length - i) 0 ⟨.inl rfl, h0⟩
      (H.to 1 0 ⟨Nat.le_trans hN (Nat.le_of_ble_eq_true rfl), Nat.le_trans hR (Nat.zero_le _)⟩ ⟨rfl, rfl, rfl, rfl, rfl, trivial⟩ rfl rfl rfl rfl rfl) ?_
    clear H
    intro i a w hi H
    obtain ⟨hi1, hi2⟩ := hi
    refine mW ?_; clear H; intro a w H
    refine mC H (fun hb => ?_) (fun hb => ?_)
    · have hlt : i + 1 < ks.length := by rw [decide_eq_true_eq] at hb; omega
      clear hb
      have hlt0 : i < ks.length := by omega
      rw [upK_drop ks i hlt] at hi2
      have g1 := bas_get ks i hlt0
      have g2 := bas_get ks (i + 1) hlt
      have q1 := hk32 _ (List.getElem_mem hlt0)
      have q2 := hk32 _ (List.getElem_mem hlt)
      have ei : ((i + 1 : Nat) : Int) - 1 = (i : Int) := by omega
      generalize ks[i] = x at *
      generalize ks[i + 1] = y at *
      have hc := pcmpR_v x y q1 q2
      clear hX; have hX := And.intro @hkl (And.intro @hpl (And.intro @hz2 (And.intro @g1 (And.intro @g2 (And.intro @q1 (And.intro @q2 (@ei)))))))
      refine mS ?_; refine mD 1 [9] [] H ?_; clear H; intro gS H
      refine mTN 3 hN H ?_; clear H; intro a w H; simp only [List.drop_succ_cons, List.drop_zero, List.drop_nil]
      refine mTN 1 hN H ?_; clear H; intro a w H; simp only [List.drop_succ_cons, List.drop_zero, List.drop_nil]
      refine mTN 4 hN H ?_; clear H; intro a w H; simp only [List.drop_succ_cons, List.drop_zero, List.drop_nil]
      refine mT ?_; clear H; intro a w H
      refine mCallT [] [] (hc) H ?_; clear H; intro a w H
      refine mT ?_; clear H; intro a w H
      refine v_drawNil H ?_; clear H; intro H
      refine mC H (fun hb => ?_) (fun hb => ?_)
      · rw [decide_eq_true_eq] at hb
        rw [decide_eq_false (show ¬ Lib.compareBytes x y < 0 by omega), Bool.false_and] at hi2
        subst hi2
        have e4 : muE ks p = 2 := by unfold muE; rw [if_neg e, if_pos hU]
        rw [e4, if_neg (by decide)]
        simp only [pls, List.map_nil]
        refine mW ?_; clear H; intro a w H
        refine wp_ret ?_; exact mEnd [] [] [.tmp 4, .tmp 5] [_, _] hN hR H
      · rw [decide_eq_false_iff_not] at hb
        rw [decide_eq_true (show Lib.compareBytes x y < 0 by omega), Bool.true_and] at hi2
        clear hb
        refine mW ?_; clear H; intro a w H
        rw [show ((i + 1 : Nat) : Int) + 1 = ((i + 1 + 1 : Nat) : Int) by omega] at H
        exact ⟨i + 1, ⟨.inr hlt, hi2⟩, by omega, H.to 1 0 ⟨Nat.le_trans hN (Nat.le_of_ble_eq_true rfl), Nat.le_trans hR (Nat.zero_le _)⟩ ⟨rfl, rfl, rfl, rfl, rfl, trivial⟩ rfl rfl rfl rfl rfl⟩
    · have hge : ks.length ≤ i + 1 := by rw [decide_eq_false_iff_not] at hb; omega
      clear hb
      rw [upK_end ks i hge] at hi2
      subst hi2
      have hrd := read20_v ks false (List.replicate 32 0) (List.replicate 32 0) (opK ks) (fun p d hp hd => openK_v ks hk32 (by omega) _ _ p hz2 hz2 hp d hd) hz2 hz2 257 (List.replicate 32 0) 0 p (by omega) (by omega) Low.zero hw (by omega)
      unfold read20 at hrd
      simp only [askE] at hrd
      cases ht : muR ks p with
      | none =>
        have ht' : rdTr (opK ks) 257 (List.replicate 32 0) 0 p = none := ht
        have e2 := rdP_none (by omega) ht'
        have e4 : muE ks p = 11 := by unfold muE; rw [if_neg e, if_neg (by rw [hU]; decide), ht]
        rw [e4, if_neg (by decide)]
        rw [e2] at hrd
        generalize (rdP (opK ks) 257 p (List.replicate 32 0) 0).1 = L at *
        refine mW ?_; clear H; intro a w H
        refine mCall [] [] (hrd) H ?_; clear H; intro a w H; try refine wpList_nil ?_
        refine mS ?_
        refine mW ?_; clear H; intro a w H
        refine mS ?_; refine mD 1 [] [] H ?_; clear H; intro gS H
        refine mTN 4 hN H ?_; clear H; intro a w H; simp only [List.drop_succ_cons, List.drop_zero, List.drop_nil]
        refine mSkT (.v (.int .i64 0)) H ?_; clear H; intro a w H
        refine mSkT (.v (.int .i64 0)) H ?_; clear H; intro a w H
        refine mSkT (.v (.int .i64 0)) H ?_; clear H; intro a w H
        refine mT ?_; clear H; intro a w H
        refine v_drawNil H ?_; clear H; intro H
        refine mC H (fun hb => ?_) (fun hb => ?_)
        · simp only [pls, List.map_nil]
          refine mW ?_; clear H; intro a w H
          refine wp_ret ?_; exact mEnd [] [] [.tmp 4, .tmp 5] [_, _] hN hR H
        · exact absurd hb (by decide)
      | some Q =>
        obtain ⟨t, r⟩ := Q
        have ht' : rdTr (opK ks) 257 (List.replicate 32 0) 0 p = some (t, r) := ht
        obtain ⟨a1, a2, a3⟩ := rdP_some (by omega) ht'
        have hrr := rd_rest (by omega) ht'
        obtain ⟨t1, t2, t3⟩ := t.pl_top (List.replicate 32 0) 0
        have hLl := t.pl_len (List.replicate 32 0) 0
        have hPl := pls_len (t.pl (List.replicate 32 0) 0)
        have hnp := t.num_pos
        rw [hLl] at hPl
        simp only [Pl.av] at t3
        rw [a1] at hrd
        dsimp only at hrd
        have hmt : muT ks p = t := by unfold muT; rw [ht]
        have hme : muE ks p = if r = [] then 0 else 11 := by
          unfold muE; rw [if_neg e, if_neg (by rw [hU]; decide), ht]
          cases r <;> rfl
        rw [hmt, hme]
        clear ht hmt hme
        generalize t.pl (List.replicate 32 0) 0 = L at *
        refine mW ?_; clear H; intro a w H
        refine mCall [] [] (hrd) H ?_; clear H; intro a w H; try refine wpList_nil ?_
        clear hX; have hX := And.intro @hkl (And.intro @hpl (And.intro @hz2 (And.intro @hPl (@t3))))
        refine mW ?_; clear H; intro a w H
        refine mS ?_
        replace H := mK [0, 3, 4, 5, 7, 8] 1 0 hN hR H
        refine mS ?_; refine mD 1 [] [] H ?_; clear H; intro gS H
        refine mTN 5 hN H ?_; clear H; intro a w H; simp only [List.drop_succ_cons, List.drop_zero, List.drop_nil]
        refine mTN 2 hN H ?_; clear H; intro a w H; simp only [List.drop_succ_cons, List.drop_zero, List.drop_nil]
        refine mT ?_; clear H; intro a w H
        refine v_drawNil H ?_; clear H; intro H
        refine mC H (fun hb => ?_) (fun hb => ?_)
        · have hr : ¬ r = [] := by
            intro hr
            rw [hrr.1 hr] at hb
            simp at hb
          rw [if_neg hr, if_neg (by decide)]
          simp only [pls, List.map_nil]
          refine mW ?_; clear H; intro a w H
          refine wp_ret ?_; exact mEnd [] [] [.tmp 4, .tmp 5] [_, _] hN hR H
        · have hr : r = [] := by
            refine hrr.2 ?_
            have : (!decide ((t.num : Int) = (p.length : Int))) = false := hb
            rw [Bool.not_eq_false', decide_eq_true_eq] at this; omega
          subst hr
          clear hb hrr
          rw [if_pos rfl, if_pos rfl]
          refine mW ?_; clear H; intro a w H
          refine wp_ret ?_; exact mEnd [] [] [.tmp 4, .tmp 5] [_, _] hN hR H
end Go.Proofs.Ytigmpdhnhkdeiaa
/- What a way says of a key: ref20.Said. -/
namespace Go.Proofs.Ytigmpdhnhkdeiaa
open Go Go.RowKit
def saidA (n : Nd) (key : List UInt8) : AV := if n.k = 1 ∧ n.key = key then .st [.v (.bool true), .ba n.v] else .st [.v (.bool false), .ba z32]
attribute [local irreducible] wpT
set_option maxRecDepth 20000 in
theorem said20_v (sd : List (List UInt8)) (n : Nd) (hn : n.wf) (key : List UInt8) (hk : key.length = 32) : VC Try.prog 113 [(⟨sd, n⟩ : Pf).av, .ba key] [] (saidA n key) := by
  obtain ⟨h1, h2, h3, h4⟩ := id hn
  obtain ⟨k, nk, v, l, r⟩ := n
  dsimp only at h1 h2 h3 h4
  have hz2 : (List.replicate 32 (0 : UInt8)).length = 32 := List.length_replicate
  have k1 : decide ((k.toNat : Int) = 1) = decide (k = 1) := kz k 1 (by decide)
  unfold saidA
  simp only [z32]
  refine mE Try.func113 ?_; intro N w0 a w hN hR H
  simp only [Pf.av, Nd.av] at H
  have hX := And.intro @h1 (And.intro @h2 (And.intro @h3 (And.intro @h4 (And.intro @hk (@hz2)))))
  refine mW ?_; clear H; intro a w H
  simp only [k1] at H
  refine mC H (fun hb => ?_) (fun hb => ?_)
  · have e : k = 1 ∧ nk = key := by
      cases hd : decide (k = 1)
      · rw [hd] at hb; cases hb
      · rw [hd] at hb; exact ⟨of_decide_eq_true hd, of_decide_eq_true hb⟩
    rw [if_pos e]
    refine mW ?_; clear H; intro a w H
    refine wp_ret ?_; exact mEnd [] [] [.cell 4 76] [_] hN hR H
  · have e : ¬ (k = 1 ∧ nk = key) := by
      rintro ⟨rfl, rfl⟩
      simp at hb
    rw [if_neg e]
    clear hb
    refine mW ?_; clear H; intro a w H
    refine wp_ret ?_; exact mEnd [] [] [.cell 4 76] [_] hN hR H
end Go.Proofs.Ytigmpdhnhkdeiaa
