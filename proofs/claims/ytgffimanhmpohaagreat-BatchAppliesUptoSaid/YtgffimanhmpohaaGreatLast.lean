/- rootcellarref11.Tree, same, Fresh: the nodes of a map's tree. -/
import Derived.Test.YtgffimanhmpohaaGreatMap2
import Derived.Test.YtgffimanhmpohaaGreatPu
import Derived.Test.YtgffimanhmpohaaGreatZa
set_option linter.unusedSimpArgs false
set_option linter.unusedVariables false
namespace Go.Proofs.YtgffimanhmpohaaGreat
open Go Go.RowKit
abbrev NdT := Int × List Pr
abbrev ndsT : Ty := ti119.ty
def ndsA (p : NdT) : AV := .st [.v (.int .i64 p.1), .sl prT (p.2.map prA) none]
def treeN : Nat → Nat → List Pr → List NdT
  | 0, _, l => if l.length = 0 then [] else [(-1, l)]
  | f + 1, d, l => if l.length = 0 then [] else if l.length = 1 then [(-1, l)] else
      ((d : Int), l) :: (treeN f (d + 1) (halfP false d l) ++ treeN f (d + 1) (halfP true d l))
theorem treeN_len : ∀ (f d : Nat) (l : List Pr), (treeN f d l).length ≤ l.length * (f + 1)
  | 0, d, l => by
    unfold treeN
    split
    · exact Nat.zero_le _
    simp; omega
  | f + 1, d, l => by
    have h1 := treeN_len f (d + 1) (halfP false d l)
    have h2 := treeN_len f (d + 1) (halfP true d l)
    have h3 := halfP_sum d l
    unfold treeN
    split
    · exact Nat.zero_le _
    split
    · rename_i h; rw [h]; simp
    rw [List.length_cons, List.length_append]
    have : l.length * (f + 1 + 1) = (halfP false d l).length * (f + 1) + (halfP true d l).length * (f + 1) + l.length := by rw [← Nat.add_mul, h3, Nat.mul_succ]
    omega
theorem nds_len (l : List NdT) : (l.map ndsA).length = l.length := List.length_map ..
theorem nds_get (l : List NdT) (k : Nat) (h : k < l.length) : (l.map ndsA).getD k .any = .st [.v (.int .i64 l[k].1), .sl prT (l[k].2.map prA) none] := by simp [ndsA, List.getD_eq_getElem?_getD, h]
theorem prs_app2 (l : List Pr) (p : Pr) : (l ++ [p]).map prA = l.map prA ++ [.st [.ba p.1, .bs p.2 none]] := by rw [List.map_append]; rfl
theorem prs_get2 (l : List Pr) (k : Nat) (h : k < l.length) : (l.map prA).getD k .any = .st [.ba l[k].1, .bs l[k].2 none] := by simp [prA, List.getD_eq_getElem?_getD, h]
set_option maxRecDepth 20000 in
set_option maxHeartbeats 4000000 in
theorem treeN_step (f d : Nat) (hf : f + 1 + d = 256) (l : List Pr) (hK : K32 l) (hl : l.length ≤ 10000) (h2 : ¬ l.length = 0) (h3 : ¬ l.length = 1)
    (c1 : VC Tryz.prog 29 [.sl prT ((halfP false d l).map prA) none, .v (.int .i64 ((d : Int) + 1))] [] (.sl ndsT ((treeN f (d + 1) (halfP false d l)).map ndsA) none))
    (c2 : VC Tryz.prog 29 [.sl prT ((halfP true d l).map prA) none, .v (.int .i64 ((d : Int) + 1))] [] (.sl ndsT ((treeN f (d + 1) (halfP true d l)).map ndsA) none)) :
    VC Tryz.prog 29 [.sl prT (l.map prA) none, .v (.int .i64 (d : Int))] [] (.sl ndsT ((treeN (f + 1) d l).map ndsA) none) := by
  have hml : (l.map prA).length = l.length := List.length_map ..
  have hgl := prs_get2 l
  have hT : treeN (f + 1) d l = ((d : Int), l) :: (treeN f (d + 1) (halfP false d l) ++ treeN f (d + 1) (halfP true d l)) := by rw [treeN, if_neg h2, if_neg h3]
  have hTl := treeN_len (f + 1) d l
  have hTb : l.length * (f + 1 + 1) ≤ 10000 * 257 := Nat.mul_le_mul hl (by omega)
  have hTa : (treeN (f + 1) d l).map ndsA = [.st [.v (.int .i64 (d : Int)), .sl prT (l.map prA) none]] ++ (treeN f (d + 1) (halfP false d l)).map ndsA ++ (treeN f (d + 1) (halfP true d l)).map ndsA := by rw [hT]; simp [ndsA]
  have hTs : (treeN f (d + 1) (halfP false d l)).length + (treeN f (d + 1) (halfP true d l)).length + 1 = (treeN (f + 1) d l).length := by rw [hT, List.length_cons, List.length_append]
  have n1 := nds_len (treeN f (d + 1) (halfP false d l))
  have n2 := nds_len (treeN f (d + 1) (halfP true d l))
  have hy1 := fun k hk => halfP_yes false d l k hk
  have hy2 := fun k hk => halfP_yes true d l k hk
  have hn1 := fun k hk => halfP_no false d l k hk
  have hn2 := fun k hk => halfP_no true d l k hk
  have hla := fun k => Nat.le_trans (halfP_le false d (l.take k)) (List.length_take_le' _ _)
  have hlb := fun k => Nat.le_trans (halfP_le true d (l.take k)) (List.length_take_le' _ _)
  rw [hTa]
  generalize treeN (f + 1) d l = TT at *
  generalize (treeN f (d + 1) (halfP false d l)).length = m1 at *
  generalize (treeN f (d + 1) (halfP true d l)).length = m2 at *
  generalize (treeN f (d + 1) (halfP false d l)).map ndsA = T1 at *
  generalize (treeN f (d + 1) (halfP true d l)).map ndsA = T2 at *
  have hb256 : d < 256 := by omega
  have hpb : ∀ k, pbit k (d : Int) = if bitN k d then 1 else 0 := fun k => by rw [pbit, if_pos (by omega), Int.toNat_natCast]
  generalize hes : l.map prA = es at *
  clear hT hTa hes
  have z1 : decide ((l.length : Int) = 0) = false := decide_eq_false (by omega)
  have z2 : decide ((l.length : Int) = 1) = false := decide_eq_false (by omega)
  refine mE Tryz.func29 ?_; intro N w0 a w hN hR H
  have hX := And.intro @hml (And.intro @z1 (@z2))
  refine mW ?_; clear H; intro a w H
  refine mC H (fun hb => ?_) (fun hb => ?_)
  · exact absurd hb (by decide)
  clear hb
  refine mW ?_; clear H; intro a w H
  refine mC H (fun hb => ?_) (fun hb => ?_)
  · exact absurd hb (by decide)
  clear hb
  refine mW ?_; clear H; intro a w H
  replace H := v_nilE tab_ok H 5 53 prT (j := ti53) rfl (by decide) rfl
  simp only [nilT, reduceIte, Nat.reduceEqDiff, List.length_nil, List.nil_append] at H
  replace H := v_nilE tab_ok H 6 53 prT (j := ti53) rfl (by decide) rfl
  simp only [nilT, reduceIte, Nat.reduceEqDiff, List.length_nil, List.nil_append, List.length_cons, Nat.reduceAdd] at H
  refine v_loop (fun k : Nat => ⟨[(7, none, .v (.int .i64 (k : Int))), (6, none, .sl prT ((halfP true d (l.take k)).map prA) (some 1)), (5, none, .sl prT ((halfP false d (l.take k)).map prA) (some 0)), (4, none, .v (.slice none 0 0)), (0, none, .sl prT es none), (1, none, .v (.int .i64 (d : Int)))],
    [], [], [(53, (halfP false d (l.take k)).length), (53, (halfP true d (l.take k)).length)]⟩) (fun k => k ≤ l.length) (fun k => l.length - k) 0 (Nat.zero_le _)
    (H.to 0 2 ⟨hN, Nat.le_trans hR (Nat.zero_le _)⟩ ⟨rfl, rfl, rfl, rfl, rfl, rfl, trivial⟩ rfl rfl rfl rfl rfl) ?_
  clear H
  intro k a w hk1 H
  clear hX; have hX := @hml
  refine mW ?_; clear H; intro a w H
  refine mC H (fun hb => ?_) (fun hb => ?_)
  · have hlt : k < l.length := by rw [decide_eq_true_eq] at hb; omega
    clear hb
    have g1 := hgl k hlt
    have w1 := hK _ (List.getElem_mem hlt)
    have hy1 := hy1 k hlt
    have hy2 := hy2 k hlt
    have hn1 := hn1 k hlt
    have hn2 := hn2 k hlt
    have hbt := bitR_v l[k].1 w1 (d : Int)
    have hpk := hpb l[k].1
    have ha1 := prs_app2 (halfP false d (l.take k)) l[k]
    have ha2 := prs_app2 (halfP true d (l.take k)) l[k]
    have hla := hla k
    have hlb := hlb k
    have x1 : ((halfP false d (l.take k)).map prA).length = (halfP false d (l.take k)).length := List.length_map ..
    have x2 : ((halfP true d (l.take k)).map prA).length = (halfP true d (l.take k)).length := List.length_map ..
    generalize l[k] = q at *
    obtain ⟨kb, vb⟩ := q
    dsimp only at g1 w1 hy1 hy2 hn1 hn2 hbt hpk ha1 ha2
    cases hbv : bitN kb d
    · have hpk0 : pbit kb (d : Int) = 0 := by rw [hpk, hbv]; rfl
      rw [hpk0] at hbt
      clear hpk
      refine mS ?_
      clear hX; have hX := And.intro @hml (And.intro @g1 (And.intro @w1 (And.intro @x1 (@x2))))
      (try refine wp_region_lit ?_); refine mN 3 hN H ?_; clear H; intro a w H
      (try refine wp_region_lit ?_); refine mN 3 hN H ?_; clear H; intro a w H
      refine mCall [] [] (hbt) H ?_; clear H; intro a w H; try refine wpList_nil ?_
      (try refine wp_region_lit ?_); refine mN 1 hN H ?_; clear H; intro a w H
      refine mS ?_
      refine mC H (fun hb => ?_) (fun hb => ?_)
      · clear hb
        refine mS ?_
        (try refine wp_region_lit ?_); refine mN 4 hN H ?_; clear H; intro a w H
        (try refine wp_region_lit ?_); refine mN 1 hN H ?_; clear H; intro a w H
        refine mW ?_; clear H; intro a w H
        rw [← ha1, show (k : Int) + 1 = ((k + 1 : Nat) : Int) by omega] at H
        exact ⟨k + 1, hlt, by omega, H.to 0 2 ⟨hN, Nat.le_trans hR (Nat.zero_le _)⟩ ⟨rfl, by rw [hn2 hbv]; rfl, by rw [hy1 hbv]; rfl, rfl, rfl, rfl, trivial⟩ rfl (by rw [hy1 hbv, hn2 hbv, List.length_append]; rfl) rfl rfl rfl⟩
      exact absurd hb (by decide)
    have hpk0 : pbit kb (d : Int) = 1 := by rw [hpk, hbv]; rfl
    rw [hpk0] at hbt
    clear hpk
    refine mS ?_
    clear hX; have hX := And.intro @hml (And.intro @g1 (And.intro @w1 (And.intro @x1 (@x2))))
    (try refine wp_region_lit ?_); refine mN 3 hN H ?_; clear H; intro a w H
    (try refine wp_region_lit ?_); refine mN 3 hN H ?_; clear H; intro a w H
    refine mCall [] [] (hbt) H ?_; clear H; intro a w H; try refine wpList_nil ?_
    (try refine wp_region_lit ?_); refine mN 1 hN H ?_; clear H; intro a w H
    refine mS ?_
    refine mC H (fun hb => ?_) (fun hb => ?_)
    · exact absurd hb (by decide)
    clear hb
    refine mS ?_
    (try refine wp_region_lit ?_); refine mN 4 hN H ?_; clear H; intro a w H
    (try refine wp_region_lit ?_); refine mN 1 hN H ?_; clear H; intro a w H
    refine mW ?_; clear H; intro a w H
    rw [← ha2, show (k : Int) + 1 = ((k + 1 : Nat) : Int) by omega] at H
    exact ⟨k + 1, hlt, by omega, H.to 0 2 ⟨hN, Nat.le_trans hR (Nat.zero_le _)⟩ ⟨rfl, by rw [hy2 hbv]; rfl, by rw [hn1 hbv]; rfl, rfl, rfl, rfl, trivial⟩ rfl (by rw [hy2 hbv, hn1 hbv, List.length_append]; rfl) rfl rfl rfl⟩
  have hge : k = l.length := by rw [decide_eq_false_iff_not] at hb; omega
  subst hge
  clear hb
  rw [List.take_length] at H
  clear hX; have hX := And.intro @hml (And.intro @n1 (@n2))
  refine mW ?_; clear H; intro a w H
  refine mCall [] [] (c1) H ?_; clear H; intro a w H; try refine wpList_nil ?_
  refine mW ?_; clear H; intro a w H
  refine mCall [] [] (c2) H ?_; clear H; intro a w H; try refine wpList_nil ?_
  refine mW ?_; clear H; intro a w H
  replace H := v_sub H 4 (x := .sl ndsT (.st [.v (.int .i64 (d : Int)), .sl prT es none] :: (T1 ++ T2)) (some 2)) (y := .sl ndsT ([.st [.v (.int .i64 (d : Int)), .sl prT es none]] ++ T1 ++ T2) none) ⟨by simp, rfl⟩ rfl (fun az h => by cases h) rfl
  simp only [nilT, reduceIte, Nat.reduceEqDiff] at H
  refine wp_ret ?_; exact mEnd [] [] [.tmp 4] [_] hN hR H
set_option maxRecDepth 20000 in
theorem tree_small (f d : Nat) (l : List Pr) (hl : l.length ≤ 10000) (h2 : l.length < 2) : VC Tryz.prog 29 [.sl prT (l.map prA) none, .v (.int .i64 (d : Int))] [] (.sl ndsT ((treeN f d l).map ndsA) none) := by
  have hml : (l.map prA).length = l.length := List.length_map ..
  by_cases h0 : l.length = 0
  · have hT : treeN f d l = [] := by cases f <;> (rw [treeN, if_pos h0])
    rw [hT]
    have z1 : decide ((l.length : Int) = 0) = true := decide_eq_true (by omega)
    generalize l.map prA = es at *
    refine mE Tryz.func29 ?_; intro N w0 a w hN hR H
    have hX := And.intro @hml (@z1)
    refine mW ?_; clear H; intro a w H
    refine mC H (fun hb => ?_) (fun hb => ?_)
    · clear hb
      refine mW ?_; clear H; intro a w H
      replace H := v_sub H 4 (x := .v (.slice none 0 0)) (y := .sl ndsT (([] : List NdT).map ndsA) none) rfl rfl (fun az h => by cases h) rfl
      simp only [nilT, reduceIte, Nat.reduceEqDiff] at H
      refine wp_ret ?_; exact mEnd [] [] [.tmp 4] [_] hN hR H
    exact absurd hb (by decide)
  · have hT : treeN f d l = [(-1, l)] := by cases f <;> (rw [treeN, if_neg h0]) <;> rw [if_pos (by omega)]
    rw [hT]
    have z1 : decide ((l.length : Int) = 0) = false := decide_eq_false (by omega)
    have z2 : decide ((l.length : Int) = 1) = true := decide_eq_true (by omega)
    show VC _ _ _ _ (.sl ndsT [.st [.v (.int .i64 (-1)), .sl prT (l.map prA) none]] none)
    generalize l.map prA = es at *
    refine mE Tryz.func29 ?_; intro N w0 a w hN hR H
    have hX := And.intro @hml (And.intro @z1 (@z2))
    refine mW ?_; clear H; intro a w H
    refine mC H (fun hb => ?_) (fun hb => ?_)
    · exact absurd hb (by decide)
    clear hb
    refine mW ?_; clear H; intro a w H
    refine mC H (fun hb => ?_) (fun hb => ?_)
    · clear hb
      refine mW ?_; clear H; intro a w H
      replace H := v_sub H 4 (x := .sl ndsT [.st [.v (.int .i64 (-1)), .sl prT es none]] (some 0)) (y := .sl ndsT [.st [.v (.int .i64 (-1)), .sl prT es none]] none) ⟨rfl, rfl⟩ rfl (fun az h => by cases h) rfl
      simp only [nilT, reduceIte, Nat.reduceEqDiff] at H
      refine wp_ret ?_; exact mEnd [] [] [.tmp 4] [_] hN hR H
    exact absurd hb (by decide)
set_option maxRecDepth 20000 in
theorem tree11_v : ∀ (f d : Nat) (l : List Pr), f + d = 256 → K32 l → Sep d (dgs l) → l.length ≤ 10000 → VC Tryz.prog 29 [.sl prT (l.map prA) none, .v (.int .i64 (d : Int))] [] (.sl ndsT ((treeN f d l).map ndsA) none) := by
  intro f
  induction f with
  | zero =>
    intro d l hd hK hs hl
    have h2 : l.length < 2 := by have := hs.deep (by omega); rwa [dgs_len] at this
    exact tree_small 0 d l hl h2
  | succ f ih =>
    intro d l hd hK hs hl
    by_cases h2 : l.length < 2
    · exact tree_small (f + 1) d l hl h2
    have hsA : Sep (d + 1) (dgs (halfP false d l)) := by rw [halfP_dgs]; exact hs.side false
    have hsB : Sep (d + 1) (dgs (halfP true d l)) := by rw [halfP_dgs]; exact hs.side true
    have c1 := ih (d + 1) (halfP false d l) (by omega) (fun x hx => hK x (halfP_bit x hx).2) hsA (Nat.le_trans (halfP_le _ _ _) hl)
    have c2 := ih (d + 1) (halfP true d l) (by omega) (fun x hx => hK x (halfP_bit x hx).2) hsB (Nat.le_trans (halfP_le _ _ _) hl)
    rw [show ((d + 1 : Nat) : Int) = (d : Int) + 1 by omega] at c1 c2
    exact treeN_step f d hd l hK hl (by omega) (by omega) c1 c2
set_option maxRecDepth 20000 in
set_option maxHeartbeats 4000000 in
theorem same11_v (x y : NdT) (hx : K32 x.2) (hy : K32 y.2) (hl1 : x.2.length ≤ 100000) (hl2 : y.2.length ≤ 100000) : VC Tryz.prog 67 [ndsA x, ndsA y] [] (.v (.bool (decide (x = y)))) := by
  obtain ⟨dx, lx⟩ := x
  obtain ⟨dy, ly⟩ := y
  unfold ndsA
  dsimp only at hx hy hl1 hl2 ⊢
  have hmx : (lx.map prA).length = lx.length := List.length_map ..
  have hmy : (ly.map prA).length = ly.length := List.length_map ..
  have hgx := prs_get2 lx
  have hgy := prs_get2 ly
  generalize lx.map prA = ex at *
  generalize ly.map prA = ey at *
  refine mE Tryz.func67 ?_; intro N w0 a w hN hR H
  have hX := And.intro @hmx (@hmy)
  refine mW ?_; clear H; intro a w H
  refine mC H (fun hb => ?_) (fun hb => ?_)
  · have hne : ¬ ((dx, lx) = (dy, ly)) := by
      intro e
      injection e with e1 e2
      subst e1 e2
      simp at hb
    clear hb
    rw [decide_eq_false hne]
    refine mW ?_; clear H; intro a w H
    refine wp_ret ?_; exact mEnd [] [] [.tmp 4] [_] hN hR H
  have hdl : dx = dy ∧ lx.length = ly.length := by
    by_cases e : dx = dy
    · refine ⟨e, ?_⟩
      rw [decide_eq_true e] at hb
      have : (!decide ((lx.length : Int) = (ly.length : Int))) = false := hb
      rw [Bool.not_eq_false', decide_eq_true_eq] at this; omega
    rw [decide_eq_false e] at hb; cases hb
  clear hb
  obtain ⟨rfl, hll⟩ := hdl
  refine mW ?_; clear H; intro a w H
  refine v_loop (fun i : Nat => ⟨[(5, none, .v (.int .i64 (i : Int))), (4, none, .v (.bool false)), (2, none, .ptr 0 []), (3, none, .ptr 1 [])],
    [(ndsT, .st [.v (.int .i64 dx), .sl prT ex none]), (ndsT, .st [.v (.int .i64 dx), .sl prT ey none])], [], []⟩)
    (fun i => i ≤ lx.length ∧ ∀ m (h1 : m < lx.length) (h2 : m < ly.length), m < i → lx[m] = ly[m]) (fun i => lx.length - i) 0 ⟨Nat.zero_le _, fun m h1 h2 hm => absurd hm (by omega)⟩ (H.to 2 0 ⟨Nat.le_trans hN (Nat.zero_le _), hR⟩ ⟨rfl, rfl, rfl, rfl, trivial⟩ rfl rfl rfl rfl rfl) ?_
  clear H
  rintro i a w ⟨hi1, hi2⟩ H
  refine mW ?_; clear H; intro a w H
  refine mC H (fun hb => ?_) (fun hb => ?_)
  · have hlt : i < lx.length := by rw [decide_eq_true_eq] at hb; omega
    clear hb
    have hlt2 : i < ly.length := by omega
    have g1 := hgx i hlt
    have g2 := hgy i hlt2
    have w1 := hx _ (List.getElem_mem hlt)
    have w2 := hy _ (List.getElem_mem hlt2)
    obtain ⟨p, hpe⟩ : ∃ p, lx[i] = p := ⟨_, rfl⟩
    obtain ⟨q, hqe⟩ : ∃ q, ly[i] = q := ⟨_, rfl⟩
    rw [hpe] at g1 w1
    rw [hqe] at g2 w2
    obtain ⟨kp, vp⟩ := p
    obtain ⟨kq, vq⟩ := q
    dsimp only at g1 g2 w1 w2
    clear hX; have hX := And.intro @hmx (And.intro @hmy (And.intro @g1 (And.intro @g2 (And.intro @w1 (@w2)))))
    refine mS ?_; refine mD 2 [] [] H ?_; clear H; intro gS H
    refine mTN 4 hN H ?_; clear H; intro a w H; simp only [drL]
    refine mTN 4 hN H ?_; clear H; intro a w H; simp only [drL]
    refine mTN 2 hN H ?_; clear H; intro a w H; simp only [drL]
    refine mTN 2 hN H ?_; clear H; intro a w H; simp only [drL]
    refine mTN 1 hN H ?_; clear H; intro a w H; simp only [drL]
    refine mTN 1 hN H ?_; clear H; intro a w H; simp only [drL]
    refine mTN 4 hN H ?_; clear H; intro a w H; simp only [drL]
    refine mTN 3 hN H ?_; clear H; intro a w H; simp only [drL]
    refine mTN 4 hN H ?_; clear H; intro a w H; simp only [drL]
    refine mTN 2 hN H ?_; clear H; intro a w H; simp only [drL]
    refine mTN 1 hN H ?_; clear H; intro a w H; simp only [drL]
    refine mTN 1 hN H ?_; clear H; intro a w H; simp only [drL]
    refine mTN 1 hN H ?_; clear H; intro a w H; simp only [drL]
    refine mT ?_; clear H; intro a w H
    refine v_drawNil H ?_; clear H; intro H
    rw [strOf_list, strOf_list] at H
    refine mC H (fun hb => ?_) (fun hb => ?_)
    · have hne : ¬ ((dx, lx) = (dx, ly)) := by
        intro e
        injection e with e1 e2
        subst e2
        rw [hpe] at hqe
        injection hqe with e3 e4
        subst e3 e4
        simp at hb
      clear hb
      rw [decide_eq_false hne]
      clear hX; have hX := And.intro @hmx (@hmy)
      refine mW ?_; clear H; intro a w H
      refine wp_ret ?_; exact mEnd [] [] [.tmp 4] [_] hN hR H
    have heq : kp = kq ∧ vp = vq := by
      by_cases e : kp = kq
      · refine ⟨e, ?_⟩
        rw [decide_eq_true e] at hb
        have : (!(vp == vq)) = false := hb
        rw [Bool.not_eq_false'] at this
        exact eq_of_beq this
      rw [decide_eq_false e] at hb; cases hb
    clear hb
    obtain ⟨rfl, rfl⟩ := heq
    clear hX; have hX := And.intro @hmx (@hmy)
    refine mW ?_; clear H; intro a w H
    rw [show (i : Int) + 1 = ((i + 1 : Nat) : Int) by omega] at H
    refine ⟨i + 1, ⟨hlt, fun m h1 h2 hm => ?_⟩, by omega, H.to 2 0 ⟨Nat.le_trans hN (Nat.zero_le _), hR⟩ ⟨rfl, rfl, rfl, rfl, trivial⟩ rfl rfl rfl rfl rfl⟩
    rcases Nat.lt_or_ge m i with h3 | h3
    · exact hi2 m h1 h2 h3
    have : m = i := by omega
    subst this
    rw [hpe, hqe]
  have hge : i = lx.length := by rw [decide_eq_false_iff_not] at hb; omega
  subst hge
  clear hb
  have he : (dx, lx) = (dx, ly) := by
    rw [List.ext_getElem hll fun m h1 h2 => hi2 m h1 h2 h1]
  rw [decide_eq_true he]
  refine mW ?_; clear H; intro a w H
  refine wp_ret ?_; exact mEnd [] [] [.tmp 4] [_] hN hR H
def freshN (x y : List NdT) : Nat := y.countP fun q => !x.contains q
theorem freshN_step (x y : List NdT) (i : Nat) (h : i < y.length) : freshN x (y.take (i + 1)) = freshN x (y.take i) + (if x.contains y[i] then 0 else 1) := by
  unfold freshN
  rw [List.take_succ_eq_append_getElem h, List.countP_append]
  congr 1
  simp only [List.countP_cons, List.countP_nil]
  cases x.contains y[i] <;> rfl
theorem mem_treeN : ∀ (f d : Nat) (l : List Pr) (p : NdT), p ∈ treeN f d l → ∀ x ∈ p.2, x ∈ l
  | 0, d, l, p, h, x, hx => by
    unfold treeN at h
    split at h
    · cases h
    rw [List.mem_singleton.1 h] at hx; exact hx
  | f + 1, d, l, p, h, x, hx => by
    unfold treeN at h
    split at h
    · cases h
    split at h
    · rw [List.mem_singleton.1 h] at hx; exact hx
    rcases List.mem_cons.1 h with h | h
    · rw [h] at hx; exact hx
    rcases List.mem_append.1 h with h | h
    · exact (halfP_bit x (mem_treeN f (d + 1) _ p h x hx)).2
    exact (halfP_bit x (mem_treeN f (d + 1) _ p h x hx)).2
theorem mem_treeN_len : ∀ (f d : Nat) (l : List Pr) (p : NdT), p ∈ treeN f d l → p.2.length ≤ l.length
  | 0, d, l, p, h => by
    unfold treeN at h
    split at h
    · cases h
    rw [List.mem_singleton.1 h]; exact Nat.le_refl _
  | f + 1, d, l, p, h => by
    unfold treeN at h
    split at h
    · cases h
    split at h
    · rw [List.mem_singleton.1 h]; exact Nat.le_refl _
    rcases List.mem_cons.1 h with h | h
    · rw [h]; exact Nat.le_refl _
    rcases List.mem_append.1 h with h | h
    · exact Nat.le_trans (mem_treeN_len f (d + 1) _ p h) (halfP_le _ _ _)
    exact Nat.le_trans (mem_treeN_len f (d + 1) _ p h) (halfP_le _ _ _)
set_option maxRecDepth 20000 in
set_option maxHeartbeats 4000000 in
theorem fresh11_v (old now : List Pr) (hK1 : K32 old) (hK2 : K32 now) (hs1 : Sep 0 (dgs old)) (hs2 : Sep 0 (dgs now)) (hl1 : old.length ≤ 1000) (hl2 : now.length ≤ 1000) :
    VC Tryz.prog 30 [.sl prT (old.map prA) none, .sl prT (now.map prA) none] [] (.v (.int .i64 (freshN (treeN 256 0 old) (treeN 256 0 now) : Int))) := by
  have c1 := tree11_v 256 0 old rfl hK1 hs1 (by omega)
  have c2 := tree11_v 256 0 now rfl hK2 hs2 (by omega)
  have hX1 := treeN_len 256 0 old
  have hX2 := treeN_len 256 0 now
  have m1 := mem_treeN 256 0 old
  have m2 := mem_treeN 256 0 now
  have m3 := mem_treeN_len 256 0 old
  have m4 := mem_treeN_len 256 0 now
  generalize treeN 256 0 old = X at *
  generalize treeN 256 0 now = Y at *
  have lX : X.length ≤ 300000 := by omega
  have lY : Y.length ≤ 300000 := by omega
  have hmx := nds_len X
  have hmy := nds_len Y
  have hgx := nds_get X
  have hgy := nds_get Y
  have hcs : ∀ i (h1 : i < X.length) j (h2 : j < Y.length), VC Tryz.prog 67 [ndsA Y[j], ndsA X[i]] [] (.v (.bool (decide (Y[j] = X[i])))) := fun i h1 j h2 =>
    same11_v _ _ (fun x hx => hK2 x (m2 _ (List.getElem_mem h2) x hx)) (fun x hx => hK1 x (m1 _ (List.getElem_mem h1) x hx)) (by have := m4 _ (List.getElem_mem h2); omega) (by have := m3 _ (List.getElem_mem h1); omega)
  clear m1 m2 m3 m4 hX1 hX2
  simp only [ndsA] at hcs
  generalize X.map ndsA = ex at *
  generalize Y.map ndsA = ey at *
  generalize old.map prA = eo at *
  generalize now.map prA = en at *
  rw [show ((0 : Nat) : Int) = 0 from rfl] at c1 c2
  refine mE Tryz.func30 ?_; intro N w0 a w hN hR H
  have hX := And.intro @hmx (@hmy)
  refine mW ?_; clear H; intro a w H
  refine mCall [] [] (c1) H ?_; clear H; intro a w H; try refine wpList_nil ?_
  refine mW ?_; clear H; intro a w H
  refine mCall [] [] (c2) H ?_; clear H; intro a w H; try refine wpList_nil ?_
  refine mW ?_; clear H; intro a w H
  refine v_loop (fun i : Nat => ⟨[(8, none, .v (.int .i64 (i : Int))), (7, none, .v (.int .i64 (freshN X (Y.take i) : Int))), (6, none, .sl ndsT ey none), (5, none, .sl ndsT ex none), (4, none, .v (.int .i64 0))], [], [], []⟩)
    (fun i => i ≤ Y.length) (fun i => Y.length - i) 0 (Nat.zero_le _) (H.to 0 0 ⟨hN, hR⟩ ⟨rfl, rfl, rfl, rfl, rfl, trivial⟩ rfl rfl rfl rfl rfl) ?_
  clear H
  intro i a w hi H
  refine mW ?_; clear H; intro a w H
  refine mC H (fun hb => ?_) (fun hb => ?_)
  · have hlt : i < Y.length := by rw [decide_eq_true_eq] at hb; omega
    clear hb
    have hfl : freshN X (Y.take i) ≤ 300000 := by unfold freshN; have := List.countP_le_length (p := fun q => !X.contains q) (l := Y.take i); rw [List.length_take] at this; omega
    have hfs := freshN_step X Y i hlt
    have hgi := hgy i hlt
    have hcs := fun k hk => hcs k hk i hlt
    generalize Y[i] = y at *
    obtain ⟨dy, ly⟩ := y
    dsimp only at hgi hcs
    refine mS ?_
    refine mW ?_; clear H; intro a w H
    refine v_loop (fun k : Nat => ⟨[(10, none, .v (.int .i64 (k : Int))), (9, none, .v (.bool ((X.take k).contains (dy, ly)))), (8, none, .v (.int .i64 (i : Int))), (7, none, .v (.int .i64 (freshN X (Y.take i) : Int))), (6, none, .sl ndsT ey none), (5, none, .sl ndsT ex none), (4, none, .v (.int .i64 0))], [], [], []⟩)
      (fun k => k ≤ X.length) (fun k => X.length - k) 0 (Nat.zero_le _) (H.to 0 0 ⟨hN, hR⟩ ⟨rfl, rfl, rfl, rfl, rfl, rfl, rfl, trivial⟩ rfl rfl rfl rfl rfl) ?_
    clear H
    intro k a w hk H
    have hfin : (¬ k < X.length ∨ (X.take k).contains (dy, ly) = true) → (X.take k).contains (dy, ly) = X.contains (dy, ly) := fun h => by
      rcases h with h | h
      · rw [List.take_of_length_le (by omega)]
      rw [h]
      have h2 := List.contains_iff_mem.1 h
      exact (List.contains_iff_mem.2 (List.mem_of_mem_take h2)).symm
    have hstp : ∀ h : k < X.length, (X.take k).contains (dy, ly) = false → (X.take (k + 1)).contains (dy, ly) = decide ((dy, ly) = X[k]) := fun h hf => by
      rw [List.take_succ_eq_append_getElem h, List.contains_append, hf, Bool.false_or]
      simp [List.contains_cons]
    generalize hfl0 : (X.take k).contains (dy, ly) = fl at *
    refine mS ?_
    (try refine wp_region_lit ?_); refine mN 4 hN H ?_; clear H; intro a w H
    refine mW ?_; clear H; intro a w H
    refine mC H (fun hb => ?_) (fun hb => ?_)
    · have hkf : k < X.length ∧ fl = false := by
        cases hd : decide ((k : Int) < (X.length : Int))
        · rw [hd] at hb; cases hb
        rw [hd] at hb
        rw [decide_eq_true_eq] at hd
        refine ⟨by omega, ?_⟩
        have : (!fl) = true := hb
        simpa using this
      clear hb
      obtain ⟨hkt, rfl⟩ := hkf
      have hgk := hgx k hkt
      have hc := hcs k hkt
      have hst := hstp hkt rfl
      generalize X[k] = x at *
      obtain ⟨dx, lx⟩ := x
      dsimp only at hgk hc
      clear hX; have hX := And.intro @hmx (And.intro @hmy (And.intro @hgi (@hgk)))
      refine mS ?_; refine mD 0 [8] [] H ?_; clear H; intro gS H
      refine mTN 3 hN H ?_; clear H; intro a w H; simp only [drL]
      refine mTN 1 hN H ?_; clear H; intro a w H; simp only [drL]
      refine mTN 3 hN H ?_; clear H; intro a w H; simp only [drL]
      refine mTN 1 hN H ?_; clear H; intro a w H; simp only [drL]
      refine mCallT [] [] (hc) H ?_; clear H; intro a w H
      refine mT ?_; clear H; intro a w H
      refine v_drawNil H ?_; clear H; intro H
      rw [← hst] at H
      clear hX; have hX := And.intro @hmx (@hmy)
      refine mW ?_; clear H; intro a w H
      rw [show (k : Int) + 1 = ((k + 1 : Nat) : Int) by omega] at H
      exact ⟨k + 1, hkt, by omega, H.to 0 0 ⟨hN, hR⟩ ⟨rfl, rfl, rfl, rfl, rfl, rfl, rfl, trivial⟩ rfl rfl rfl rfl rfl⟩
    have hkf : ¬ k < X.length ∨ fl = true := by
      cases hd : decide ((k : Int) < (X.length : Int))
      · rw [decide_eq_false_iff_not] at hd; exact .inl (by omega)
      rw [hd] at hb
      have : (!fl) = false := hb
      exact .inr (by simpa using this)
    clear hb
    rw [hfin hkf] at H
    generalize X.contains (dy, ly) = c at *
    refine mW ?_; clear H; intro a w H
    refine mC H (fun hb => ?_) (fun hb => ?_)
    · have hc0 : c = false := by simpa using hb
      subst hc0
      clear hb
      rw [if_neg (by decide)] at hfs
      refine mW ?_; clear H; intro a w H
      rw [show (i : Int) + 1 = ((i + 1 : Nat) : Int) by omega, show (freshN X (Y.take i) : Int) + 1 = ((freshN X (Y.take (i + 1)) : Nat) : Int) by omega] at H
      exact ⟨i + 1, hlt, by omega, H.to 0 0 ⟨hN, hR⟩ ⟨rfl, rfl, rfl, rfl, rfl, trivial⟩ rfl rfl rfl rfl rfl⟩
    have hc0 : c = true := by simpa using hb
    subst hc0
    clear hb
    rw [if_pos rfl] at hfs
    refine mW ?_; clear H; intro a w H
    rw [show (i : Int) + 1 = ((i + 1 : Nat) : Int) by omega, show (freshN X (Y.take i) : Int) = ((freshN X (Y.take (i + 1)) : Nat) : Int) by omega] at H
    exact ⟨i + 1, hlt, by omega, H.to 0 0 ⟨hN, hR⟩ ⟨rfl, rfl, rfl, rfl, rfl, trivial⟩ rfl rfl rfl rfl rfl⟩
  have hge : i = Y.length := by rw [decide_eq_false_iff_not] at hb; omega
  subst hge
  clear hb
  rw [List.take_length] at H
  refine mW ?_; clear H; intro a w H
  refine wp_ret ?_; exact mEnd [] [] [.tmp 4] [_] hN hR H
def Slb.oth (s : Slb) (key : List UInt8) (h : Int) : Int × Int :=
  if pbit key (if s.ok_ h then (s.get_ h).d else -1) = 0 then ((s.get_ h).l, (s.get_ h).r) else ((s.get_ h).r, (s.get_ h).l)
def Slb.wayH (s : Slb) (key : List UInt8) : Nat → Int → List Int
  | 0, _ => []
  | f + 1, h => if (s.get_ h).k = 2 then h :: s.wayH key f (s.oth key h).1 else []
def Slb.endH (s : Slb) (key : List UInt8) : Nat → Int → Int
  | 0, h => h
  | f + 1, h => if (s.get_ h).k = 2 then s.endH key f (s.oth key h).1 else h
def Slb.ends (s : Slb) (key : List UInt8) : Nat → Int → Prop
  | 0, h => (s.get_ h).k ≠ 2
  | f + 1, h => (s.get_ h).k = 2 → s.ends key f (s.oth key h).1
attribute [local irreducible] wpT
end Go.Proofs.YtgffimanhmpohaaGreat
namespace Go.Proofs.YtgffimanhmpohaaGreat
open Go Go.RowKit
attribute [local irreducible] wpT
def Slb.dsH (s : Slb) (key : List UInt8) (l : List Int) : List (List UInt8) := l.map fun h => s.dig (s.oth key h).2
end Go.Proofs.YtgffimanhmpohaaGreat
namespace Go.Proofs.YtgffimanhmpohaaGreat
open Go Go.RowKit
theorem Slb.get_zero (s : Slb) : s.get_ 0 = SN.zero := by unfold Slb.get_; rw [Slb.at_zero]
theorem Is.dig {s : Slb} {f d : Nat} {l : List Pr} {h : Int} (hi : Is s f d l h) (hs : Sep d (dgs l)) (hfd : f + d = 256) : s.dig h = rootA f d (dgs l) := by
  by_cases hne : l = []
  · subst hne
    have : h = 0 := (Is.small (by simp)).1 hi
    subst this
    rw [rootA_small _ _ _ (by simp [dgs])]; unfold Slb.dig; rw [if_pos rfl]; rfl
  obtain ⟨x, c, h1, h2⟩ := hi.info hs hfd hne
  have h0 : h ≠ 0 := by have := (Slb.at_lt h1).1; omega
  unfold Slb.dig; rw [if_neg h0, (Slb.get_at h1).1]; exact h2.dg
def Slb.chn (s : Slb) (key : List UInt8) (E : Int) : Nat → Int → List Int → Prop
  | _, h, [] => h = E
  | d, h, x :: t => x = h ∧ s.ok_ h = true ∧ (s.get_ h).d = (d : Int) ∧ s.chn key E (d + 1) (s.oth key h).1 t
structure Ways (s : Slb) (key : List UInt8) (f d : Nat) (l : List Pr) (h : Int) : Prop where
  ends : s.ends key f h
  ds : s.dsH key (s.wayH key f h) = wayA key f d (dgs l)
  chn : s.chn key (s.endH key f h) d h (s.wayH key f h)
  m : ∃ m : List Pr, m.length < 2 ∧ IsB s m (s.endH key f h) ∧ (∀ x ∈ m, x ∈ l) ∧ (∀ x ∈ l, x.1 = key → x ∈ m) ∧ endA key f d (dgs l) = endB (dgs m)
theorem IsB.k {s : Slb} {m : List Pr} {h : Int} (hi : IsB s m h) : (s.get_ h).k ≠ 2 := by
  cases m with
  | nil => have : h = 0 := hi
           rw [this, Slb.get_zero]; decide
  | cons x m =>
    obtain ⟨hd, c, h1⟩ := hi
    rw [(Slb.get_at h1).1]; show (1 : UInt8) ≠ 2; decide
theorem ways_b {s : Slb} (key : List UInt8) (f d : Nat) {l : List Pr} {h : Int} (hl : l.length < 2) (hi : IsB s l h) : Ways s key f d l h := by
  have hk := hi.k
  have e1 : s.wayH key f h = [] := by cases f with
    | zero => rfl
    | succ f => rw [Slb.wayH, if_neg hk]
  have e2 : s.endH key f h = h := by cases f with
    | zero => rfl
    | succ f => rw [Slb.endH, if_neg hk]
  have e3 : s.ends key f h := by cases f with
    | zero => exact hk
    | succ f => exact fun e => absurd e hk
  have hl2 : (dgs l).length < 2 := by rw [dgs_len]; exact hl
  exact ⟨e3, by rw [e1, wayA_small _ _ _ _ hl2]; rfl, by rw [e1, e2]; rfl, l, hl, by rw [e2]; exact hi, fun _ h => h, fun _ h _ => h, endA_small _ _ _ _ hl2⟩
theorem ways (s : Slb) (key : List UInt8) : ∀ (f d : Nat) (l : List Pr) (h : Int), f + d = 256 → Sep d (dgs l) → Is s f d l h → Ways s key f d l h := by
  intro f
  induction f with
  | zero =>
    intro d l h hfd hs hi
    have hl : l.length < 2 := by have := hs.deep (by omega); rwa [dgs_len] at this
    exact ways_b key 0 d hl ((Is.small hl).1 hi)
  | succ f ih =>
    intro d l h hfd hs hi
    by_cases hl : l.length < 2
    · exact ways_b key _ d hl ((Is.small hl).1 hi)
    unfold Is at hi
    rw [if_neg hl] at hi
    obtain ⟨lh, rh, hd, c, h1, h2, h3⟩ := hi
    obtain ⟨g1, g2⟩ := Slb.get_at h1
    have hk : (s.get_ h).k = 2 := by rw [g1]; rfl
    have hdd : (s.get_ h).d = (d : Int) := by rw [g1]; rfl
    have hll : (s.get_ h).l = lh := by rw [g1]; rfl
    have hrr : (s.get_ h).r = rh := by rw [g1]; rfl
    have hp : pbit key (d : Int) = if bitN key d then 1 else 0 := by rw [pbit, if_pos (by omega), Int.toNat_natCast]
    have ho : s.oth key h = if bitN key d then (rh, lh) else (lh, rh) := by
      unfold Slb.oth
      rw [if_pos g2, hdd, hp, hll, hrr]
      cases bitN key d <;> rfl
    have hsd := fun b => hs.side b
    simp only [← halfP_dgs] at hsd
    have hlA : ¬ (dgs l).length < 2 := by rw [dgs_len]; exact hl
    have hI : Is s f (d + 1) (halfP (bitN key d) d l) (s.oth key h).1 ∧ Is s f (d + 1) (halfP (!bitN key d) d l) (s.oth key h).2 := by
      rw [ho]
      cases bitN key d
      · exact ⟨h2, h3⟩
      exact ⟨h3, h2⟩
    obtain ⟨w1, w2, w3, m, m1, m2, m3, m4, m5⟩ := ih (d + 1) _ _ (by omega) (hsd (bitN key d)) hI.1
    have hdig := hI.2.dig (hsd (!bitN key d)) (by omega)
    refine ⟨fun _ => w1, ?_, ?_, m, m1, ?_, fun x hx => (halfP_bit x (m3 x hx)).2, fun x hx e => m4 x ?_ e, ?_⟩
    · rw [Slb.wayH, if_pos hk, wayA, if_neg hlA, ← halfP_dgs, ← halfP_dgs, ← w2, ← hdig]; rfl
    · rw [Slb.wayH, if_pos hk, Slb.endH, if_pos hk]; exact ⟨rfl, g2, hdd, w3⟩
    · rw [Slb.endH, if_pos hk]; exact m2
    · unfold halfP; exact List.mem_filter.2 ⟨hx, by rw [e]; simp⟩
    rw [endA, if_neg hlA, ← halfP_dgs]; exact m5
def SN.side (x : SN) (k : Int) : Int := (if x.l = k then 1 else 0) + (if x.r = k then 1 else 0)
theorem SN.side_nn (x : SN) (k : Int) : 0 ≤ x.side k ∧ x.side k ≤ 2 := by unfold SN.side; split <;> split <;> omega
def slr (k : Int) : Option (SN × Nat) → Int
  | some (x, _) => x.side k
  | none => 0
theorem slr_nn (k : Int) (o : Option (SN × Nat)) : 0 ≤ slr k o ∧ slr k o ≤ 2 := by
  cases o with
  | none => exact ⟨Int.le_refl 0, show (0 : Int) ≤ 2 by decide⟩
  | some p => exact p.1.side_nn k
def Slb.refs (s : Slb) (k : Int) : Int := (s.sl.map (slr k)).sum
theorem sum_setI : ∀ (l : List Int) (i : Nat) (a : Int) (h : i < l.length), (l.set i a).sum = l.sum - l[i] + a
  | [], i, a, h => by simp at h
  | x :: l, 0, a, _ => by simp; omega
  | x :: l, i + 1, a, h => by
    have := sum_setI l i a (by simpa using h)
    simp only [List.set_cons_succ, List.sum_cons, List.getElem_cons_succ, this]; omega
theorem sum_nnI : ∀ (l : List Int), (∀ x ∈ l, 0 ≤ x) → 0 ≤ l.sum ∧ ∀ x ∈ l, x ≤ l.sum
  | [], _ => ⟨by simp, fun x h => by cases h⟩
  | y :: l, h => by
    obtain ⟨h1, h2⟩ := sum_nnI l fun x hx => h x (List.mem_cons_of_mem _ hx)
    have h0 := h y List.mem_cons_self
    refine ⟨by simp; omega, fun x hx => ?_⟩
    rcases List.mem_cons.1 hx with rfl | hx
    · simp; omega
    have := h2 x hx; simp; omega
theorem sum_posI : ∀ (l : List Int), 0 < l.sum → ∃ x ∈ l, 0 < x
  | [], h => by simp at h
  | y :: l, h => by
    by_cases hy : 0 < y
    · exact ⟨y, List.mem_cons_self, hy⟩
    obtain ⟨x, hx, h1⟩ := sum_posI l (by simp at h; omega)
    exact ⟨x, List.mem_cons_of_mem _ hx, h1⟩
theorem sum_leI : ∀ (l : List Int) (b : Int), (∀ x ∈ l, x ≤ b) → l.sum ≤ b * l.length
  | [], b, _ => by simp
  | y :: l, b, h => by
    have := sum_leI l b fun x hx => h x (List.mem_cons_of_mem _ hx)
    have h0 := h y List.mem_cons_self
    simp only [List.sum_cons, List.length_cons, Int.natCast_add, Int.mul_add]; simp; omega
theorem refs_nn (s : Slb) (k : Int) : 0 ≤ s.refs k := (sum_nnI _ fun x hx => by obtain ⟨o, _, rfl⟩ := List.mem_map.1 hx; exact (slr_nn k o).1).1
theorem refs_le (s : Slb) (k : Int) : s.refs k ≤ 2 * s.sl.length := by
  have := sum_leI (s.sl.map (slr k)) 2 fun x hx => by obtain ⟨o, _, rfl⟩ := List.mem_map.1 hx; exact (slr_nn k o).2
  rwa [List.length_map] at this
theorem refs_push (s : Slb) (n : SN) (k : Int) : (s.push n).refs k = s.refs k + n.side k := by
  unfold Slb.refs Slb.push; simp [slr]
theorem refs_cnt {s : Slb} {i : Nat} {x : SN} {c : Nat} (h : s.at_ ((i : Int) + 1) = some (x, c)) (y : SN) (d : Nat) (k : Int) : (s.cnt i y d).refs k = s.refs k - x.side k + y.side k := by
  obtain ⟨h1, h2⟩ := Slb.at_idx h
  unfold Slb.refs Slb.cnt
  dsimp only
  rw [List.map_set, sum_setI _ _ _ (by simpa using h2)]
  have : (s.sl.map (slr k))[i]'(by simpa using h2) = x.side k := by
    rw [List.getElem_map]
    have e : s.sl[i] = some (x, c) := (List.getElem?_eq_some_iff.1 h1).2
    rw [e]; rfl
  rw [this]; rfl
theorem refs_free {s : Slb} {i : Nat} {x : SN} {c : Nat} (h : s.at_ ((i : Int) + 1) = some (x, c)) (k : Int) : (s.free i).refs k = s.refs k - x.side k := by
  obtain ⟨h1, h2⟩ := Slb.at_idx h
  unfold Slb.refs Slb.free
  dsimp only
  rw [List.map_set, sum_setI _ _ _ (by simpa using h2)]
  have : (s.sl.map (slr k))[i]'(by simpa using h2) = x.side k := by
    rw [List.getElem_map]
    have e : s.sl[i] = some (x, c) := (List.getElem?_eq_some_iff.1 h1).2
    rw [e]; rfl
  rw [this]
  show _ + 0 = _; omega
theorem refs_of {s : Slb} {k p : Int} {x : SN} {c : Nat} (hp : s.at_ p = some (x, c)) : x.side k ≤ s.refs k := by
  obtain ⟨i, rfl, h2, h3⟩ := Slb.at_some hp
  refine (sum_nnI _ fun x hx => by obtain ⟨o, _, rfl⟩ := List.mem_map.1 hx; exact (slr_nn k o).1).2 _ (List.mem_map.2 ⟨some (x, c), List.mem_of_getElem? h3, rfl⟩)
theorem refs_pos {s : Slb} {k : Int} (h : 0 < s.refs k) : ∃ p x c, s.at_ p = some (x, c) ∧ (x.l = k ∨ x.r = k) := by
  obtain ⟨v, hv, h1⟩ := sum_posI _ h
  obtain ⟨o, ho, rfl⟩ := List.mem_map.1 hv
  cases o with
  | none => cases h1
  | some q =>
    obtain ⟨x, c⟩ := q
    obtain ⟨i, hi⟩ := List.getElem?_of_mem ho
    refine ⟨(i : Int) + 1, x, c, ?_, ?_⟩
    · unfold Slb.at_; rw [if_pos (by omega), show ((i : Int) + 1 - 1).toNat = i by omega, hi]; rfl
    have h2 : 0 < x.side k := h1
    unfold SN.side at h2
    by_cases e1 : x.l = k
    · exact .inl e1
    by_cases e2 : x.r = k
    · exact .inr e2
    rw [if_neg e1, if_neg e2] at h2; omega
structure CInv (s : Slb) (tc : Int → Int) : Prop where
  cnt : ∀ k x c, s.at_ k = some (x, c) → (c : Int) = x.hd + s.refs k + tc k
  pos : ∀ k x c, s.at_ k = some (x, c) → 0 ≤ x.hd
  tcn : ∀ k, 0 ≤ tc k
  kid : ∀ k x c, s.at_ k = some (x, c) → ∀ q, q ≠ 0 → (x.l = q ∨ x.r = q) → x.k = 2 ∧ ∃ y c', s.at_ q = some (y, c') ∧ (y.k = 2 → y.d = x.d + 1)
  dr : ∀ k x c, s.at_ k = some (x, c) → x.k = 2 → 0 ≤ x.d ∧ x.d ≤ 255
inductive Reach (s : Slb) (a : Int) : Int → Prop
  | refl : Reach s a a
  | step {p k : Int} {x : SN} {c : Nat} (h : Reach s a p) (hp : s.at_ p = some (x, c)) (hk : x.l = k ∨ x.r = k) (h0 : k ≠ 0) : Reach s a k
def SN.lev (x : SN) : Nat := if x.k = 2 then x.d.toNat else 256
theorem CInv.live {s : Slb} (hs : s.wf) (hc : CInv s fun _ => 0) : ∀ (n : Nat) (k : Int) (x : SN) (c : Nat), s.at_ k = some (x, c) → x.lev ≤ n → ∃ a y c', s.at_ a = some (y, c') ∧ 0 < y.hd ∧ Reach s a k := by
  intro n
  induction n with
  | zero =>
    intro k x c hk hl
    by_cases h0 : 0 < x.hd
    · exact ⟨k, x, c, hk, h0, .refl⟩
    exfalso
    have h1 := hc.cnt k x c hk
    have h2 := hc.pos k x c hk
    have h3 := (Slb.at_pos hs hk).1
    obtain ⟨p, y, c', hp, hs'⟩ := refs_pos (s := s) (k := k) (by omega)
    have hkn : k ≠ 0 := by have := Slb.at_lt hk; omega
    obtain ⟨e1, z, c2, hz, e2⟩ := hc.kid p y c' hp k hkn hs'
    rw [hk] at hz; injection hz with hz; injection hz with hz1 hz2; subst hz1
    unfold SN.lev at hl
    split at hl
    · rename_i h; have := e2 h; have := hc.dr p y c' hp e1; omega
    omega
  | succ n ih =>
    intro k x c hk hl
    by_cases h0 : 0 < x.hd
    · exact ⟨k, x, c, hk, h0, .refl⟩
    have h1 := hc.cnt k x c hk
    have h2 := hc.pos k x c hk
    have h3 := (Slb.at_pos hs hk).1
    obtain ⟨p, y, c', hp, hs'⟩ := refs_pos (s := s) (k := k) (by omega)
    have hkn : k ≠ 0 := by have := Slb.at_lt hk; omega
    obtain ⟨e1, z, c2, hz, e2⟩ := hc.kid p y c' hp k hkn hs'
    rw [hk] at hz; injection hz with hz; injection hz with hz1 hz2; subst hz1
    have hd := hc.dr p y c' hp e1
    obtain ⟨a, w, c3, h4, h5, h6⟩ := ih p y c' hp (by
      unfold SN.lev at hl ⊢
      rw [if_pos e1]
      split at hl
      · rename_i h; have := e2 h; omega
      omega)
    exact ⟨a, w, c3, h4, h5, .step h6 hp hs' hkn⟩
def hndL (s : Slb) : Nat → Nat → List Pr → Int → List Int
  | 0, _, l, h => if l.length = 0 then [] else [h]
  | f + 1, d, l, h => if l.length = 0 then [] else if l.length = 1 then [h] else
      h :: (hndL s f (d + 1) (halfP false d l) (s.get_ h).l ++ hndL s f (d + 1) (halfP true d l) (s.get_ h).r)
theorem hndL_len (s : Slb) : ∀ (f d : Nat) (l : List Pr) (h : Int), (hndL s f d l h).length = (treeN f d l).length
  | 0, d, l, h => by unfold hndL treeN; split <;> rfl
  | f + 1, d, l, h => by
    unfold hndL treeN
    split
    · rfl
    split
    · rfl
    rw [List.length_cons, List.length_cons, List.length_append, List.length_append, hndL_len s f, hndL_len s f]
theorem hndL_small {s : Slb} {f d : Nat} {l : List Pr} {h : Int} (hl : l.length < 2) : hndL s f d l h = if l.length = 0 then [] else [h] := by
  cases f with
  | zero => rfl
  | succ f =>
    unfold hndL
    split
    · rfl
    rw [if_pos (by omega)]
theorem treeN_small {f d : Nat} {l : List Pr} (hl : l.length < 2) : treeN f d l = if l.length = 0 then [] else [(-1, l)] := by
  cases f with
  | zero => rfl
  | succ f =>
    unfold treeN
    split
    · rfl
    rw [if_pos (by omega)]
theorem Is.big {s : Slb} {f d : Nat} {l : List Pr} {h : Int} (hl : ¬ l.length < 2) (hi : Is s (f + 1) d l h) :
    ∃ x c, s.at_ h = some (x, c) ∧ x.k = 2 ∧ x.d = (d : Int) ∧ x.sz = (l.length : Int) ∧ Is s f (d + 1) (halfP false d l) x.l ∧ Is s f (d + 1) (halfP true d l) x.r := by
  unfold Is at hi
  rw [if_neg hl] at hi
  obtain ⟨lh, rh, hd, c, h1, h2, h3⟩ := hi
  exact ⟨_, c, h1, rfl, rfl, rfl, h2, h3⟩
theorem hndL_big {s : Slb} {f d : Nat} {l : List Pr} {h : Int} (hl : ¬ l.length < 2) {x : SN} {c : Nat} (hx : s.at_ h = some (x, c)) :
    hndL s (f + 1) d l h = h :: (hndL s f (d + 1) (halfP false d l) x.l ++ hndL s f (d + 1) (halfP true d l) x.r) := by
  rw [hndL, if_neg (by omega), if_neg (by omega), (Slb.get_at hx).1]
theorem treeN_big {f d : Nat} {l : List Pr} (hl : ¬ l.length < 2) : treeN (f + 1) d l = ((d : Int), l) :: (treeN f (d + 1) (halfP false d l) ++ treeN f (d + 1) (halfP true d l)) := by
  rw [treeN, if_neg (by omega), if_neg (by omega)]
theorem halfP_sep {d : Nat} {l : List Pr} (hs : Sep d (dgs l)) (b : Bool) : Sep (d + 1) (dgs (halfP b d l)) := by rw [halfP_dgs]; exact hs.side b
theorem hndL_info {s : Slb} : ∀ (f d : Nat) (l : List Pr) (h : Int), f + d = 256 → Sep d (dgs l) → Is s f d l h → ∀ p ∈ hndL s f d l h,
    ∃ x c, s.at_ p = some (x, c) ∧ (x.k = 1 ∨ x.k = 2 ∧ (d : Int) ≤ x.d) ∧ ∃ y ∈ l, agree d x.key y.1 := by
  intro f
  induction f with
  | zero =>
    intro d l h hfd hs hi p hp
    have hl : l.length < 2 := by have := hs.deep (by omega); rwa [dgs_len] at this
    rw [hndL_small hl] at hp
    split at hp
    · cases hp
    rename_i h0
    obtain rfl := List.mem_singleton.1 hp
    obtain ⟨x, c, h1, h2⟩ := hi.info hs hfd (fun e => h0 (by rw [e]; rfl))
    obtain ⟨y, hy⟩ := List.exists_mem_of_ne_nil l (fun e => h0 (by rw [e]; rfl))
    exact ⟨x, c, h1, .inl (h2.one hl), y, hy, h2.key y hy⟩
  | succ f ih =>
    intro d l h hfd hs hi p hp
    by_cases hl : l.length < 2
    · rw [hndL_small hl] at hp
      split at hp
      · cases hp
      rename_i h0
      obtain rfl := List.mem_singleton.1 hp
      obtain ⟨x, c, h1, h2⟩ := hi.info hs hfd (fun e => h0 (by rw [e]; rfl))
      obtain ⟨y, hy⟩ := List.exists_mem_of_ne_nil l (fun e => h0 (by rw [e]; rfl))
      exact ⟨x, c, h1, .inl (h2.one hl), y, hy, h2.key y hy⟩
    obtain ⟨x, c, h1, h2, h3, h4, h5, h6⟩ := hi.big hl
    rw [hndL_big hl h1] at hp
    rcases List.mem_cons.1 hp with rfl | hp
    · obtain ⟨x', c', h1', h2'⟩ := hi.info hs hfd (fun e => hl (by rw [e]; decide))
      rw [h1] at h1'; injection h1' with h1'; injection h1' with e1 e2; subst e1
      obtain ⟨y, hy⟩ := List.exists_mem_of_ne_nil l (fun e => hl (by rw [e]; decide))
      exact ⟨x, c, h1, .inr ⟨h2, by omega⟩, y, hy, h2'.key y hy⟩
    rcases List.mem_append.1 hp with hp | hp
    · obtain ⟨z, c2, g1, g2, y, hy, g3⟩ := ih (d + 1) _ _ (by omega) (halfP_sep hs false) h5 p hp
      exact ⟨z, c2, g1, g2.imp id fun ⟨e, e2⟩ => ⟨e, by omega⟩, y, (halfP_bit y hy).2, fun t ht => g3 t (by omega)⟩
    obtain ⟨z, c2, g1, g2, y, hy, g3⟩ := ih (d + 1) _ _ (by omega) (halfP_sep hs true) h6 p hp
    exact ⟨z, c2, g1, g2.imp id fun ⟨e, e2⟩ => ⟨e, by omega⟩, y, (halfP_bit y hy).2, fun t ht => g3 t (by omega)⟩
theorem hndL_bit {s : Slb} {f d : Nat} {l : List Pr} {h : Int} (b : Bool) (hfd : f + (d + 1) = 256) (hs : Sep (d + 1) (dgs (halfP b d l))) (hi : Is s f (d + 1) (halfP b d l) h) {p : Int} (hp : p ∈ hndL s f (d + 1) (halfP b d l) h) : ∃ x c, s.at_ p = some (x, c) ∧ (x.k = 1 ∨ x.k = 2 ∧ (d : Int) + 1 ≤ x.d) ∧ bitN x.key d = b := by
  obtain ⟨x, c, h1, h2, y, hy, h3⟩ := hndL_info f (d + 1) _ _ hfd hs hi p hp
  exact ⟨x, c, h1, h2.imp id fun ⟨e, e2⟩ => ⟨e, by omega⟩, (h3 d (by omega)).trans (halfP_bit y hy).1⟩
theorem hndL_nodup {s : Slb} : ∀ (f d : Nat) (l : List Pr) (h : Int), f + d = 256 → Sep d (dgs l) → Is s f d l h → (hndL s f d l h).Nodup := by
  intro f
  induction f with
  | zero =>
    intro d l h hfd hs hi
    unfold hndL; split <;> simp
  | succ f ih =>
    intro d l h hfd hs hi
    by_cases hl : l.length < 2
    · rw [hndL_small hl]; split <;> simp
    obtain ⟨x, c, h1, h2, h3, h4, h5, h6⟩ := hi.big hl
    rw [hndL_big hl h1, List.nodup_cons, List.nodup_append]
    have sA := halfP_sep hs false
    have sB := halfP_sep hs true
    refine ⟨fun hm => ?_, ih (d + 1) _ _ (by omega) sA h5, ih (d + 1) _ _ (by omega) sB h6, fun p hp q hq e => ?_⟩
    · have : ∃ z c2, s.at_ h = some (z, c2) ∧ (z.k = 1 ∨ z.k = 2 ∧ (d : Int) + 1 ≤ z.d) := by
        rcases List.mem_append.1 hm with hm | hm
        · obtain ⟨z, c2, g1, g2, _⟩ := hndL_bit false (by omega) sA h5 hm; exact ⟨z, c2, g1, g2⟩
        obtain ⟨z, c2, g1, g2, _⟩ := hndL_bit true (by omega) sB h6 hm; exact ⟨z, c2, g1, g2⟩
      obtain ⟨z, c2, g1, g2⟩ := this
      rw [h1] at g1; injection g1 with g1; injection g1 with e1 e2; subst e1
      rcases g2 with g2 | ⟨_, g2⟩
      · rw [h2] at g2; cases g2
      omega
    subst e
    obtain ⟨z, c2, g1, _, g2⟩ := hndL_bit false (by omega) sA h5 hp
    obtain ⟨z', c3, g3, _, g4⟩ := hndL_bit true (by omega) sB h6 hq
    rw [g1] at g3; injection g3 with g3; injection g3 with e1 e2; subst e1
    rw [g2] at g4; cases g4
theorem hndL_head {s : Slb} {f d : Nat} {l : List Pr} {h : Int} (hi : Is s f d l h) (hne : h ≠ 0) : h ∈ hndL s f d l h := by
  have h0 : l.length ≠ 0 := by
    intro e
    rw [List.length_eq_zero_iff] at e
    subst e
    exact hne ((Is.small (by simp)).1 hi)
  cases f with
  | zero => unfold hndL; rw [if_neg h0]; exact List.mem_singleton.2 rfl
  | succ f =>
    unfold hndL
    rw [if_neg h0]
    split
    · exact List.mem_singleton.2 rfl
    exact List.mem_cons_self
theorem hndL_kid {s : Slb} : ∀ (f d : Nat) (l : List Pr) (h : Int), f + d = 256 → Sep d (dgs l) → Is s f d l h → ∀ p ∈ hndL s f d l h, ∀ x c, s.at_ p = some (x, c) → ∀ q, q ≠ 0 → (x.l = q ∨ x.r = q) → q ∈ hndL s f d l h := by
  have small : ∀ (f d : Nat) (l : List Pr) (h : Int), l.length < 2 → Is s f d l h → ∀ p ∈ hndL s f d l h, ∀ x c, s.at_ p = some (x, c) → ∀ q, q ≠ 0 → (x.l = q ∨ x.r = q) → q ∈ hndL s f d l h := by
    intro f d l h hl hi p hp x c hx q hq hk
    exfalso
    rw [hndL_small hl] at hp
    split at hp
    · cases hp
    rename_i h0
    obtain rfl := List.mem_singleton.1 hp
    have hb := (Is.small hl).1 hi
    match l, hl, h0, hb with
    | [y], _, _, hb =>
      obtain ⟨hd, c2, h1⟩ := hb
      rw [hx] at h1; injection h1 with h1; injection h1 with e1 e2
      rw [e1] at hk
      rcases hk with e | e
      · exact hq e.symm
      exact hq e.symm
    | [], _, h0, _ => exact h0 rfl
  intro f
  induction f with
  | zero =>
    intro d l h hfd hs hi
    exact small 0 d l h (by have := hs.deep (by omega); rwa [dgs_len] at this) hi
  | succ f ih =>
    intro d l h hfd hs hi
    by_cases hl : l.length < 2
    · exact small _ d l h hl hi
    intro p hp x c hx q hq hk
    obtain ⟨y, c2, h1, h2, h3, h4, h5, h6⟩ := hi.big hl
    rw [hndL_big hl h1] at hp ⊢
    rcases List.mem_cons.1 hp with rfl | hp
    · rw [hx] at h1; injection h1 with h1; injection h1 with e1 e2; subst e1
      refine List.mem_cons_of_mem _ (List.mem_append.2 ?_)
      rcases hk with rfl | rfl
      · exact .inl (hndL_head h5 hq)
      exact .inr (hndL_head h6 hq)
    refine List.mem_cons_of_mem _ (List.mem_append.2 ?_)
    rcases List.mem_append.1 hp with hp | hp
    · exact .inl (ih (d + 1) _ _ (by omega) (halfP_sep hs false) h5 p hp x c hx q hq hk)
    exact .inr (ih (d + 1) _ _ (by omega) (halfP_sep hs true) h6 p hp x c hx q hq hk)
theorem hndL_reach {s : Slb} {f d : Nat} {l : List Pr} {h : Int} (hfd : f + d = 256) (hs : Sep d (dgs l)) (hi : Is s f d l h) (hne : h ≠ 0) {k : Int} (hr : Reach s h k) : k ∈ hndL s f d l h := by
  induction hr with
  | refl => exact hndL_head hi hne
  | step _ hp hk h0 ih => exact hndL_kid f d l h hfd hs hi _ ih _ _ hp _ h0 hk
theorem halfP_perm (d : Nat) (l : List Pr) : (halfP false d l ++ halfP true d l).Perm l := by
  unfold halfP
  have := List.filter_append_perm (fun x : Pr => bitN x.1 d == false) l
  have e : (fun x : Pr => !(bitN x.1 d == false)) = fun x : Pr => bitN x.1 d == true := by funext x; cases bitN x.1 d <;> rfl
  rwa [e] at this
theorem IsB.inj {s : Slb} {l m : List Pr} {h : Int} (hl : l.length < 2) (hm : m.length < 2) (h1 : IsB s l h) (h2 : IsB s m h) : l = m := by
  match l, hl, m, hm with
  | [], _, [], _ => rfl
  | [], _, [y], _ =>
    exfalso
    have e : h = 0 := h1
    obtain ⟨hd, c, h3⟩ := h2
    have := (Slb.at_lt h3).1; omega
  | [x], _, [], _ =>
    exfalso
    have e : h = 0 := h2
    obtain ⟨hd, c, h3⟩ := h1
    have := (Slb.at_lt h3).1; omega
  | [x], _, [y], _ =>
    obtain ⟨hd, c, h3⟩ := h1
    obtain ⟨hd2, c2, h4⟩ := h2
    rw [h3] at h4; injection h4 with h4; injection h4 with e1 _
    have e2 : (leafN x.1 x.2 hd).key = (leafN y.1 y.2 hd2).key := by rw [e1]
    have e3 : (leafN x.1 x.2 hd).val = (leafN y.1 y.2 hd2).val := by rw [e1]
    obtain ⟨a, b⟩ := x
    obtain ⟨a', b'⟩ := y
    have e2 : a = a' := e2
    have e3 : b = b' := e3
    subst e2 e3; rfl
theorem IsB.nbig {s : Slb} {l : List Pr} {h : Int} (h1 : IsB s l h) {x : SN} {c : Nat} (hx : s.at_ h = some (x, c)) : x.k ≠ 2 := by
  have := h1.k
  rwa [(Slb.get_at hx).1] at this
theorem is_inj {s : Slb} : ∀ (f d : Nat) (l m : List Pr) (h : Int), f + d = 256 → Is s f d l h → Is s f d m h → Sep d (dgs l) → Sep d (dgs m) → l.Perm m := by
  intro f
  induction f with
  | zero =>
    intro d l m h hfd h1 h2 s1 s2
    have hl : l.length < 2 := by have := s1.deep (by omega); rwa [dgs_len] at this
    have hm : m.length < 2 := by have := s2.deep (by omega); rwa [dgs_len] at this
    rw [IsB.inj hl hm ((Is.small hl).1 h1) ((Is.small hm).1 h2)]
  | succ f ih =>
    intro d l m h hfd h1 h2 s1 s2
    by_cases hl : l.length < 2
    · by_cases hm : m.length < 2
      · rw [IsB.inj hl hm ((Is.small hl).1 h1) ((Is.small hm).1 h2)]
      exfalso
      obtain ⟨x, c, g1, g2, _⟩ := h2.big hm
      exact ((Is.small hl).1 h1).nbig g1 g2
    by_cases hm : m.length < 2
    · exfalso
      obtain ⟨x, c, g1, g2, _⟩ := h1.big hl
      exact ((Is.small hm).1 h2).nbig g1 g2
    obtain ⟨x, c, g1, _, _, _, g5, g6⟩ := h1.big hl
    obtain ⟨y, c', k1, _, _, _, k5, k6⟩ := h2.big hm
    rw [g1] at k1; injection k1 with k1; injection k1 with e1 _; subst e1
    have p1 := ih (d + 1) _ _ _ (by omega) g5 k5 (halfP_sep s1 false) (halfP_sep s2 false)
    have p2 := ih (d + 1) _ _ _ (by omega) g6 k6 (halfP_sep s1 true) (halfP_sep s2 true)
    exact (halfP_perm d l).symm.trans ((p1.append p2).trans (halfP_perm d m))
def ndAt (s : Slb) (l : List Pr) (p : Int) (n : NdT) : Prop :=
  (n.1 = -1 ∧ n.2.length = 1 ∧ IsB s n.2 p ∨ ∃ f e : Nat, f + e = 256 ∧ n.1 = (e : Int) ∧ ¬ n.2.length < 2 ∧ Is s f e n.2 p ∧ Sep e (dgs n.2)) ∧ n.2.Sublist l
theorem zip_info {s : Slb} : ∀ (f d : Nat) (l : List Pr) (h : Int), f + d = 256 → Sep d (dgs l) → Is s f d l h → ∀ p n, (p, n) ∈ (hndL s f d l h).zip (treeN f d l) → ndAt s l p n := by
  have small : ∀ (f d : Nat) (l : List Pr) (h : Int), l.length < 2 → Is s f d l h → ∀ p n, (p, n) ∈ (hndL s f d l h).zip (treeN f d l) → ndAt s l p n := by
    intro f d l h hl hi p n hp
    rw [hndL_small hl, treeN_small hl] at hp
    by_cases h0 : l.length = 0
    · rw [if_pos h0, if_pos h0] at hp; cases hp
    rw [if_neg h0, if_neg h0] at hp
    have := List.mem_singleton.1 hp
    injection this with e1 e2
    subst e1 e2
    exact ⟨.inl ⟨rfl, by show l.length = 1; omega, (Is.small hl).1 hi⟩, List.Sublist.refl _⟩
  intro f
  induction f with
  | zero =>
    intro d l h hfd hs hi
    exact small 0 d l h (by have := hs.deep (by omega); rwa [dgs_len] at this) hi
  | succ f ih =>
    intro d l h hfd hs hi
    by_cases hl : l.length < 2
    · exact small _ d l h hl hi
    intro p n hp
    obtain ⟨y, c2, h1, h2, h3, h4, h5, h6⟩ := hi.big hl
    rw [hndL_big hl h1, treeN_big hl, List.zip_cons_cons, List.zip_append (hndL_len _ _ _ _ _)] at hp
    rcases List.mem_cons.1 hp with hp | hp
    · injection hp with e1 e2
      subst e1 e2
      exact ⟨.inr ⟨f + 1, d, hfd, rfl, hl, hi, hs⟩, List.Sublist.refl _⟩
    rcases List.mem_append.1 hp with hp | hp
    · obtain ⟨g1, g2⟩ := ih (d + 1) _ _ (by omega) (halfP_sep hs false) h5 p n hp
      exact ⟨g1, g2.trans List.filter_sublist⟩
    obtain ⟨g1, g2⟩ := ih (d + 1) _ _ (by omega) (halfP_sep hs true) h6 p n hp
    exact ⟨g1, g2.trans List.filter_sublist⟩
theorem ndAt.same {s : Slb} {l m : List Pr} (hl : Ris l) (hm : Ris m) {p : Int} {x y : NdT} (h1 : ndAt s l p x) (h2 : ndAt s m p y) : x = y := by
  obtain ⟨h1, s1⟩ := h1
  obtain ⟨h2, s2⟩ := h2
  obtain ⟨dx, lx⟩ := x
  obtain ⟨dy, ly⟩ := y
  dsimp only at h1 h2 s1 s2
  have rx : Ris lx := List.Pairwise.sublist s1 hl
  have ry : Ris ly := List.Pairwise.sublist s2 hm
  rcases h1 with ⟨a1, a2, a3⟩ | ⟨f, e, a0, a1, a2, a3, a4⟩ <;> rcases h2 with ⟨b1, b2, b3⟩ | ⟨f', e', b0, b1, b2, b3, b4⟩
  · rw [a1, b1, IsB.inj (by omega) (by omega) a3 b3]
  · exfalso
    cases f' with
    | zero => have := b4.deep (by omega); rw [dgs_len] at this; exact b2 this
    | succ f' =>
      obtain ⟨z, c, g1, g2, _⟩ := b3.big b2
      exact a3.nbig g1 g2
  · exfalso
    cases f with
    | zero => have := a4.deep (by omega); rw [dgs_len] at this; exact a2 this
    | succ f =>
      obtain ⟨z, c, g1, g2, _⟩ := a3.big a2
      exact b3.nbig g1 g2
  have hf : f ≠ 0 := fun e0 => by subst e0; have := a4.deep (by omega); rw [dgs_len] at this; exact a2 this
  have hf' : f' ≠ 0 := fun e0 => by subst e0; have := b4.deep (by omega); rw [dgs_len] at this; exact b2 this
  obtain ⟨f, rfl⟩ := Nat.exists_eq_succ_of_ne_zero hf
  obtain ⟨f', rfl⟩ := Nat.exists_eq_succ_of_ne_zero hf'
  obtain ⟨z, c, g1, _, g3, _⟩ := a3.big a2
  obtain ⟨z', c', k1, _, k3, _⟩ := b3.big b2
  rw [g1] at k1; injection k1 with k1; injection k1 with e1 _; subst e1
  have e2 : e = e' := by omega
  subst e2
  have e3 : f = f' := by omega
  subst e3
  rw [a1, b1, ris_uniq _ _ rx ry (is_inj _ _ _ _ _ a0 a3 b3 a4 b4)]
theorem live_len {s : Slb} (L : List Int) (hn : L.Nodup) (h : ∀ k, (∃ x c, s.at_ k = some (x, c)) ↔ k ∈ L) : s.live = L.length := by
  have h1 : s.live = ((List.range s.sl.length).filter fun i => (s.sl.getD i none).isSome).length := by
    unfold Slb.live
    rw [← List.countP_eq_length_filter]
    have : s.sl = (List.range s.sl.length).map fun i => s.sl.getD i none := by
      apply List.ext_getElem
      · simp
      intro i h1 h2; simp [List.getD_eq_getElem?_getD, h1]
    conv => lhs; rw [this]
    rw [List.countP_map]; rfl
  rw [h1]
  have h2 : (((List.range s.sl.length).filter fun i => (s.sl.getD i none).isSome).map fun i : Nat => (i : Int) + 1).Perm L := by
    refine (List.perm_ext_iff_of_nodup ?_ hn).2 fun k => ?_
    · exact List.Pairwise.map _ (fun a b hab e => hab (by omega)) (List.Pairwise.filter _ List.nodup_range)
    rw [← h, List.mem_map]
    constructor
    · rintro ⟨i, hi, rfl⟩
      rw [List.mem_filter, List.mem_range] at hi
      obtain ⟨h3, h4⟩ := hi
      obtain ⟨p, hp⟩ := Option.isSome_iff_exists.1 h4
      refine ⟨p.1, p.2, ?_⟩
      unfold Slb.at_
      rw [if_pos (by omega), show ((i : Int) + 1 - 1).toNat = i by omega]
      rw [List.getD_eq_getElem?_getD, List.getElem?_eq_getElem h3] at hp
      rw [List.getElem?_eq_getElem h3]
      have hp : s.sl[i] = some p := hp
      rw [hp]; rfl
    rintro ⟨x, c, hk⟩
    obtain ⟨i, rfl, h3, h4⟩ := Slb.at_some hk
    refine ⟨i, ?_, rfl⟩
    rw [List.mem_filter, List.mem_range]
    refine ⟨h3, ?_⟩
    rw [List.getD_eq_getElem?_getD, h4]; rfl
  rw [← h2.length_eq, List.length_map]
theorem count_zip {A : List Int} {B : List NdT} {P : Int → Bool} {R : NdT → Bool} : A.length = B.length → (∀ p n, (p, n) ∈ A.zip B → P p = R n) → A.countP P = B.countP R := by
  induction A generalizing B with
  | nil => intro h _; cases B with | nil => rfl | cons _ _ => cases h
  | cons a A ih =>
    intro h hz
    cases B with
    | nil => cases h
    | cons b B =>
      have h0 := hz a b List.mem_cons_self
      have h1 := ih (B := B) (by simpa using h) fun p n hp => hz p n (List.mem_cons_of_mem _ hp)
      simp only [List.countP_cons, h0, h1]
theorem mem_zip_of {A : List Int} {B : List NdT} : A.length = B.length → (∀ p ∈ A, ∃ n, (p, n) ∈ A.zip B) ∧ ∀ n ∈ B, ∃ p, (p, n) ∈ A.zip B := by
  induction A generalizing B with
  | nil => intro h; cases B with | nil => exact ⟨fun p h => (by cases h), fun p h => (by cases h)⟩ | cons _ _ => cases h
  | cons a A ih =>
    intro h
    cases B with
    | nil => cases h
    | cons b B =>
      obtain ⟨h1, h2⟩ := ih (B := B) (by simpa using h)
      refine ⟨fun p hp => ?_, fun n hn => ?_⟩
      · rcases List.mem_cons.1 hp with rfl | hp
        · exact ⟨b, List.mem_cons_self⟩
        obtain ⟨n, hn⟩ := h1 p hp; exact ⟨n, List.mem_cons_of_mem _ hn⟩
      rcases List.mem_cons.1 hn with rfl | hn
      · exact ⟨a, List.mem_cons_self⟩
      obtain ⟨p, hp⟩ := h2 n hn; exact ⟨p, List.mem_cons_of_mem _ hp⟩
def Share (s : Slb) (l m : List Pr) (h k : Int) : Prop := ∀ p q n, (p, n) ∈ (hndL s 256 0 l h).zip (treeN 256 0 l) → (q, n) ∈ (hndL s 256 0 m k).zip (treeN 256 0 m) → p = q
theorem fresh_count {s : Slb} {l m : List Pr} {h k : Int} (hl : Ris l) (hm : Ris m) (s1 : Sep 0 (dgs l)) (s2 : Sep 0 (dgs m)) (h1 : Is s 256 0 l h) (h2 : Is s 256 0 m k) (hS : Share s l m h k) :
    (hndL s 256 0 m k).countP (fun q => !(hndL s 256 0 l h).contains q) = freshN (treeN 256 0 l) (treeN 256 0 m) := by
  unfold freshN
  refine count_zip (hndL_len _ _ _ _ _) fun q n hq => ?_
  congr 1
  obtain ⟨z1, z2⟩ := mem_zip_of (hndL_len s 256 0 l h)
  rw [Bool.eq_iff_iff, List.contains_iff_mem, List.contains_iff_mem]
  constructor
  · intro hm'
    obtain ⟨n', hn'⟩ := z1 q hm'
    have := (zip_info 256 0 l h rfl s1 h1 q n' hn').same hl hm (zip_info 256 0 m k rfl s2 h2 q n hq)
    subst this
    exact (List.of_mem_zip hn').2
  intro hm'
  obtain ⟨p, hp⟩ := z2 n hm'
  have := hS p q n hp hq
  subst this
  exact (List.of_mem_zip hp).1
theorem SN.side_eq {x y : SN} (h1 : y.l = x.l) (h2 : y.r = x.r) (k : Int) : y.side k = x.side k := by unfold SN.side; rw [h1, h2]
theorem CInv.upd {s : Slb} {tc tc' : Int → Int} (h : CInv s tc) {i : Nat} {x : SN} {c : Nat} (hat : s.at_ ((i : Int) + 1) = some (x, c)) (y : SN) (d : Nat) (e1 : y.l = x.l) (e2 : y.r = x.r) (e3 : y.k = x.k) (e4 : y.d = x.d) (h0 : 0 ≤ y.hd)
    (hc : (d : Int) - y.hd - tc' ((i : Int) + 1) = (c : Int) - x.hd - tc ((i : Int) + 1)) (ht : ∀ k, k ≠ (i : Int) + 1 → tc' k = tc k) (htn : ∀ k, 0 ≤ tc' k) : CInv (s.cnt i y d) tc' := by
  have hr : ∀ k, (s.cnt i y d).refs k = s.refs k := fun k => by rw [refs_cnt hat, SN.side_eq e1 e2]; omega
  have ha := Slb.at_cnt hat y d
  have get : ∀ k z c', (s.cnt i y d).at_ k = some (z, c') → ∃ z0 c0, s.at_ k = some (z0, c0) ∧ z.l = z0.l ∧ z.r = z0.r ∧ z.k = z0.k ∧ z.d = z0.d := fun k z c' hk => by
    rw [ha] at hk
    split at hk
    · rename_i e; subst e
      injection hk with hk; injection hk with q1 q2; subst q1
      exact ⟨x, c, hat, e1, e2, e3, e4⟩
    exact ⟨z, c', hk, rfl, rfl, rfl, rfl⟩
  refine ⟨fun k z c' hk => ?_, fun k z c' hk => ?_, htn, fun k z c' hk q hq hs => ?_, fun k z c' hk hz => ?_⟩
  · rw [hr]
    rw [ha] at hk
    split at hk
    · rename_i e; subst e
      injection hk with hk; injection hk with q1 q2; subst q1 q2
      have := h.cnt _ _ _ hat; omega
    rename_i e
    rw [ht k e]; exact h.cnt _ _ _ hk
  · rw [ha] at hk
    split at hk
    · injection hk with hk; injection hk with q1 q2; subst q1; exact h0
    exact h.pos _ _ _ hk
  · obtain ⟨z0, c0, g1, g2, g3, g4, g5⟩ := get k z c' hk
    obtain ⟨k1, w, c2, k2, k3⟩ := h.kid k z0 c0 g1 q hq (by rw [← g2, ← g3]; exact hs)
    refine ⟨by rw [g4]; exact k1, ?_⟩
    rw [ha]
    split
    · rename_i e; subst e
      rw [hat] at k2; injection k2 with k2; injection k2 with q1 q2; subst q1
      exact ⟨y, d, rfl, by rw [e3, e4, g5]; exact k3⟩
    exact ⟨w, c2, k2, by rw [g5]; exact k3⟩
  obtain ⟨z0, c0, g1, g2, g3, g4, g5⟩ := get k z c' hk
  rw [g5]; exact h.dr k z0 c0 g1 (by rw [← g4]; exact hz)
def tcL (todo : List Int) (k : Int) : Int := (todo.count k : Int)
theorem tcL_app (a b : List Int) (k : Int) : tcL (a ++ b) k = tcL a k + tcL b k := by unfold tcL; rw [List.count_append]; omega
theorem tcL_one (h k : Int) : tcL [h] k = if k = h then 1 else 0 := by
  unfold tcL
  by_cases e : k = h
  · subst e; simp
  rw [if_neg e]; simp [List.count_cons, Ne.symm e]
theorem tcL_if (z k : Int) (hk : k ≠ 0) : tcL (if z = 0 then [] else [z]) k = if z = k then 1 else 0 := by
  by_cases h : z = 0
  · rw [if_pos h, if_neg (fun e => hk (e.symm.trans h))]; rfl
  rw [if_neg h, tcL_one]
  by_cases e : k = z
  · rw [if_pos e, if_pos e.symm]
  rw [if_neg e, if_neg (Ne.symm e)]
theorem sidesD_side (x : SN) (k : Int) (hk : k ≠ 0) : tcL (sidesD x) k = x.side k := by
  unfold sidesD SN.side
  rw [tcL_app, tcL_if _ _ hk, tcL_if _ _ hk]; omega
theorem tcL_nn (a : List Int) (k : Int) : 0 ≤ tcL a k := by unfold tcL; omega
theorem CInv.freed {s : Slb} {td : List Int} {i : Nat} {x : SN} (h : CInv s (tcL (td ++ [(i : Int) + 1]))) (hat : s.at_ ((i : Int) + 1) = some (x, 1)) :
    x.hd = 0 ∧ CInv (s.free i) (tcL (td ++ sidesD x)) := by
  have h1 := h.cnt _ _ _ hat
  have h2 := h.pos _ _ _ hat
  have h3 := refs_nn s ((i : Int) + 1)
  rw [tcL_app, tcL_one, if_pos rfl] at h1
  have h4 := tcL_nn td ((i : Int) + 1)
  have r0 : s.refs ((i : Int) + 1) = 0 := by omega
  have t0 : tcL td ((i : Int) + 1) = 0 := by omega
  have ha := Slb.at_free hat
  have noref : ∀ k z c', s.at_ k = some (z, c') → z.l ≠ (i : Int) + 1 ∧ z.r ≠ (i : Int) + 1 := fun k z c' hk => by
    have := refs_of (k := (i : Int) + 1) hk
    rw [r0] at this
    unfold SN.side at this
    constructor
    · intro e; rw [if_pos e] at this; split at this <;> omega
    · intro e; rw [if_pos e] at this; split at this <;> omega
  have get : ∀ k z c', (s.free i).at_ k = some (z, c') → k ≠ (i : Int) + 1 ∧ s.at_ k = some (z, c') := fun k z c' hk => by
    rw [ha] at hk
    split at hk
    · cases hk
    rename_i e; exact ⟨e, hk⟩
  refine ⟨by omega, fun k z c' hk => ?_, fun k z c' hk => h.pos _ _ _ (get k z c' hk).2, fun k => tcL_nn _ _, fun k z c' hk q hq hs => ?_, fun k z c' hk hz => h.dr _ _ _ (get k z c' hk).2 hz⟩
  · obtain ⟨g1, g2⟩ := get k z c' hk
    have hk0 : k ≠ 0 := by have := (Slb.at_lt g2).1; omega
    have := h.cnt _ _ _ g2
    rw [refs_free hat, tcL_app, sidesD_side x k hk0]
    rw [tcL_app, tcL_one, if_neg g1] at this
    omega
  obtain ⟨g1, g2⟩ := get k z c' hk
  obtain ⟨k1, w, c2, k2, k3⟩ := h.kid k z c' g2 q hq hs
  refine ⟨k1, w, c2, ?_, k3⟩
  rw [ha, if_neg]
  · exact k2
  intro e; subst e
  have := noref k z c' g2
  rcases hs with e | e
  · exact this.1 e
  exact this.2 e
theorem drop_plain : ∀ (N : Nat) (s : Slb) (todo : List Int) (n : Nat), 3 * s.used + todo.length ≤ N → DInv s → CInv s (tcL todo) → (∀ k ∈ todo, ∃ x c, s.at_ k = some (x, c)) →
    ∃ t m, Drp s todo n t m ∧ DInv t ∧ CInv t (fun _ => 0) ∧ t.room = s.room ∧ (∀ k x c, t.at_ k = some (x, c) → ∃ c0, s.at_ k = some (x, c0)) ∧ (∀ k x c, s.at_ k = some (x, c) → 0 < x.hd → ∃ c', t.at_ k = some (x, c')) := by
  intro N
  induction N with
  | zero =>
    intro s todo n hN hD hC hl
    have : todo = [] := List.length_eq_zero_iff.1 (by omega)
    subst this
    exact ⟨s, n, .nil s n, hD, hC, rfl, fun k x c h => ⟨c, h⟩, fun k x c h _ => ⟨c, h⟩⟩
  | succ N ih =>
    intro s todo n hN hD hC hl
    rcases List.eq_nil_or_concat todo with rfl | ⟨td, h, rfl⟩
    · exact ⟨s, n, .nil s n, hD, hC, rfl, fun k x c h => ⟨c, h⟩, fun k x c h _ => ⟨c, h⟩⟩
    rw [List.concat_eq_append] at *
    obtain ⟨x, c, hx⟩ := hl h (List.mem_append_right _ List.mem_cons_self)
    obtain ⟨i, rfl, hi, hs⟩ := Slb.at_some hx
    have hp := Slb.at_pos hD.wf hx
    rw [List.length_append, List.length_singleton] at hN
    have hcn := hC.cnt _ _ _ hx
    have hpos := hC.pos _ _ _ hx
    have hrn := refs_nn s ((i : Int) + 1)
    rw [tcL_app, tcL_one, if_pos rfl] at hcn
    have htn := tcL_nn td ((i : Int) + 1)
    cases c with
    | zero => exact absurd hp.1 (by decide)
    | succ c =>
      by_cases hc : 0 < c
      · have hD' : DInv (s.cnt i x c) := hD.cnt hx hp.2.2 ⟨hc, by omega⟩
        have hC' : CInv (s.cnt i x c) (tcL td) := hC.upd hx x c rfl rfl rfl rfl hpos (by rw [tcL_app, tcL_one, if_pos rfl]; omega) (fun k hk => by rw [tcL_app, tcL_one, if_neg hk]; omega) (tcL_nn td)
        have ha := Slb.at_cnt hx x c
        obtain ⟨t, m, k1, k2, k3, k4, k5, k6⟩ := ih (s.cnt i x c) td n (by show 3 * s.used + td.length ≤ N; omega) hD' hC' (fun k hk => by
          obtain ⟨z, c', hz⟩ := hl k (List.mem_append_left _ hk)
          rw [ha]
          split
          · exact ⟨x, c, rfl⟩
          exact ⟨z, c', hz⟩)
        refine ⟨t, m, .dec hx hc k1, k2, k3, k4, fun k z c' hk => ?_, fun k z c' hk hh => ?_⟩
        · obtain ⟨c0, h0⟩ := k5 k z c' hk
          rw [ha] at h0
          split at h0
          · rename_i e; subst e
            injection h0 with h0; injection h0 with q1 q2; subst q1
            exact ⟨_, hx⟩
          exact ⟨c0, h0⟩
        by_cases e : k = (i : Int) + 1
        · subst e
          rw [hx] at hk; injection hk with hk; injection hk with q1 q2; subst q1
          exact k6 _ x c (by rw [ha, if_pos rfl]) hh
        exact k6 k z c' (by rw [ha, if_neg e]; exact hk) hh
      obtain rfl : c = 0 := by omega
      obtain ⟨hh0, hC'⟩ := hC.freed hx
      have hD' := hD.freed hx
      have ha := Slb.at_free hx
      have hup := hD.pos hx
      have hsd : (sidesD x).length ≤ 2 := by unfold sidesD; rw [List.length_append]; split <;> split <;> simp
      have hr0 : s.refs ((i : Int) + 1) = 0 := by omega
      have ht0 : tcL td ((i : Int) + 1) = 0 := by omega
      obtain ⟨t, m, k1, k2, k3, k4, k5, k6⟩ := ih (s.free i) (td ++ sidesD x) (n + 1) (by
        show 3 * (s.used - 1) + (td ++ sidesD x).length ≤ N
        rw [List.length_append]; omega) hD' hC' (fun k hk => by
        rcases List.mem_append.1 hk with hk | hk
        · obtain ⟨z, c', hz⟩ := hl k (List.mem_append_left _ hk)
          refine ⟨z, c', ?_⟩
          rw [ha, if_neg]
          · exact hz
          intro e; subst e
          unfold tcL at ht0
          have : 0 < td.count ((i : Int) + 1) := List.count_pos_iff.2 hk
          omega
        have hk2 : k ≠ 0 ∧ (x.l = k ∨ x.r = k) := by
          unfold sidesD at hk
          rcases List.mem_append.1 hk with hk | hk
          · split at hk
            · cases hk
            rename_i e; have := List.mem_singleton.1 hk; subst this; exact ⟨e, .inr rfl⟩
          split at hk
          · cases hk
          rename_i e; have := List.mem_singleton.1 hk; subst this; exact ⟨e, .inl rfl⟩
        obtain ⟨_, z, c', hz, _⟩ := hC.kid _ _ _ hx k hk2.1 hk2.2
        refine ⟨z, c', ?_⟩
        rw [ha, if_neg]
        · exact hz
        intro e; subst e
        have := refs_of (k := (i : Int) + 1) hx
        unfold SN.side at this
        rcases hk2.2 with e | e
        · rw [if_pos e] at this; split at this <;> omega
        · rw [if_pos e] at this; split at this <;> omega)
      refine ⟨t, m, .free hx k1, k2, k3, k4, fun k z c' hk => ?_, fun k z c' hk hh => ?_⟩
      · obtain ⟨c0, h0⟩ := k5 k z c' hk
        rw [ha] at h0
        split at h0
        · cases h0
        exact ⟨c0, h0⟩
      by_cases e : k = (i : Int) + 1
      · subst e
        rw [hx] at hk; injection hk with hk; injection hk with q1 q2; subst q1
        omega
      exact k6 k z c' (by rw [ha, if_neg e]; exact hk) hh
theorem Is.surv {s t : Slb} (hC : CInv t fun _ => 0) (hk : ∀ k x c, t.at_ k = some (x, c) → ∃ c0, s.at_ k = some (x, c0)) : ∀ {f d : Nat} {l : List Pr} {h : Int}, Is s f d l h → (h ≠ 0 → ∃ x c, t.at_ h = some (x, c)) → Is t f d l h := by
  have small : ∀ {l : List Pr} {h : Int}, IsB s l h → (h ≠ 0 → ∃ x c, t.at_ h = some (x, c)) → IsB t l h := by
    intro l h hi ha
    cases l with
    | nil => exact hi
    | cons y l =>
      obtain ⟨hd, c, h1⟩ := hi
      obtain ⟨z, c', h2⟩ := ha (by have := (Slb.at_lt h1).1; omega)
      obtain ⟨c0, h3⟩ := hk _ _ _ h2
      rw [h1] at h3; injection h3 with h3; injection h3 with q1 q2; subst q1
      exact ⟨hd, c', h2⟩
  intro f
  induction f with
  | zero => intro d l h hi ha; exact small hi ha
  | succ f ih =>
    intro d l h hi ha
    unfold Is at hi ⊢
    split
    · rename_i hl; rw [if_pos hl] at hi; exact small hi ha
    rename_i hl
    rw [if_neg hl] at hi
    obtain ⟨lh, rh, hd, c, h1, h2, h3⟩ := hi
    obtain ⟨z, c', h4⟩ := ha (by have := (Slb.at_lt h1).1; omega)
    obtain ⟨c0, h5⟩ := hk _ _ _ h4
    rw [h1] at h5; injection h5 with h5; injection h5 with q1 q2; subst q1
    refine ⟨lh, rh, hd, c', h4, ih h2 fun h0 => ?_, ih h3 fun h0 => ?_⟩
    · obtain ⟨_, w, c2, hw, _⟩ := hC.kid _ _ _ h4 lh h0 (.inl rfl); exact ⟨w, c2, hw⟩
    obtain ⟨_, w, c2, hw, _⟩ := hC.kid _ _ _ h4 rh h0 (.inr rfl); exact ⟨w, c2, hw⟩
structure Ext (s t : Slb) (δ : Int → Int) : Prop where
  d : DInv t
  c : CInv t fun _ => 0
  m : t.m = 0
  room : t.room = s.room
  le : s.sl.length ≤ t.sl.length
  old : ∀ k x c, s.at_ k = some (x, c) → ∃ c', t.at_ k = some ({ x with hd := x.hd + δ k }, c')
  new : ∀ k x c, t.at_ k = some (x, c) → s.at_ k = none → x.hd = δ k
  z : ∀ k, t.at_ k = none → δ k = 0
def one (h k : Int) : Int := if k = h ∧ h ≠ 0 then 1 else 0
theorem one_self {h : Int} (h0 : h ≠ 0) : one h h = 1 := if_pos ⟨rfl, h0⟩
theorem one_ne {h k : Int} (e : k ≠ h) : one h k = 0 := if_neg fun h => e h.1
theorem one_zero (k : Int) : one 0 k = 0 := if_neg fun h => h.2 rfl
theorem one_nn (h k : Int) : 0 ≤ one h k ∧ one h k ≤ 1 := by unfold one; split <;> omega
structure GoodS (s : Slb) : Prop where
  d : DInv s
  c : CInv s fun _ => 0
  m : s.m = 0
theorem Ext.good {s t : Slb} {δ : Int → Int} (h : Ext s t δ) : GoodS t := ⟨h.d, h.c, h.m⟩
theorem GoodS.ext {s : Slb} (h : GoodS s) : Ext s s fun _ => 0 :=
  ⟨h.d, h.c, h.m, rfl, Nat.le_refl _, fun k x c hk => ⟨c, by rw [hk]; simp⟩, fun k x c h1 h2 => (by rw [h1] at h2; cases h2), fun _ _ => rfl⟩
theorem Ext.trans {s t u : Slb} {δ ε : Int → Int} (h : Ext s t δ) (g : Ext t u ε) : Ext s u fun k => δ k + ε k := by
  refine ⟨g.d, g.c, g.m, g.room.trans h.room, Nat.le_trans h.le g.le, fun k x c hk => ?_, fun k x c hk hn => ?_, fun k hk => ?_⟩
  · obtain ⟨c1, h1⟩ := h.old k x c hk
    obtain ⟨c2, h2⟩ := g.old k _ c1 h1
    exact ⟨c2, by rw [h2]; simp only [Int.add_assoc]⟩
  · cases ht : t.at_ k with
    | none => rw [h.z k ht, g.new k x c hk ht]; omega
    | some p =>
      obtain ⟨y, c1⟩ := p
      obtain ⟨c2, h2⟩ := g.old k y c1 ht
      rw [hk] at h2; injection h2 with h2; injection h2 with q1 q2
      have := h.new k y c1 ht hn
      rw [q1]; show y.hd + ε k = _; rw [this]
  have hz := g.z k hk
  cases ht : t.at_ k with
  | none => rw [h.z k ht, hz]; rfl
  | some p =>
    exfalso
    obtain ⟨y, c1⟩ := p
    obtain ⟨c2, h2⟩ := g.old k y c1 ht
    rw [hk] at h2; cases h2
theorem Ext.congr {s t : Slb} {δ ε : Int → Int} (h : Ext s t δ) (e : ∀ k, δ k = ε k) : Ext s t ε := by
  have : δ = ε := funext e
  rwa [← this]
theorem Ext.sub {s t : Slb} {δ : Int → Int} (h : Ext s t δ) : s.Sub t := fun k x c hk => by
  obtain ⟨c', h1⟩ := h.old k x c hk
  exact ⟨_, c', h1⟩
theorem Ext.hd {s t : Slb} {δ : Int → Int} (h : Ext s t δ) {B b : Int} (hB : ∀ k x c, s.at_ k = some (x, c) → x.hd ≤ B) (hb : ∀ k, δ k ≤ b) (hB0 : 0 ≤ B) : ∀ k x c, t.at_ k = some (x, c) → x.hd ≤ B + b := fun k x c hk => by
  cases hs : s.at_ k with
  | none => have := h.new k x c hk hs; have := hb k; omega
  | some p =>
    obtain ⟨y, c1⟩ := p
    obtain ⟨c2, h2⟩ := h.old k y c1 hs
    rw [hk] at h2; injection h2 with h2; injection h2 with q1 q2
    have h3 := hB k y c1 hs
    have h4 := hb k
    rw [q1]; show y.hd + δ k ≤ _; omega
theorem GoodS.cbd {s : Slb} (h : GoodS s) {k : Int} {x : SN} {c : Nat} (hk : s.at_ k = some (x, c)) {B : Int} (hB : x.hd ≤ B) : (c : Int) ≤ B + 131072 := by
  have h1 := h.c.cnt k x c hk
  have h2 := refs_le s k
  have h3 := h.d.wf.len
  omega
theorem GoodS.hold {s : Slb} (h : GoodS s) {i : Nat} {x : SN} {c : Nat} (hat : s.at_ ((i : Int) + 1) = some (x, c)) (hb : x.hd ≤ 1000000) : Ext s (s.cnt i { x with hd := x.hd + 1 } (c + 1)) (one ((i : Int) + 1)) := by
  have hp := Slb.at_pos h.d.wf hat
  have hpos := h.c.pos _ _ _ hat
  have hcb := h.cbd hat hb
  have ha := Slb.at_cnt hat { x with hd := x.hd + 1 } (c + 1)
  have h0 : (i : Int) + 1 ≠ 0 := by omega
  refine ⟨h.d.cnt hat ⟨hp.2.2.dg, hp.2.2.key, hp.2.2.hs⟩ ⟨by omega, by omega⟩, h.c.upd hat _ _ rfl rfl rfl rfl (by show 0 ≤ x.hd + 1; omega) (by show ((c + 1 : Nat) : Int) - (x.hd + 1) - 0 = c - x.hd - 0; omega) (fun _ _ => rfl) (fun _ => Int.le_refl 0), h.m, rfl, by show s.sl.length ≤ (s.sl.set _ _).length; rw [List.length_set]; exact Nat.le_refl _, fun k z c' hk => ?_, fun k z c' hk hn => ?_, fun k hk => ?_⟩
  · rw [ha]
    by_cases e : k = (i : Int) + 1
    · subst e
      rw [hat] at hk; injection hk with hk; injection hk with q1 q2; subst q1
      exact ⟨c + 1, by rw [if_pos rfl, one_self h0]⟩
    exact ⟨c', by rw [if_neg e, one_ne e, hk]; simp⟩
  · exfalso
    rw [ha] at hk
    split at hk
    · rename_i e; subst e; rw [hat] at hn; cases hn
    rw [hk] at hn; cases hn
  rw [ha] at hk
  split at hk
  · cases hk
  rename_i e; exact one_ne e
theorem GoodS.dec {s : Slb} (h : GoodS s) {i : Nat} {x : SN} {c : Nat} (hat : s.at_ ((i : Int) + 1) = some (x, c + 1)) (hc : 0 < c) (h1 : 1 ≤ x.hd) : Ext s (s.cnt i { x with hd := x.hd - 1 } c) (fun k => - one ((i : Int) + 1) k) := by
  have hp := Slb.at_pos h.d.wf hat
  have ha := Slb.at_cnt hat { x with hd := x.hd - 1 } c
  have h0 : (i : Int) + 1 ≠ 0 := by omega
  refine ⟨h.d.cnt hat ⟨hp.2.2.dg, hp.2.2.key, hp.2.2.hs⟩ ⟨by omega, by omega⟩, h.c.upd hat _ _ rfl rfl rfl rfl (by show 0 ≤ x.hd - 1; omega) (by show (c : Int) - (x.hd - 1) - 0 = ((c + 1 : Nat) : Int) - x.hd - 0; omega) (fun _ _ => rfl) (fun _ => Int.le_refl 0), h.m, rfl, by show s.sl.length ≤ (s.sl.set _ _).length; rw [List.length_set]; exact Nat.le_refl _, fun k z c' hk => ?_, fun k z c' hk hn => ?_, fun k hk => ?_⟩
  · rw [ha]
    by_cases e : k = (i : Int) + 1
    · subst e
      rw [hat] at hk; injection hk with hk; injection hk with q1 q2; subst q1
      exact ⟨c, by rw [if_pos rfl, one_self h0]; rfl⟩
    exact ⟨c', by rw [if_neg e, one_ne e, hk]; simp⟩
  · exfalso
    rw [ha] at hk
    split at hk
    · rename_i e; subst e; rw [hat] at hn; cases hn
    rw [hk] at hn; cases hn
  rw [ha] at hk
  split at hk
  · cases hk
  rename_i e; rw [one_ne e]; rfl
theorem GoodS.refs_dead {s : Slb} (h : GoodS s) {k : Int} (hk : s.at_ k = none) (h0 : k ≠ 0) : s.refs k = 0 := by
  have h1 := refs_nn s k
  by_cases e : s.refs k = 0
  · exact e
  exfalso
  obtain ⟨p, x, c, hp, hs⟩ := refs_pos (s := s) (k := k) (by omega)
  obtain ⟨_, y, c', hy, _⟩ := h.c.kid p x c hp k h0 hs
  rw [hk] at hy; cases hy
theorem Slb.at_end (s : Slb) : s.at_ ((s.sl.length : Int) + 1) = none := by
  cases h : s.at_ ((s.sl.length : Int) + 1) with
  | none => rfl
  | some p => have := Slb.at_lt h; omega
theorem DInv.push {s : Slb} (h : DInv s) (hu : s.used < s.room) {n : SN} (hn : n.wf) (hl : s.sl.length < 65536) : DInv (s.push n) := by
  refine ⟨Slb.push_wf h.wf hn hl, ?_, ?_, h.fs, hu⟩
  · show s.used + 1 = (s.sl ++ [some (n, 1)]).countP Option.isSome
    rw [List.countP_append]; have := h.used; unfold Slb.live at this; rw [this]; rfl
  show s.used + 1 + s.m = (s.sl ++ [some (n, 1)]).length
  rw [List.length_append]; have := h.free; simp; omega
theorem GoodS.leaf {s : Slb} (h : GoodS s) (hu : s.used < s.room) (hl : s.sl.length < 65536) (k v : List UInt8) (hk : k.length = 32) : Ext s (s.push (leafN k v 1)) (one ((s.sl.length : Int) + 1)) := by
  have hn : (leafN k v 1).wf := ⟨by show (leafH k (valH v)).length = 32; exact leafH_len _ _, hk, sum_length _⟩
  have ha := Slb.at_push s (leafN k v 1)
  have he := Slb.at_end s
  have h0 : (s.sl.length : Int) + 1 ≠ 0 := by omega
  have hsd : ∀ q, q ≠ 0 → (leafN k v 1).side q = 0 := fun q hq => by
    unfold SN.side
    rw [if_neg, if_neg]
    · rfl
    · exact fun e => hq e.symm
    exact fun e => hq e.symm
  refine ⟨h.d.push hu hn hl, ⟨fun q z c hq => ?_, fun q z c hq => ?_, fun _ => Int.le_refl 0, fun q z c hq p hp hs => ?_, fun q z c hq hz => ?_⟩, h.m, rfl, by show s.sl.length ≤ (s.sl ++ [_]).length; simp, fun q z c hq => ?_, fun q z c hq hn => ?_, fun q hq => ?_⟩
  · rw [refs_push]
    rw [ha] at hq
    split at hq
    · rename_i e; subst e
      injection hq with hq; injection hq with q1 q2; subst q1 q2
      rw [h.refs_dead he h0, hsd _ h0]; rfl
    have := (Slb.at_lt hq).1
    rw [hsd q (by omega)]
    have := h.c.cnt _ _ _ hq; omega
  · rw [ha] at hq
    split at hq
    · injection hq with hq; injection hq with q1 q2; subst q1; show (0 : Int) ≤ 1; decide
    exact h.c.pos _ _ _ hq
  · rw [ha] at hq
    split at hq
    · exfalso
      injection hq with hq; injection hq with q1 q2; subst q1
      rcases hs with e | e
      · exact hp e.symm
      exact hp e.symm
    obtain ⟨k1, w, c2, k2, k3⟩ := h.c.kid _ _ _ hq p hp hs
    refine ⟨k1, w, c2, ?_, k3⟩
    rw [ha, if_neg]
    · exact k2
    intro e; subst e; rw [he] at k2; cases k2
  · rw [ha] at hq
    split at hq
    · exfalso; injection hq with hq; injection hq with q1 q2; subst q1
      have : (1 : UInt8) = 2 := hz
      cases this
    exact h.c.dr _ _ _ hq hz
  · refine ⟨c, ?_⟩
    have hne : q ≠ (s.sl.length : Int) + 1 := by intro e; subst e; rw [he] at hq; cases hq
    rw [ha, if_neg hne, one_ne hne, hq]; simp
  · rw [ha] at hq
    split at hq
    · rename_i e; subst e
      injection hq with hq; injection hq with q1 q2; subst q1
      rw [one_self h0]; rfl
    rw [hq] at hn; cases hn
  rw [ha] at hq
  split at hq
  · cases hq
  rename_i e; exact one_ne e
theorem refs_call (s : Slb) (h b k : Int) : (s.call_ h b).refs k = s.refs k := by
  cases hat : s.at_ h with
  | none => unfold Slb.call_; rw [if_neg]; unfold Slb.ok_; rw [hat]; decide
  | some p =>
    obtain ⟨x, c⟩ := p
    obtain ⟨i, rfl, _, _⟩ := Slb.at_some hat
    rw [Slb.call_cnt hat, refs_cnt hat]
    have : ({ x with hd := x.hd + b } : SN).side k = x.side k := rfl
    rw [this]; omega
theorem DInv.call {s : Slb} (hs : DInv s) (h b : Int) : DInv (s.call_ h b) := by
  cases hat : s.at_ h with
  | none => unfold Slb.call_; rw [if_neg (by unfold Slb.ok_; rw [hat]; decide)]; exact hs
  | some p =>
    obtain ⟨x, c⟩ := p
    obtain ⟨i, rfl, _, _⟩ := Slb.at_some hat
    rw [Slb.call_cnt hat]
    have hp := Slb.at_pos hs.wf hat
    exact hs.cnt hat ⟨hp.2.2.dg, hp.2.2.key, hp.2.2.hs⟩ ⟨hp.1, hp.2.1⟩
def inT (s : Slb) (n : SN) (a b : Int) : Slb := ((s.push n).call_ a (-1)).call_ b (-1)
theorem at_inT (s : Slb) (n : SN) (a b k : Int) : (inT s n a b).at_ k = ((s.push n).at_ k).map fun p => ({ p.1 with hd := p.1.hd + (if k = a then -1 else 0) + (if k = b then -1 else 0) }, p.2) := by
  unfold inT
  rw [Slb.at_call, Slb.at_call]
  cases (s.push n).at_ k with
  | none => by_cases h1 : k = a <;> by_cases h2 : k = b <;> simp [h1, h2]
  | some p =>
    by_cases h1 : k = b
    · by_cases h2 : k = a
      · simp only [if_pos h1, if_pos h2, Option.map_some]
      simp only [if_pos h1, if_neg h2, Option.map_some, Int.add_zero]
    by_cases h2 : k = a
    · simp only [if_neg h1, if_pos h2, Option.map_some, Int.add_zero]
    simp only [if_neg h1, if_neg h2, Option.map_some, Int.add_zero]
theorem GoodS.inner {s : Slb} (h : GoodS s) (hu : s.used < s.room) (hl : s.sl.length < 65536) (dd : Nat) (hdd : dd ≤ 255) (a b : Int) (n : SN) (hn : n.wf) (n1 : n.k = 2) (n2 : n.d = (dd : Int)) (n3 : n.l = a) (n4 : n.r = b) (n5 : n.hd = 1)
    (ha : a ≠ 0 → ∃ y c, s.at_ a = some (y, c) ∧ 1 ≤ y.hd ∧ (y.k = 2 → y.d = (dd : Int) + 1)) (hb : b ≠ 0 → ∃ y c, s.at_ b = some (y, c) ∧ 1 ≤ y.hd ∧ (y.k = 2 → y.d = (dd : Int) + 1)) (hab : a = b → a = 0) :
    Ext s (inT s n a b) fun k => one ((s.sl.length : Int) + 1) k - one a k - one b k := by
  have hat := at_inT s n a b
  have hpu := Slb.at_push s n
  have he := Slb.at_end s
  have hd : DInv (inT s n a b) := ((h.d.push hu hn hl).call a (-1)).call b (-1)
  have hr : ∀ k, (inT s n a b).refs k = s.refs k + n.side k := fun k => by unfold inT; rw [refs_call, refs_call, refs_push]
  have hlt : (inT s n a b).sl.length = s.sl.length + 1 ∧ (inT s n a b).m = s.m ∧ (inT s n a b).room = s.room := by
    unfold inT
    obtain ⟨d1, d2, _, d4⟩ := Slb.call_dim ((s.push n).call_ a (-1)) b (-1)
    obtain ⟨e1, e2, _, e4⟩ := Slb.call_dim (s.push n) a (-1)
    refine ⟨?_, d2.trans e2, d4.trans e4⟩
    rw [d1, e1]; show (s.sl ++ [_]).length = _; simp
  generalize inT s n a b = t at *
  have h0 : (s.sl.length : Int) + 1 ≠ 0 := by omega
  have hane : a ≠ (s.sl.length : Int) + 1 := fun e => by
    obtain ⟨y, c, hy, _⟩ := ha (by omega)
    rw [e, he] at hy; cases hy
  have hbne : b ≠ (s.sl.length : Int) + 1 := fun e => by
    obtain ⟨y, c, hy, _⟩ := hb (by omega)
    rw [e, he] at hy; cases hy
  have hnew : t.at_ ((s.sl.length : Int) + 1) = some (n, 1) := by
    rw [hat, hpu, if_pos rfl, Option.map_some, if_neg (Ne.symm hane), if_neg (Ne.symm hbne)]; simp
  have hold : ∀ k x c, s.at_ k = some (x, c) → t.at_ k = some ({ x with hd := x.hd + (if k = a then -1 else 0) + (if k = b then -1 else 0) }, c) := fun k x c hk => by
    have hne : k ≠ (s.sl.length : Int) + 1 := by intro e; subst e; rw [he] at hk; cases hk
    rw [hat, hpu, if_neg hne, hk]; rfl
  have get : ∀ k z c, t.at_ k = some (z, c) → (k = (s.sl.length : Int) + 1 ∧ z = n ∧ c = 1) ∨ ∃ x, s.at_ k = some (x, c) ∧ z = { x with hd := x.hd + (if k = a then -1 else 0) + (if k = b then -1 else 0) } := fun k z c hk => by
    by_cases e : k = (s.sl.length : Int) + 1
    · subst e
      rw [hnew] at hk; injection hk with hk; injection hk with q1 q2
      exact .inl ⟨rfl, q1.symm, q2.symm⟩
    rw [hat, hpu, if_neg e] at hk
    cases hs : s.at_ k with
    | none => rw [hs] at hk; cases hk
    | some p =>
      obtain ⟨x, c'⟩ := p
      rw [hs, Option.map_some] at hk
      injection hk with hk; injection hk with q1 q2
      subst q2
      exact .inr ⟨x, rfl, q1.symm⟩
  have hside : ∀ k, n.side k = (if a = k then 1 else 0) + (if b = k then 1 else 0) := fun k => by unfold SN.side; rw [n3, n4]
  have hdel : ∀ k x c, s.at_ k = some (x, c) → one a k = (if k = a then 1 else 0) ∧ one b k = (if k = b then 1 else 0) ∧ one ((s.sl.length : Int) + 1) k = 0 := fun k x c hk => by
    have hk0 := (Slb.at_lt hk).1
    have hne : k ≠ (s.sl.length : Int) + 1 := by intro e; subst e; rw [he] at hk; cases hk
    refine ⟨?_, ?_, one_ne hne⟩
    · by_cases e : k = a
      · rw [if_pos e, ← e]; exact one_self (by omega)
      rw [if_neg e, one_ne e]
    by_cases e : k = b
    · rw [if_pos e, ← e]; exact one_self (by omega)
    rw [if_neg e, one_ne e]
  refine ⟨hd, ⟨fun k z c hk => ?_, fun k z c hk => ?_, fun _ => Int.le_refl 0, fun k z c hk q hq hs => ?_, fun k z c hk hz => ?_⟩, hlt.2.1.trans h.m, hlt.2.2, by rw [hlt.1]; omega, fun k x c hk => ?_, fun k z c hk hn' => ?_, fun k hk => ?_⟩
  · rw [hr, hside]
    rcases get k z c hk with ⟨rfl, rfl, rfl⟩ | ⟨x, g1, rfl⟩
    · rw [h.refs_dead he h0, n5, if_neg hane, if_neg hbne]; rfl
    have := h.c.cnt _ _ _ g1
    dsimp only
    by_cases e1 : k = a <;> by_cases e2 : k = b <;> simp only [e1, e2, eq_comm, if_true, if_false, ite_true, ite_false] <;> (try subst e1) <;> (try subst e2) <;> simp_all <;> omega
  · rcases get k z c hk with ⟨rfl, rfl, rfl⟩ | ⟨x, g1, rfl⟩
    · rw [n5]; decide
    have h1 := h.c.pos _ _ _ g1
    have hk0 := (Slb.at_lt g1).1
    dsimp only
    by_cases e1 : k = a
    · obtain ⟨y, c', hy, h2, _⟩ := ha (by omega)
      rw [← e1, g1] at hy; injection hy with hy; injection hy with q1 _; subst q1
      rw [if_pos e1, if_neg (fun e2 => by have := hab (e1.symm.trans e2); omega)]; omega
    rw [if_neg e1]
    by_cases e2 : k = b
    · obtain ⟨y, c', hy, h2, _⟩ := hb (by omega)
      rw [← e2, g1] at hy; injection hy with hy; injection hy with q1 _; subst q1
      rw [if_pos e2]; omega
    rw [if_neg e2]; omega
  · rcases get k z c hk with ⟨rfl, rfl, rfl⟩ | ⟨x, g1, rfl⟩
    · refine ⟨n1, ?_⟩
      rw [n3, n4] at hs
      rcases hs with rfl | rfl
      · obtain ⟨y, c', hy, _, h3⟩ := ha hq
        exact ⟨_, c', hold _ _ _ hy, fun e => by rw [n2]; exact h3 e⟩
      obtain ⟨y, c', hy, _, h3⟩ := hb hq
      exact ⟨_, c', hold _ _ _ hy, fun e => by rw [n2]; exact h3 e⟩
    obtain ⟨k1, w, c2, k2, k3⟩ := h.c.kid _ _ _ g1 q hq hs
    exact ⟨k1, _, c2, hold _ _ _ k2, k3⟩
  · rcases get k z c hk with ⟨rfl, rfl, rfl⟩ | ⟨x, g1, rfl⟩
    · rw [n2]; omega
    have := h.c.dr _ _ _ g1 hz
    exact this
  · obtain ⟨q1, q2, q3⟩ := hdel k x c hk
    refine ⟨c, ?_⟩
    rw [hold k x c hk, q1, q2, q3]
    congr 3
    by_cases e1 : k = a <;> by_cases e2 : k = b <;> simp [e1, e2] <;> omega
  · rcases get k z c hk with ⟨rfl, rfl, rfl⟩ | ⟨x, g1, rfl⟩
    · rw [one_self h0, one_ne (Ne.symm hane), one_ne (Ne.symm hbne), n5]; rfl
    rw [g1] at hn'; cases hn'
  have hne : k ≠ (s.sl.length : Int) + 1 := fun e => by subst e; rw [hnew] at hk; cases hk
  have hsn : s.at_ k = none := by
    cases hs : s.at_ k with
    | none => rfl
    | some p => exfalso; rw [hold k p.1 p.2 hs] at hk; cases hk
  have za : one a k = 0 := by
    unfold one; rw [if_neg]; rintro ⟨rfl, e⟩
    obtain ⟨y, c', hy, _⟩ := ha e
    rw [hsn] at hy; cases hy
  have zb : one b k = 0 := by
    unfold one; rw [if_neg]; rintro ⟨rfl, e⟩
    obtain ⟨y, c', hy, _⟩ := hb e
    rw [hsn] at hy; cases hy
  rw [one_ne hne, za, zb]; rfl
abbrev bldC (s t : Slb) (d : Nat) (l : List Pr) (h : Int) : Prop := VX Tryz.prog 7 s.sx [] [] [.ptr 0 [], .sl prT (l.map prA) none, .v (.int .i64 (d : Int))] t.sx [] [] (.tup [.v (.int .i64 h), .v (.bool true)])
set_option maxRecDepth 20000 in
theorem bld_nil (s : Slb) (d : Nat) : bldC s s d [] 0 := by
  unfold bldC
  simp only [Slb.sx, List.map_nil]
  refine mE Tryz.func7 ?_; intro N w0 a w hN hR H
  refine mW ?_; clear H; intro a w H
  refine mC H (fun hb => ?_) (fun hb => ?_)
  · refine mW ?_; clear H; intro a w H
    refine wp_ret ?_; exact mEnd [0, 1, 2, 3] [] [.tmp 6, .tmp 7] [_, _] hN hR H
  exact absurd hb (by decide)
set_option maxRecDepth 20000 in
theorem bld_leaf (s : Slb) (hs : s.wf) (hm : s.m = 0) (hu : s.used < s.room) (d : Nat) (x : Pr) (hk : x.1.length = 32) (hv : x.2.length ≤ 1024) (hl : s.sl.length < 65536) : bldC s (s.push (leafN x.1 x.2 1)) d [x] ((s.sl.length : Int) + 1) := by
  have hc := stoLeaf_v s hs hm hu hl x.1 x.2 hk hv
  unfold bldC
  obtain ⟨k, v⟩ := x
  dsimp only at hk hv hc ⊢
  generalize s.push (leafN k v 1) = t at *
  simp only [Slb.sx] at hc ⊢
  simp only [List.map_cons, List.map_nil, prA]
  generalize s.sl.map slA = es at *
  generalize s.fs.map inA = fs at *
  have hg : ([.st [.ba k, .bs v none]] : List AV).getD 0 .any = .st [.ba k, .bs v none] := rfl
  refine mE Tryz.func7 ?_; intro N w0 a w hN hR H
  have hX := And.intro @hk (@hg)
  refine mW ?_; clear H; intro a w H
  refine mC H (fun hb => ?_) (fun hb => ?_)
  · exact absurd hb (by decide)
  clear hb
  refine mW ?_; clear H; intro a w H
  refine mC H (fun hb => ?_) (fun hb => ?_)
  · clear hb
    refine mS ?_
    replace H := mK [0, 1, 2, 6, 7] 4 0 hN hR H
    refine mS ?_; refine mD 0 [9] [] H ?_; clear H; intro gS H
    refine mTN 3 hN H ?_; clear H; intro a w H; simp only [drL]
    refine mTN 4 hN H ?_; clear H; intro a w H; simp only [drL]
    refine mT ?_; clear H; intro a w H
    refine mCallT [0, 1, 2, 3] [] (hc) H ?_; clear H; intro a w H
    refine mT ?_; clear H; intro a w H
    refine v_drawNil H ?_; clear H; intro H
    refine mW ?_; clear H; intro a w H
    refine wp_ret ?_; exact mEnd [0, 1, 2, 3] [] [.tmp 6, .tmp 7] [_, _] hN hR H
  simp at hb
set_option maxRecDepth 20000 in
set_option maxHeartbeats 8000000 in
theorem bld_join (s s1 s2 s3 : Slb) (d : Nat) (hd : d < 256) (l : List Pr) (hK : K32 l) (h2 : 2 ≤ l.length) (hll : l.length ≤ 100000) (a b : Int)
    (c1 : bldC s s1 (d + 1) (halfP false d l) a) (c2 : bldC s1 s2 (d + 1) (halfP true d l) b) (h : Int)
    (c3 : VX Tryz.prog 36 s2.sx [] [] [.ptr 0 [], .v (.int .i64 (d : Int)), .v (.int .i64 a), .v (.int .i64 b)] s3.sx [] [] (.tup [.v (.int .i64 h), errv 0])) : bldC s s3 d l h := by
  have hsum := halfP_sum d l
  have hfA : halfP false d (l.take l.length) = halfP false d l := by rw [List.take_length]
  have hfB : halfP true d (l.take l.length) = halfP true d l := by rw [List.take_length]
  unfold bldC at *
  rw [show ((d + 1 : Nat) : Int) = (d : Int) + 1 by omega] at c1 c2
  have hlm : (l.map prA).length = l.length := List.length_map ..
  simp only [Slb.sx] at c1 c2 c3 ⊢
  generalize s.sl.map slA = es at *
  generalize s.fs.map inA = fs at *
  have d1 : decide ((l.length : Int) = 0) = false := decide_eq_false (by omega)
  have d2 : decide ((l.length : Int) = 1) = false := decide_eq_false (by omega)
  have d3 : decide ((255 : Int) < (d : Int)) = false := decide_eq_false (by omega)
  refine mE Tryz.func7 ?_; intro N w0 a w hN hR H
  have hX := And.intro @hlm (And.intro @d1 (And.intro @d2 (@d3)))
  refine mW ?_; clear H; intro a w H
  refine mC H (fun hb => ?_) (fun hb => ?_)
  · exact absurd hb (by decide)
  clear hb
  refine mS ?_
  (try refine wp_region_lit ?_); refine mN 3 hN H ?_; clear H; intro a w H
  (try refine wp_region_lit ?_); refine mN 4 hN H ?_; clear H; intro a w H
  refine mW ?_; clear H; intro a w H
  refine mC H (fun hb => ?_) (fun hb => ?_)
  · exact absurd hb (by decide)
  clear hb
  refine mS ?_
  replace H := mK [0, 1, 2, 6, 7] 4 0 hN hR H
  refine mW ?_; clear H; intro a w H
  replace H := v_nilX tab_ok H 4 0 53 (j := ti53) prT rfl (by decide) rfl rfl
  replace H := v_nilX tab_ok H 4 1 53 (j := ti53) prT rfl (by decide) rfl rfl
  simp only [List.set_cons_succ, List.set_cons_zero, List.length_cons, List.length_nil, Nat.reduceAdd, List.cons_append, List.nil_append] at H
  refine v_loop (fun k : Nat => ⟨[(11, none, .v (.int .i64 (k : Int))), (10, none, .ptr 4 []), (7, none, .v (.bool false)), (6, none, .v (.int .i64 0)), (0, none, .ptr 0 []), (1, none, .sl prT (l.map prA) none), (2, none, .v (.int .i64 (d : Int)))], [(stoT, .st [.ptr 1 []]), (slbT, .st [.vw 2 s.γ s.sl.length, .vw 3 s.δ s.m, .v (.int .i64 (s.room : Int)), .v (.int .i64 (s.used : Int))]), (.vc 148 sltT, .vc s.γ es), (.vc 3 .sc, .vc s.δ fs), (.cn .sc (.cn .sc .nl), .st [.sl prT ((halfP false d (l.take k)).map prA) (some 0), .sl prT ((halfP true d (l.take k)).map prA) (some 1)])], [], [(53, (halfP false d (l.take k)).length), (53, (halfP true d (l.take k)).length)]⟩) (fun k => k ≤ l.length) (fun k => l.length - k) 0 (Nat.zero_le _)
    (H.to 5 2 ⟨Nat.le_trans hN (Nat.le_of_ble_eq_true rfl), Nat.le_trans hR (Nat.zero_le _)⟩ ⟨rfl, rfl, rfl, rfl, rfl, rfl, rfl, trivial⟩ rfl rfl rfl rfl rfl) ?_
  clear H
  intro k a' w hk2 H
  have hf1 : (halfP false d (l.take k)).length ≤ l.length := Nat.le_trans (halfP_le _ _ _) (List.length_take_le' _ _)
  have hf2 : (halfP true d (l.take k)).length ≤ l.length := Nat.le_trans (halfP_le _ _ _) (List.length_take_le' _ _)
  have hx1 : ((halfP false d (l.take k)).map prA).length = (halfP false d (l.take k)).length := List.length_map ..
  have hx2 : ((halfP true d (l.take k)).map prA).length = (halfP true d (l.take k)).length := List.length_map ..
  clear hX; have hX := And.intro @hlm (And.intro @hx1 (@hx2))
  refine mW ?_; clear H; intro a w H
  refine mC H (fun hb => ?_) (fun hb => ?_)
  · have hlt : k < l.length := by rw [decide_eq_true_eq] at hb; omega
    clear hb
    have g1 := prA_get l k hlt
    have w1 := hK _ (List.getElem_mem hlt)
    have hbit := bit_v l[k].1 w1 (d : Int)
    have hpb : pbit l[k].1 (d : Int) = if bitN l[k].1 d then 1 else 0 := by unfold pbit; rw [if_pos (by omega), Int.toNat_natCast]
    have y0 := halfP_yes false d l k hlt
    have y1 := halfP_yes true d l k hlt
    have n0 := halfP_no false d l k hlt
    have n1 := halfP_no true d l k hlt
    have q0 := prs_app (halfP false d (l.take k)) l[k]
    have q1 := prs_app (halfP true d (l.take k)) l[k]
    generalize l[k] = q at *
    obtain ⟨kb, vb⟩ := q
    dsimp only at g1 w1 hbit hpb y0 y1 n0 n1 q0 q1
    rw [hpb] at hbit
    revert a' w
    apply cutG7 (R := fun a w => Rel Tryz.prog w0 N Tryz.f7.ntmps ⟨[(11, none, .v (.int .i64 (k : Int))), (10, none, .ptr 4 []), (7, none, .v (.bool false)), (6, none, .v (.int .i64 0)), (0, none, .ptr 0 []), (1, none, .sl prT (l.map prA) none), (2, none, .v (.int .i64 (d : Int)))], [(stoT, .st [.ptr 1 []]), (slbT, .st [.vw 2 s.γ s.sl.length, .vw 3 s.δ s.m, .v (.int .i64 (s.room : Int)), .v (.int .i64 (s.used : Int))]), (.vc 148 sltT, .vc s.γ es), (.vc 3 .sc, .vc s.δ fs), (.cn .sc (.cn .sc .nl), .st [.sl prT ((halfP false d (l.take (k + 1))).map prA) (some 0), .sl prT ((halfP true d (l.take (k + 1))).map prA) (some 1)])], [], [(53, (halfP false d (l.take (k + 1))).length), (53, (halfP true d (l.take (k + 1))).length)]⟩ a w)
    · intro key1 a' w H
      cases hbb : bitN kb d with
      | true =>
        rw [hbb, if_pos rfl] at hbit
        have hbt : bits .and .i64 1 1 = 1 := by decide
        have e0 := n0 (by rw [hbb]; rfl)
        have e1 := y1 hbb
        have hX := And.intro hX (And.intro g1 hbt)
        refine mS ?_
        (try refine wp_region_lit ?_); refine mN 3 hN H ?_; clear H; intro a w H
        refine mW ?_; clear H; intro a w H
        refine mCall [] [] (hbit) H ?_; clear H; intro a w H; try refine wpList_nil ?_
        refine mW ?_; clear H; intro a w H
        replace H := mK [0, 1, 2, 6, 7, 10, 11, 12] 5 2 hN hR H
        have hY := w1
        repeat (first | refine wp_seq ?_ | refine wp_block ?_)
        refine v_drawZ 0 [0, 1, 4, 5, 6, 7, 2, 3, 8, 9, 10, 11] [2, 3, 8, 9, 11] [0, 1, 4, 5, 6, 7] [(2, 8), (3, 8)] (by kernel_rfl) (by kernel_rfl) (by kernel_rfl) (by kernel_rfl) (by kernel_rfl) H (by rfl) ?_; clear H; intro gS H; try replace H := ntf H
        repeat' ((first | refine wpZ_q1 rfl rfl ?_ | refine wpZ_l1 rfl rfl rfl ?_ | refine wpZ_l2 rfl rfl rfl rfl rfl ?_ ?_ | refine wpZ_l3 rfl rfl rfl rfl rfl rfl rfl ?_ ?_ ?_ | refine wpZ_l4 rfl rfl rfl rfl rfl rfl rfl rfl rfl ?_ ?_ ?_ ?_) <;> ((first | (refine v_someT 1 tab_ok hN H rfl ctX ?_; clear H; intro a w H; replace H := ntf H; simp only [drL])); refine wpT_nil ?_; try dsimp only))
        all_goals (refine wpZ_nil ?_; replace H := RelT.toRel H)
        all_goals
          refine mS ?_
          exact key1 _ _ (H.to 5 2 ⟨Nat.le_trans hN (Nat.le_of_ble_eq_true rfl), Nat.le_trans hR (Nat.zero_le _)⟩ ⟨rfl, rfl, rfl, rfl, rfl, rfl, rfl, trivial⟩ (by dsimp only; rw [e0, e1]; rw [q1]; rfl) (by rw [e0, e1]; rw [List.length_append]; rfl) rfl rfl rfl)
      | false =>
        rw [hbb, if_neg (by decide)] at hbit
        have hbt : bits .and .i64 0 1 = 0 := by decide
        have e0 := y0 hbb
        have e1 := n1 (by rw [hbb]; rfl)
        have hX := And.intro hX (And.intro g1 hbt)
        refine mS ?_
        (try refine wp_region_lit ?_); refine mN 3 hN H ?_; clear H; intro a w H
        refine mW ?_; clear H; intro a w H
        refine mCall [] [] (hbit) H ?_; clear H; intro a w H; try refine wpList_nil ?_
        refine mW ?_; clear H; intro a w H
        replace H := mK [0, 1, 2, 6, 7, 10, 11, 12] 5 2 hN hR H
        have hY := w1
        repeat (first | refine wp_seq ?_ | refine wp_block ?_)
        refine v_drawZ 0 [0, 1, 4, 5, 6, 7, 2, 3, 8, 9, 10, 11] [2, 3, 8, 9, 11] [0, 1, 4, 5, 6, 7] [(2, 8), (3, 8)] (by kernel_rfl) (by kernel_rfl) (by kernel_rfl) (by kernel_rfl) (by kernel_rfl) H (by rfl) ?_; clear H; intro gS H; try replace H := ntf H
        repeat' ((first | refine wpZ_q1 rfl rfl ?_ | refine wpZ_l1 rfl rfl rfl ?_ | refine wpZ_l2 rfl rfl rfl rfl rfl ?_ ?_ | refine wpZ_l3 rfl rfl rfl rfl rfl rfl rfl ?_ ?_ ?_ | refine wpZ_l4 rfl rfl rfl rfl rfl rfl rfl rfl rfl ?_ ?_ ?_ ?_) <;> ((first | (refine v_someT 1 tab_ok hN H rfl ctX ?_; clear H; intro a w H; replace H := ntf H; simp only [drL])); refine wpT_nil ?_; try dsimp only))
        all_goals (refine wpZ_nil ?_; replace H := RelT.toRel H)
        all_goals
          refine mS ?_
          exact key1 _ _ (H.to 5 2 ⟨Nat.le_trans hN (Nat.le_of_ble_eq_true rfl), Nat.le_trans hR (Nat.zero_le _)⟩ ⟨rfl, rfl, rfl, rfl, rfl, rfl, rfl, trivial⟩ (by dsimp only; rw [e0, e1]; rw [q0]; rfl) (by rw [e0, e1]; rw [List.length_append]; rfl) rfl rfl rfl)
    intro a' w H
    refine mW ?_; clear H; intro a w H
    rw [show (k : Int) + 1 = ((k + 1 : Nat) : Int) by omega] at H
    exact ⟨k + 1, hlt, by omega, H.to 5 2 ⟨Nat.le_trans hN (Nat.le_of_ble_eq_true rfl), Nat.le_trans hR (Nat.zero_le _)⟩ ⟨rfl, rfl, rfl, rfl, rfl, rfl, rfl, trivial⟩ rfl rfl rfl rfl rfl⟩
  have hge : k = l.length := by rw [decide_eq_false_iff_not] at hb; omega
  clear hb
  subst hge
  rw [hfA, hfB] at H
  rw [hfA] at hx1
  rw [hfB] at hx2
  clear hf1 hf2
  generalize hA : halfP false d l = A at *
  generalize hB : halfP true d l = B at *
  refine mW ?_; clear H; intro a w H
  refine mC H (fun hb => ?_) (fun hb => ?_)
  · exfalso
    rw [hx1, hx2] at hb
    have h3 : A.length = l.length ∧ B.length = l.length := by
      by_cases e1 : A.length = l.length
      · refine ⟨e1, ?_⟩
        rw [decide_eq_true (show (A.length : Int) = (l.length : Int) by omega)] at hb
        have : decide ((B.length : Int) = (l.length : Int)) = true := hb
        rw [decide_eq_true_eq] at this; omega
      rw [decide_eq_false (show ¬ (A.length : Int) = (l.length : Int) by omega)] at hb; cases hb
    omega
  clear hb
  refine mS ?_
  replace H := mK [0, 1, 2, 6, 7, 10, 11] 5 2 hN hR H
  refine mW ?_; clear H; intro a w H
  refine mCall [0, 1, 2, 3] [] (c1) H ?_; clear H; intro a w H; try refine wpList_nil ?_
  refine mW ?_; clear H; intro a w H
  refine mCall [0, 1, 2, 3] [] (c2) H ?_; clear H; intro a w H; try refine wpList_nil ?_
  refine mW ?_; clear H; intro a w H
  refine mC H (fun hb => ?_) (fun hb => ?_)
  · exact absurd hb (by decide)
  clear hb
  refine mW ?_; clear H; intro a w H
  refine mCall [0, 1, 2, 3] [] (c3) H ?_; clear H; intro a w H; try refine wpList_nil ?_
  refine mW ?_; clear H; intro a w H
  refine wp_ret ?_; exact mEnd [0, 1, 2, 3] [] [.tmp 6, .tmp 7] [_, _] hN hR H
structure SdE (s : Slb) (f d : Nat) (l : List Pr) (h : Int) : Prop where
  z : l = [] → h = 0 ∧ s.side h = SN.zero
  nz : l ≠ [] → h ≠ 0 ∧ s.ok_ h = true ∧ s.side h = s.get_ h ∧ Info s f (d + 1) l (s.get_ h)
  dig : s.dig h = rootA f (d + 1) (dgs l)
  sz : (s.side h).sz = (l.length : Int)
theorem SdE.of {u : Slb} {f d : Nat} {l : List Pr} {h : Int} (hi : Is u f (d + 1) l h) (hs : Sep (d + 1) (dgs l)) (hfd : f + (d + 1) = 256) : SdE u f d l h := by
  by_cases hne : l = []
  · have h0 : h = 0 := by subst hne; exact (Is.small (by simp)).1 hi
    subst h0
    have hsd : u.side 0 = SN.zero := by unfold Slb.side; rw [if_pos rfl]
    refine ⟨fun _ => ⟨rfl, hsd⟩, fun h => absurd hne h, ?_, by rw [hsd, hne]; rfl⟩
    unfold Slb.dig; rw [if_pos rfl, hne, rootA_small _ _ _ (by simp [dgs])]; rfl
  obtain ⟨x, c, h1, h2⟩ := hi.info hs hfd hne
  obtain ⟨g1, g2⟩ := Slb.get_at h1
  have h0 : h ≠ 0 := by have := (Slb.at_lt h1).1; omega
  have hsd : u.side h = u.get_ h := by unfold Slb.side; rw [if_neg h0]
  refine ⟨fun h => absurd h hne, fun _ => ⟨h0, g2, hsd, by rw [g1]; exact h2⟩, ?_, by rw [hsd, g1]; exact h2.sz⟩
  unfold Slb.dig; rw [if_neg h0, g1]; exact h2.dg
theorem join_ex {u : Slb} (G : GoodS u) (hB : ∀ k x c, u.at_ k = some (x, c) → x.hd ≤ 1000000) {f d : Nat} {l : List Pr} {a b : Int} (hfd : f + 1 + d = 256) (hs : Sep d (dgs l)) (h2 : 2 ≤ l.length) (hll : l.length ≤ 100000)
    (IA : Is u f (d + 1) (halfP false d l) a) (IB : Is u f (d + 1) (halfP true d l) b) (ha : a ≠ 0 → 1 ≤ (u.get_ a).hd) (hb : b ≠ 0 → 1 ≤ (u.get_ b).hd) (hu : u.used < u.room) (hl5 : u.sl.length < 65536) :
    ∃ t, Ext u t (fun k => one ((u.sl.length : Int) + 1) k - one a k - one b k) ∧ Is t (f + 1) d l ((u.sl.length : Int) + 1) ∧ t.sl.length = u.sl.length + 1 ∧ ((t.get_ ((u.sl.length : Int) + 1)).l = a ∧ (t.get_ ((u.sl.length : Int) + 1)).r = b) ∧
      VX Tryz.prog 36 u.sx [] [] [.ptr 0 [], .v (.int .i64 (d : Int)), .v (.int .i64 a), .v (.int .i64 b)] t.sx [] [] (.tup [.v (.int .i64 ((u.sl.length : Int) + 1)), errv 0]) := by
  have hsum := halfP_sum d l
  have hsA := halfP_sep hs false
  have hsB := halfP_sep hs true
  have SA := SdE.of IA hsA (by omega)
  have SB := SdE.of IB hsB (by omega)
  have hbA := fun y hy => (halfP_bit (b := false) (d := d) (l := l) y hy)
  have hbB := fun y hy => (halfP_bit (b := true) (d := d) (l := l) y hy)
  obtain ⟨A, hA⟩ : ∃ A, A = halfP false d l := ⟨_, rfl⟩
  obtain ⟨B, hBB⟩ : ∃ B, B = halfP true d l := ⟨_, rfl⟩
  rw [← hA] at IA SA hsA hbA hsum
  rw [← hBB] at IB SB hsB hbB hsum
  have hkey : ∀ y ∈ l, ∃ k, k = (if a = 0 then (u.side b).key else (u.side a).key) ∧ agree d k y.1 := by
    intro y hy
    refine ⟨_, rfl, ?_⟩
    have hky := hdK_agree hs
    by_cases hae : A = []
    · have hB0 : B ≠ [] := by intro e; rw [hae, e] at hsum; simp at hsum; omega
      obtain ⟨b1, b2, b3, b5⟩ := SB.nz hB0
      rw [if_pos (SA.z hae).1, b3]
      obtain ⟨z, hz⟩ := List.exists_mem_of_ne_nil B hB0
      intro t ht
      exact ((b5.key z hz t (by omega)).trans (hky z (hbB z hz).2 t ht).symm).trans (hky y hy t ht)
    obtain ⟨b1, b2, b3, b5⟩ := SA.nz hae
    rw [if_neg b1, b3]
    obtain ⟨z, hz⟩ := List.exists_mem_of_ne_nil A hae
    intro t ht
    exact ((b5.key z hz t (by omega)).trans (hky z (hbA z hz).2 t ht).symm).trans (hky y hy t ht)
  have hnk : fillL (if a = 0 then (u.side b).key else (u.side a).key) d false = fillL (hdK l) d false := by
    obtain ⟨x, tl, rfl⟩ : ∃ x tl, l = x :: tl := by cases l with | nil => simp at h2 | cons x tl => exact ⟨x, tl, rfl⟩
    obtain ⟨k, hk, hk2⟩ := hkey x List.mem_cons_self
    rw [← hk]; exact fill_eq hk2
  have hnew : u.newIn d a b = inN (rootA (f + 1) d (dgs l)) d (fillL (hdK l) d false) a b (l.length : Int) 1 := by
    unfold Slb.newIn
    rw [hnk, SA.dig, SB.dig, SA.sz, SB.sz]
    have er : rootA (f + 1) d (dgs l) = innerH (rootA f (d + 1) (dgs A)) (rootA f (d + 1) (dgs B)) := by
      rw [rootA, if_neg (by rw [dgs_len]; omega), hA, hBB, halfP_dgs, halfP_dgs]
    rw [er, show ((A.length : Int) + (B.length : Int)) = (l.length : Int) by omega]
  have hnwf : (u.newIn d a b).wf := by rw [hnew]; exact ⟨rootA_len _ _ _, fillL_len _ _ _, List.length_replicate⟩
  have hla : a ≠ 0 → ∃ y c, u.at_ a = some (y, c) ∧ 1 ≤ y.hd ∧ (y.k = 2 → y.d = (d : Int) + 1) ∧ bitN y.key d = false := fun h0 => by
    have hae : A ≠ [] := fun e => h0 (SA.z e).1
    obtain ⟨x, c, h1, h3⟩ := IA.info hsA (by omega) hae
    obtain ⟨y, hy⟩ := List.exists_mem_of_ne_nil A hae
    refine ⟨x, c, h1, by have := ha h0; rwa [(Slb.get_at h1).1] at this, fun e => ?_, (h3.key y hy d (by omega)).trans (hbA y hy).1⟩
    by_cases hA2 : 2 ≤ A.length
    · rw [(h3.big hA2).2]; omega
    rw [h3.one (by omega)] at e; cases e
  have hlb : b ≠ 0 → ∃ y c, u.at_ b = some (y, c) ∧ 1 ≤ y.hd ∧ (y.k = 2 → y.d = (d : Int) + 1) ∧ bitN y.key d = true := fun h0 => by
    have hbe : B ≠ [] := fun e => h0 (SB.z e).1
    obtain ⟨x, c, h1, h3⟩ := IB.info hsB (by omega) hbe
    obtain ⟨y, hy⟩ := List.exists_mem_of_ne_nil B hbe
    refine ⟨x, c, h1, by have := hb h0; rwa [(Slb.get_at h1).1] at this, fun e => ?_, (h3.key y hy d (by omega)).trans (hbB y hy).1⟩
    by_cases hB2 : 2 ≤ B.length
    · rw [(h3.big hB2).2]; omega
    rw [h3.one (by omega)] at e; cases e
  have hab : a = b → a = 0 := fun e => by
    by_cases h0 : a = 0
    · exact h0
    exfalso
    obtain ⟨y, c, g1, _, _, g2⟩ := hla h0
    obtain ⟨z, c', g3, _, _, g4⟩ := hlb (e ▸ h0)
    rw [← e, g1] at g3; injection g3 with g3; injection g3 with q1 _; subst q1
    rw [g2] at g4; cases g4
  have hE := G.inner hu hl5 d (by omega) a b (u.newIn d a b) hnwf (by rw [hnew]; rfl) (by rw [hnew]; rfl) (by rw [hnew]; rfl) (by rw [hnew]; rfl) (by rw [hnew]; rfl)
    (fun h => by obtain ⟨y, c, g1, g2, g3, _⟩ := hla h; exact ⟨y, c, g1, g2, g3⟩) (fun h => by obtain ⟨y, c, g1, g2, g3, _⟩ := hlb h; exact ⟨y, c, g1, g2, g3⟩) hab
  have hfit : fitsB d a b (u.side a) (u.side b) = true := by
    unfold fitsB
    by_cases hae : A = []
    · have hB0 : B ≠ [] := by intro e; rw [hae, e] at hsum; simp at hsum; omega
      obtain ⟨b1, b2, b3, b5⟩ := SB.nz hB0
      have hB2 : 2 ≤ B.length := by rw [hae] at hsum; simp at hsum; omega
      rw [if_neg (fun h => b1 h.2), if_pos (SA.z hae).1, b3, decide_eq_true (b5.big hB2).1]
      exact fit_side true b5 (by omega) hB0 (fun y hy => (hbB y hy).1)
    obtain ⟨a1, a2, a3, a5⟩ := SA.nz hae
    by_cases hbe : B = []
    · have hA2 : 2 ≤ A.length := by rw [hbe] at hsum; simp at hsum; omega
      rw [if_neg (fun h => a1 h.1), if_neg a1, if_pos (SB.z hbe).1, a3, decide_eq_true (a5.big hA2).1]
      exact fit_side false a5 (by omega) hae (fun y hy => (hbA y hy).1)
    obtain ⟨b1, b2, b3, b5⟩ := SB.nz hbe
    have f1 := fit_side false a5 (by omega) hae (fun y hy => (hbA y hy).1)
    have f2 := fit_side true b5 (by omega) hbe (fun y hy => (hbB y hy).1)
    rw [if_neg (fun h => a1 h.1), if_neg a1, if_neg b1, a3, b3]
    obtain ⟨y, hy⟩ := List.exists_mem_of_ne_nil A hae
    obtain ⟨z, hz⟩ := List.exists_mem_of_ne_nil B hbe
    have hc : d ≤ com (u.get_ a).key (u.get_ b).key := by
      refine (com_ge (by omega)).2 fun t ht => ?_
      have e1 := a5.key y hy t (by omega)
      have e2 := b5.key z hz t (by omega)
      have e3 := hdK_agree hs y (hbA y hy).2 t ht
      have e4 := hdK_agree hs z (hbB z hz).2 t ht
      exact (e1.trans e3.symm).trans (e2.trans e4.symm).symm
    simp only [Bool.false_eq_true, if_false, if_true] at f1 f2
    rw [f1, f2, decide_eq_true (show (d : Int) ≤ (com (u.get_ a).key (u.get_ b).key : Int) by omega)]; rfl
  have w1 := Slb.push_wf G.d.wf hnwf hl5
  have w2 := Slb.call_wf w1 a (-1)
  have hbdp : ∀ k, 0 ≤ ((u.push (u.newIn d a b)).get_ k).hd ∧ ((u.push (u.newIn d a b)).get_ k).hd ≤ 1000000 := fun k => by
    unfold Slb.get_
    rw [Slb.at_push]
    by_cases e : k = (u.sl.length : Int) + 1
    · rw [if_pos e, hnew]; exact ⟨show (0 : Int) ≤ 1 by decide, show (1 : Int) ≤ 1000000 by decide⟩
    rw [if_neg e]
    cases hk : u.at_ k with
    | none => exact ⟨show (0 : Int) ≤ 0 by decide, show (0 : Int) ≤ 1000000 by decide⟩
    | some p => exact ⟨G.c.pos k p.1 p.2 hk, hB k p.1 p.2 hk⟩
  have hbd2 : -10 ≤ (((u.push (u.newIn d a b)).call_ a (-1)).get_ b).hd ∧ (((u.push (u.newIn d a b)).call_ a (-1)).get_ b).hd ≤ 1000000 := by
    cases hk : (u.push (u.newIn d a b)).at_ b with
    | none =>
      have e : ((u.push (u.newIn d a b)).call_ a (-1)).at_ b = none := by rw [Slb.at_call, hk]; split <;> rfl
      have e2 : ((u.push (u.newIn d a b)).call_ a (-1)).get_ b = SN.zero := by unfold Slb.get_; rw [e]
      rw [e2]; exact ⟨show (-10 : Int) ≤ 0 by decide, show (0 : Int) ≤ 1000000 by decide⟩
    | some p =>
      obtain ⟨x, c⟩ := p
      have h1 := hbdp b
      rw [(Slb.get_at hk).1] at h1
      have e : ∃ y, ((u.push (u.newIn d a b)).call_ a (-1)).at_ b = some (y, c) ∧ x.hd - 1 ≤ y.hd ∧ y.hd ≤ x.hd := by
        rw [Slb.at_call, hk]
        split
        · exact ⟨_, rfl, by show x.hd - 1 ≤ x.hd + -1; omega, by show x.hd + -1 ≤ x.hd; omega⟩
        exact ⟨x, rfl, by omega, by omega⟩
      obtain ⟨y, e, e2, e3⟩ := e
      rw [(Slb.get_at e).1]; omega
  have hba := hbdp a
  have c1 := stoCallers_v (u.push (u.newIn d a b)) w1 a (-1) ⟨by omega, by omega⟩
  have c2 := stoCallers_v ((u.push (u.newIn d a b)).call_ a (-1)) w2 b (-1) ⟨by omega, by omega⟩
  have hn1 : (inT u (u.newIn d a b) a b).at_ ((u.sl.length : Int) + 1) = some (u.newIn d a b, 1) := by
    have hea := Slb.at_end u
    rw [at_inT, Slb.at_push, if_pos rfl, Option.map_some]
    have na : ((u.sl.length : Int) + 1) ≠ a := fun e => by
      obtain ⟨y, c, g1, _⟩ := hla (by omega)
      rw [← e, hea] at g1; cases g1
    have nb : ((u.sl.length : Int) + 1) ≠ b := fun e => by
      obtain ⟨y, c, g1, _⟩ := hlb (by omega)
      rw [← e, hea] at g1; cases g1
    rw [if_neg na, if_neg nb]; simp
  refine ⟨inT u (u.newIn d a b) a b, hE, ?_, ?_, ⟨by rw [(Slb.get_at hn1).1, hnew]; rfl, by rw [(Slb.get_at hn1).1, hnew]; rfl⟩, ?_⟩
  · unfold Is
    rw [if_neg (by omega)]
    refine ⟨a, b, 1, 1, by rw [hn1, hnew], ?_, ?_⟩
    · rw [← hA]; exact IA.mono hE.sub
    rw [← hBB]; exact IB.mono hE.sub
  · unfold inT
    obtain ⟨d1, _⟩ := Slb.call_dim ((u.push (u.newIn d a b)).call_ a (-1)) b (-1)
    obtain ⟨e1, _⟩ := Slb.call_dim (u.push (u.newIn d a b)) a (-1)
    rw [d1, e1]; show (u.sl ++ [_]).length = _; simp
  exact stoInner_v u G.d.wf d (by omega) a b (fun h => by obtain ⟨y, c, g1, g2, _⟩ := hla h; exact ⟨(Slb.get_at g1).2, by rw [(Slb.get_at g1).1]; omega⟩) (fun h => by obtain ⟨y, c, g1, g2, _⟩ := hlb h; exact ⟨(Slb.get_at g1).2, by rw [(Slb.get_at g1).1]; omega⟩) hfit G.m hu hl5 ⟨by rw [SA.sz]; omega, by rw [SA.sz]; omega, by rw [SB.sz]; omega, by rw [SB.sz]; omega⟩ _ c1 c2
structure TodoV (todo : List Int) (es : List AV) : Prop where
  len : todo.length ≤ es.length
  eq : es.take todo.length = todo.map inA
theorem TodoV.last {td : List Int} {h : Int} {es : List AV} (hv : TodoV (td ++ [h]) es) : es.getD td.length .any = inA h ∧ TodoV td es := by
  obtain ⟨h1, h2⟩ := hv
  rw [List.length_append, List.length_singleton] at h1 h2
  constructor
  · have := congrArg (fun l => l[td.length]?) h2
    simp only [List.getElem?_take, Nat.lt_succ_self, if_true, List.map_append, List.map_cons, List.map_nil] at this
    rw [List.getElem?_append_right (by simp)] at this
    simp at this
    rw [List.getD_eq_getElem?_getD, this]; rfl
  refine ⟨by omega, ?_⟩
  have := congrArg (List.take td.length) h2
  rw [List.take_take, Nat.min_eq_left (by omega)] at this
  rw [this, List.map_append]
  exact List.take_left' (by simp)
theorem TodoV.app {td : List Int} {h : Int} {es : List AV} (hv : TodoV td es) : TodoV (td ++ [h]) (es.take td.length ++ [.v (.int .i64 h)]) := by
  obtain ⟨h1, h2⟩ := hv
  refine ⟨by simp; omega, ?_⟩
  rw [List.length_append, List.length_singleton, List.take_of_length_le (by rw [List.length_append, List.length_take, List.length_singleton]; omega), h2, List.map_append]; rfl
def sdT (y : SN) : Nat → List Int
  | 0 => []
  | 1 => if y.r = 0 then [] else [y.r]
  | _ => sidesD y
theorem sdT_len (y : SN) (j : Nat) : (sdT y j).length ≤ 2 := by
  unfold sdT sidesD
  split
  · simp
  · split <;> simp
  · rw [List.length_append]; split <;> split <;> simp
set_option maxRecDepth 20000 in
set_option maxHeartbeats 8000000 in
theorem stoDrop_v (s : Slb) (hI : DInv s) (i : Nat) (x : SN) (c : Nat) (hat : s.at_ ((i : Int) + 1) = some (x, c)) (hh : x.hd ≠ 0) (hb9 : 0 ≤ x.hd ∧ x.hd ≤ 1000000000) (t : Slb) (m : Nat) (hD : Drp (s.call_ ((i : Int) + 1) (-1)) [(i : Int) + 1] 0 t m) :
    VX Tryz.prog 61 s.sx [] [] [.ptr 0 [], .v (.int .i64 ((i : Int) + 1))] t.sx [] [] (.tup [.v (.int .i64 (m : Int)), errv 0]) := by
  have hn := stoNone_v s.γ s.δ s.sl.length s.m s.room s.used (s.sl.map slA) (s.fs.map inA)
  have hg := stoGet_v s hI.wf ((i : Int) + 1)
  have hgx : s.get_ ((i : Int) + 1) = x := by unfold Slb.get_; rw [hat]
  have hok : s.ok_ ((i : Int) + 1) = true := by unfold Slb.ok_; rw [hat]; rfl
  have hC := stoCallers_v s hI.wf ((i : Int) + 1) (-1) (by rw [hgx]; omega)
  have hp := Slb.at_pos hI.wf hat
  have hI2 : DInv (s.call_ ((i : Int) + 1) (-1)) := by
    rw [Slb.call_cnt hat]
    exact hI.cnt hat ⟨hp.2.2.dg, hp.2.2.key, hp.2.2.hs⟩ ⟨hp.1, hp.2.1⟩
  rw [hgx, hok] at hg
  obtain ⟨x1, x2, x3⟩ := hp.2.2
  generalize s.call_ ((i : Int) + 1) (-1) = s2 at *
  have d1 : decide (x.hd = 0) = false := decide_eq_false hh
  simp only [Slb.sx, SN.av] at hg hC ⊢
  refine mE Tryz.func61 ?_; intro N w0 a w hN hR H
  have hX := And.intro @x1 (And.intro @x2 (And.intro @x3 (@d1)))
  refine mW ?_; clear H; intro a w H
  refine mCall [0, 1, 2, 3] [] (hn) H ?_; clear H; intro a w H; try refine wpList_nil ?_
  refine mW ?_; clear H; intro a w H
  refine mC H (fun hb => ?_) (fun hb => ?_)
  · exact absurd hb (by decide)
  clear hb
  refine mW ?_; clear H; intro a w H
  refine mCall [0, 1, 2, 3] [] (hg) H ?_; clear H; intro a w H; try refine wpList_nil ?_
  refine mW ?_; clear H; intro a w H
  refine mC H (fun hb => ?_) (fun hb => ?_)
  · exact absurd hb (by decide)
  clear hb
  refine mW ?_; clear H; intro a w H
  refine mCall [0, 1, 2, 3] [] (hC) H ?_; clear H; intro a w H; try refine wpList_nil ?_
  (try refine wpList_nil ?_)
  refine mS ?_
  (try refine wp_region_lit ?_); refine mN 1 hN H ?_; clear H; intro a w H
  (try refine wpList_nil ?_)
  refine mS ?_
  replace H := mK [0, 1, 4, 5, 8] 4 0 hN hR H
  (try refine wp_region_lit ?_); refine mN 1 hN H ?_; clear H; intro a w H
  refine v_bsV (i := ti92) (j := ti3) (n := 1) (ps := [(0, .tmp 35)]) tab_ok rfl rfl rfl (by decide) (by decide) H rfl ⟨by trivial, trivial⟩ (by decide) ?_
  clear H; intro a w H; replace H := nf H
  replace H := nf H
  refine mW ?_; clear H; intro a w H
  clear hg hC hn hI hok hgx hp hat hb9 d1 x1 x2 x3 hh
  refine v_loop (fun σ : Slb × Nat × List AV × List Int × Nat => ⟨[(8, none, .v (.int .i64 (σ.2.2.2.2 : Int))), (9, none, .vw 4 σ.2.1 σ.2.2.2.1.length), (4, none, .v (.int .i64 0)), (5, none, .v (.int .i64 0)), (0, none, .ptr 0 [])],
    [(stoT, .st [.ptr 1 []]), (slbT, .st [.vw 2 σ.1.γ σ.1.sl.length, .vw 3 σ.1.δ σ.1.m, .v (.int .i64 (σ.1.room : Int)), .v (.int .i64 (σ.1.used : Int))]), (.vc 148 sltT, .vc σ.1.γ (σ.1.sl.map slA)), (.vc 3 .sc, .vc σ.1.δ (σ.1.fs.map inA)), (.vc 3 .sc, .vc σ.2.1 σ.2.2.1)], [], []⟩)
    (fun σ => DInv σ.1 ∧ TodoV σ.2.2.2.1 σ.2.2.1 ∧ Drp σ.1 σ.2.2.2.1 σ.2.2.2.2 t m ∧ 3 * σ.1.used + σ.2.2.2.1.length ≤ 300000 ∧ σ.2.2.2.2 + σ.1.used ≤ 100000) (fun σ => 3 * σ.1.used + σ.2.2.2.1.length) (s2, 0, [.v (.int .i64 ((i : Int) + 1))], [(i : Int) + 1], 0)
    ⟨hI2, ⟨Nat.le_refl _, rfl⟩, hD, by have h1 := hI2.room; have h2 := hI2.wf.room.2; simp only [List.length_singleton]; omega, by have h1 := hI2.room; have h2 := hI2.wf.room.2; dsimp only; omega⟩
    (H.to 5 0 ⟨Nat.le_trans hN (Nat.le_of_ble_eq_true rfl), hR⟩ ⟨rfl, rfl, rfl, rfl, rfl, trivial⟩ rfl rfl rfl rfl rfl) ?_
  clear H hD hI2
  rintro ⟨q, γ, es, todo, n⟩ a w ⟨hI, hv, hD, hbd, hbn⟩ H
  dsimp only at hI hv hD hbd hbn H
  have hvl := hv.len
  clear hX
  refine mW ?_; clear H; intro a w H
  refine mC H (fun hb => ?_) (fun hb => ?_)
  · have hne : todo ≠ [] := by
      intro e; rw [e] at hb; simp at hb
    clear hb
    rcases hD.inv with ⟨h1, _⟩ | ⟨td, k, c2, y, rfl, hat, hc, hD2⟩ | ⟨td, k, y, rfl, hat, hD2⟩
    · exact absurd h1 hne
    · clear hD hne
      obtain ⟨g1, hv2⟩ := hv.last
      have htl : (td ++ [(k : Int) + 1]).length = td.length + 1 := by simp
      rw [htl] at H hvl hbd
      have e1 : (((td.length + 1 : Nat) : Int) - 1).toNat = td.length := by omega
      have hgy : q.get_ ((k : Int) + 1) = y := by unfold Slb.get_; rw [hat]
      have hoy : q.ok_ ((k : Int) + 1) = true := by unfold Slb.ok_; rw [hat]; rfl
      have hg := stoGet_v q hI.wf ((k : Int) + 1)
      rw [hgy, hoy] at hg
      obtain ⟨y0, y4, y1, y2, y3⟩ := Slb.at_pos hI.wf hat
      have hd := slbDrop1_v q hI.wf k y c2 hat hc
      have hI3 : DInv (q.cnt k y c2) := hI.cnt hat ⟨y1, y2, y3⟩ ⟨hc, by omega⟩
      have hu3 : (q.cnt k y c2).used = q.used := rfl
      have hgi : inA ((k : Int) + 1) = .v (.int .i64 ((k : Int) + 1)) := rfl
      rw [hgi] at g1
      generalize q.cnt k y c2 = q2 at *
      simp only [Slb.sx, SN.av] at hg
      simp only [Slb.bx] at hd
      generalize hes : es = es2 at *
      refine mS ?_
      have hX := And.intro @e1 (And.intro @g1 (And.intro @y1 (And.intro @y2 (@y3))))
      (try refine wp_region_lit ?_); refine mN 5 hN H ?_; clear H; intro a w H
      (try refine wp_region_lit ?_); refine mN 1 hN H ?_; clear H; intro a w H
      (try refine wp_region_lit ?_); refine mN 1 hN H ?_; clear H; intro a w H
      (try refine wpList_nil ?_)
      refine mS ?_
      (try refine wp_region_lit ?_); refine mN 6 hN H ?_; clear H; intro a w H
      (try refine wpList_nil ?_)
      refine mW ?_; clear H; intro a w H
      refine mCall [0, 1, 2, 3] [] (hg) H ?_; clear H; intro a w H; try refine wpList_nil ?_
      refine mW ?_; clear H; intro a w H
      refine mCall [1, 2, 3] [] (hd) H ?_; clear H; intro a w H; try refine wpList_nil ?_
      refine mW ?_; clear H; intro a w H
      refine mC H (fun hb => ?_) (fun hb => ?_)
      · clear hb
        refine mW ?_; clear H; intro a w H
        exact ⟨(q2, γ, es2, td, n), ⟨hI3, hv2, hD2, by dsimp only; rw [hu3]; omega, by dsimp only; rw [hu3]; omega⟩, by dsimp only; rw [hu3, htl]; omega, H.to 5 0 ⟨Nat.le_trans hN (Nat.le_of_ble_eq_true rfl), hR⟩ ⟨rfl, rfl, rfl, rfl, rfl, trivial⟩ rfl rfl rfl rfl rfl⟩
      exact absurd hb (by decide)
    clear hD hne
    obtain ⟨g1, hv2⟩ := hv.last
    have htl : (td ++ [(k : Int) + 1]).length = td.length + 1 := by simp
    rw [htl] at H hvl hbd
    have e1 : (((td.length + 1 : Nat) : Int) - 1).toNat = td.length := by omega
    have hgy : q.get_ ((k : Int) + 1) = y := by unfold Slb.get_; rw [hat]
    have hoy : q.ok_ ((k : Int) + 1) = true := by unfold Slb.ok_; rw [hat]; rfl
    have hg := stoGet_v q hI.wf ((k : Int) + 1)
    rw [hgy, hoy] at hg
    obtain ⟨y0, y4, y1, y2, y3⟩ := Slb.at_pos hI.wf hat
    have hup := hI.pos hat
    have hfr := hI.free
    have hrm := hI.room
    have hrw := hI.wf.room.2
    have hln := hI.wf.len
    have hd := slbFree_v q hI.wf k y hat hI.fs (by omega) hup hrm
    have hI3 : DInv (q.free k) := hI.freed hat
    have hu3 : (q.free k).used + 1 = q.used := by show q.used - 1 + 1 = _; omega
    have hgi : inA ((k : Int) + 1) = .v (.int .i64 ((k : Int) + 1)) := rfl
    rw [hgi] at g1
    generalize q.free k = q2 at *
    simp only [Slb.sx, SN.av] at hg
    simp only [Slb.bx] at hd
    generalize hes : es = es2 at *
    refine mS ?_
    have hX := And.intro @e1 (And.intro @g1 (And.intro @y1 (And.intro @y2 (@y3))))
    (try refine wp_region_lit ?_); refine mN 5 hN H ?_; clear H; intro a w H
    (try refine wp_region_lit ?_); refine mN 1 hN H ?_; clear H; intro a w H
    (try refine wp_region_lit ?_); refine mN 1 hN H ?_; clear H; intro a w H
    (try refine wpList_nil ?_)
    refine mS ?_
    (try refine wp_region_lit ?_); refine mN 6 hN H ?_; clear H; intro a w H
    (try refine wpList_nil ?_)
    refine mW ?_; clear H; intro a w H
    refine mCall [0, 1, 2, 3] [] (hg) H ?_; clear H; intro a w H; try refine wpList_nil ?_
    refine mW ?_; clear H; intro a w H
    refine mCall [1, 2, 3] [] (hd) H ?_; clear H; intro a w H; try refine wpList_nil ?_
    refine mW ?_; clear H; intro a w H
    refine mC H (fun hb => ?_) (fun hb => ?_)
    · exact absurd hb (by decide)
    clear hb hd hg hat g1
    clear hX; have hX := And.intro @y1 (And.intro @y2 (@y3))
    refine mW ?_; clear H; intro a w H
    refine v_loop (fun ρ : Nat × Nat × List AV × List Int => ⟨[(75, none, .v (.int .i64 (ρ.1 : Int))), (74, none, .st [.v (.int .i64 y.r), .v (.int .i64 y.l)]), (8, none, .v (.int .i64 ((n : Int) + 1))), (9, none, .vw 4 ρ.2.1 ρ.2.2.2.length), (4, none, .v (.int .i64 0)), (5, none, .v (.int .i64 0)), (0, none, .ptr 0 [])],
      [(stoT, .st [.ptr 1 []]), (slbT, .st [.vw 2 q2.γ q2.sl.length, .vw 3 q2.δ q2.m, .v (.int .i64 (q2.room : Int)), .v (.int .i64 (q2.used : Int))]), (.vc 148 sltT, .vc q2.γ (q2.sl.map slA)), (.vc 3 .sc, .vc q2.δ (q2.fs.map inA)), (.vc 3 .sc, .vc ρ.2.1 ρ.2.2.1)], [], []⟩)
      (fun ρ => ρ.1 ≤ 2 ∧ TodoV ρ.2.2.2 ρ.2.2.1 ∧ ρ.2.2.2 = td ++ sdT y ρ.1) (fun ρ => 2 - ρ.1) (0, γ, es2, td) ⟨Nat.zero_le _, hv2, by simp [sdT]⟩
      (H.to 5 0 ⟨Nat.le_trans hN (Nat.le_of_ble_eq_true rfl), hR⟩ ⟨rfl, rfl, rfl, rfl, rfl, rfl, rfl, trivial⟩ rfl rfl rfl rfl rfl) ?_
    clear H
    rintro ⟨j, γ2, es3, td2⟩ a w ⟨hj, hv3, htd⟩ H
    dsimp only at hj hv3 htd H
    have hl3 := hv3.len
    have htl2 : td2.length ≤ td.length + 2 := by rw [htd, List.length_append]; have := sdT_len y j; omega
    clear hX
    refine mW ?_; clear H; intro a w H
    refine mC H (fun hb => ?_) (fun hb => ?_)
    · have hlt : j < 2 := by
        have : decide ((j : Int) < 2) = true := hb
        rw [decide_eq_true_eq] at this; omega
      clear hb
      rcases (show j = 0 ∨ j = 1 by omega) with rfl | rfl
      · have hz2 : sdT y (0 + 1) = sdT y 0 ++ (if y.r = 0 then [] else [y.r]) := by simp [sdT, sidesD]
        by_cases h0 : y.r = 0
        · have dz : decide (y.r = 0) = true := decide_eq_true h0
          rw [if_pos h0, List.append_nil] at hz2
          refine mS ?_
          have hX := @dz
          (try refine wp_region_lit ?_); refine mN 2 hN H ?_; clear H; intro a w H
          refine mW ?_; clear H; intro a w H
          refine mC H (fun hb => ?_) (fun hb => ?_)
          · simp at hb
          clear hb
          refine mW ?_; clear H; intro a w H
          rw [show ((0 : Nat) : Int) + 1 = ((0 + 1 : Nat) : Int) by omega] at H
          exact ⟨(0 + 1, γ2, es3, td2), ⟨hlt, hv3, by rw [hz2]; exact htd⟩, by dsimp only; omega, H.to 5 0 ⟨Nat.le_trans hN (Nat.le_of_ble_eq_true rfl), hR⟩ ⟨rfl, rfl, rfl, rfl, rfl, rfl, rfl, trivial⟩ rfl rfl rfl rfl rfl⟩
        have dz : decide (y.r = 0) = false := decide_eq_false h0
        rw [if_neg h0] at hz2
        refine mS ?_
        have hX := @dz
        (try refine wp_region_lit ?_); refine mN 2 hN H ?_; clear H; intro a w H
        refine mW ?_; clear H; intro a w H
        refine mC H (fun hb => ?_) (fun hb => ?_)
        · clear hb
          refine mW ?_; clear H; intro a w H
          rw [show ((0 : Nat) : Int) + 1 = ((0 + 1 : Nat) : Int) by omega] at H
          exact ⟨(0 + 1, γ2 + 1, es3.take td2.length ++ [.v (.int .i64 y.r)], td2 ++ [y.r]), ⟨hlt, hv3.app, by dsimp only; rw [hz2, htd, List.append_assoc]⟩, by dsimp only; omega, H.to 5 0 ⟨Nat.le_trans hN (Nat.le_of_ble_eq_true rfl), hR⟩ ⟨rfl, rfl, rfl, by dsimp only; rw [List.length_append]; rfl, rfl, rfl, rfl, trivial⟩ rfl rfl rfl rfl rfl⟩
        simp at hb
      have hz2 : sdT y (1 + 1) = sdT y 1 ++ (if y.l = 0 then [] else [y.l]) := by simp [sdT, sidesD]
      by_cases h0 : y.l = 0
      · have dz : decide (y.l = 0) = true := decide_eq_true h0
        rw [if_pos h0, List.append_nil] at hz2
        refine mS ?_
        have hX := @dz
        (try refine wp_region_lit ?_); refine mN 2 hN H ?_; clear H; intro a w H
        refine mW ?_; clear H; intro a w H
        refine mC H (fun hb => ?_) (fun hb => ?_)
        · simp at hb
        clear hb
        refine mW ?_; clear H; intro a w H
        rw [show ((1 : Nat) : Int) + 1 = ((1 + 1 : Nat) : Int) by omega] at H
        exact ⟨(1 + 1, γ2, es3, td2), ⟨hlt, hv3, by rw [hz2]; exact htd⟩, by dsimp only; omega, H.to 5 0 ⟨Nat.le_trans hN (Nat.le_of_ble_eq_true rfl), hR⟩ ⟨rfl, rfl, rfl, rfl, rfl, rfl, rfl, trivial⟩ rfl rfl rfl rfl rfl⟩
      have dz : decide (y.l = 0) = false := decide_eq_false h0
      rw [if_neg h0] at hz2
      refine mS ?_
      have hX := @dz
      (try refine wp_region_lit ?_); refine mN 2 hN H ?_; clear H; intro a w H
      refine mW ?_; clear H; intro a w H
      refine mC H (fun hb => ?_) (fun hb => ?_)
      · clear hb
        refine mW ?_; clear H; intro a w H
        rw [show ((1 : Nat) : Int) + 1 = ((1 + 1 : Nat) : Int) by omega] at H
        exact ⟨(1 + 1, γ2 + 1, es3.take td2.length ++ [.v (.int .i64 y.l)], td2 ++ [y.l]), ⟨hlt, hv3.app, by dsimp only; rw [hz2, htd, List.append_assoc]⟩, by dsimp only; omega, H.to 5 0 ⟨Nat.le_trans hN (Nat.le_of_ble_eq_true rfl), hR⟩ ⟨rfl, rfl, rfl, by dsimp only; rw [List.length_append]; rfl, rfl, rfl, rfl, trivial⟩ rfl rfl rfl rfl rfl⟩
      simp at hb
    have hge : j = 2 := by
      have : decide ((j : Int) < 2) = false := hb
      rw [decide_eq_false_iff_not] at this; omega
    subst hge
    clear hb
    have hs2 : sdT y 2 = sidesD y := rfl
    rw [hs2] at htd
    subst htd
    have hsl := sdT_len y 2
    rw [hs2] at hsl
    refine mW ?_; clear H; intro a w H
    rw [show (n : Int) + 1 = ((n + 1 : Nat) : Int) by omega] at H
    exact ⟨(q2, γ2, es3, td ++ sidesD y, n + 1), ⟨hI3, hv3, hD2, by dsimp only; rw [List.length_append]; omega, by dsimp only; omega⟩, by dsimp only; rw [List.length_append, List.length_append, List.length_singleton]; omega, H.to 5 0 ⟨Nat.le_trans hN (Nat.le_of_ble_eq_true rfl), hR⟩ ⟨rfl, rfl, rfl, rfl, rfl, trivial⟩ rfl rfl rfl rfl rfl⟩
  have hne : todo = [] := by
    cases todo with
    | nil => rfl
    | cons h l => simp at hb
  clear hb
  subst hne
  rcases hD.inv with ⟨_, rfl, rfl⟩ | ⟨td, k, c2, y, h1, _⟩ | ⟨td, k, y, h1, _⟩
  · skip
    refine mW ?_; clear H; intro a w H
    refine wp_ret ?_; exact mEnd [0, 1, 2, 3] [] [.tmp 4, .tmp 5] [_, _] hN hR H
  · simp at h1
  simp at h1
set_option maxRecDepth 20000 in
theorem slbLen_v (γ δ n m room used : Nat) (es fs : List AV) (h : 0 < room) :
    VX Tryz.prog 38 (slbB γ δ n m room used es fs) [] [] [.ptr 0 []] (slbB γ δ n m room used es fs) [] [] (.v (.int .i64 (used : Int))) := by
  have hn := slbNone_v γ δ n m room used es fs h
  refine mE Tryz.func38 ?_; intro N w0 a w hN hR H
  refine mW ?_; clear H; intro a w H
  refine mCall [0, 1, 2] [] (hn) H ?_; clear H; intro a w H; try refine wpList_nil ?_
  refine mW ?_; clear H; intro a w H
  refine mC H (fun hb => ?_) (fun hb => ?_)
  · exact absurd hb (by decide)
  clear hb
  refine mW ?_; clear H; intro a w H
  refine wp_ret ?_; exact mEnd [0, 1, 2] [] [.tmp 2] [_] hN hR H
set_option maxRecDepth 20000 in
theorem stoOcc_v (s : Slb) (hs : s.wf) : VX Tryz.prog 8 s.sx [] [] [.ptr 0 []] s.sx [] [] (.v (.int .i64 (s.used : Int))) := by
  have hn := stoNone_v s.γ s.δ s.sl.length s.m s.room s.used (s.sl.map slA) (s.fs.map inA)
  have hl := slbLen_v s.γ s.δ s.sl.length s.m s.room s.used (s.sl.map slA) (s.fs.map inA) hs.room.1
  simp only [Slb.sx]
  generalize s.sl.map slA = es at *
  generalize s.fs.map inA = fs at *
  refine mE Tryz.func8 ?_; intro N w0 a w hN hR H
  refine mW ?_; clear H; intro a w H
  refine mCall [0, 1, 2, 3] [] (hn) H ?_; clear H; intro a w H; try refine wpList_nil ?_
  refine mW ?_; clear H; intro a w H
  refine mC H (fun hb => ?_) (fun hb => ?_)
  · exact absurd hb (by decide)
  clear hb
  refine mW ?_; clear H; intro a w H
  refine mCall [1, 2, 3] [] (hl) H ?_; clear H; intro a w H; try refine wpList_nil ?_
  refine mW ?_; clear H; intro a w H
  refine wp_ret ?_; exact mEnd [0, 1, 2, 3] [] [.tmp 2] [_] hN hR H
theorem cutW {B R : Act → World → Prop} {G : Prop} (h : (∀ a w, R a w → B a w) → G) (k : ∀ a w, R a w → B a w) : G := h k
theorem wrA_get (l : List Wr) (k : Nat) (h : k < l.length) : (l.map wrA).getD k .any = .st [.ba l[k].1, .v (.bool l[k].2.1), .bs l[k].2.2 none] := by simp [wrA, List.getD_eq_getElem?_getD, h]
def ixW (m : Nat) : List AV := (List.range m).map fun k : Nat => .v (.int .i64 (k : Int))
theorem ixW_get {m j : Nat} {v : AV} (h : (ixW m)[j]? = some v) : j < m ∧ v = .v (.int .i64 (j : Int)) := by
  unfold ixW at h
  rw [List.getElem?_map] at h
  obtain ⟨x, hx, rfl⟩ := Option.map_eq_some_iff.1 h
  obtain ⟨h1, h2⟩ := List.getElem?_eq_some_iff.1 hx
  simp at h1 h2
  exact ⟨h1, by rw [h2]⟩
abbrev lsB (out : List Wr) : List (Ty × AV) := [(.mp (.ba 32) .sc, .mp ((keyW out).map .ba) (ixW out.length)), (.vc 60 wrT, .vc out.length (out.map wrA))]
set_option maxRecDepth 20000 in
set_option maxHeartbeats 4000000 in
theorem last_b (ws : List Wr) (hk : K32W ws) (hl : ws.length ≤ 1000000) : VX Tryz.prog 60 [] [] [] [.sl wrT (ws.map wrA) none] [(.vc 60 wrT, .vc (lstW ws).length ((srtW (lstW ws)).map wrA))] [] [] (.vw 0 (lstW ws).length (lstW ws).length) := by
  have hlm : (ws.map wrA).length = ws.length := List.length_map ..
  refine mE Tryz.func60 ?_; intro N w0 a w hN hR H
  have hX := @hlm
  refine mW ?_; clear H; intro a w H
  refine mS ?_
  (try refine wp_region_lit ?_)
  refine v_mkMap (.ba 32) .sc H ?_; clear H; intro a w H
  replace H := nf H
  refine mW ?_; clear H; intro a w H
  replace H := v_nilV tab_ok H 4 60 (j := ti60) rfl (by decide) rfl
  simp only [nilT, reduceIte, Nat.reduceEqDiff] at H
  refine v_loop (fun k : Nat => ⟨[(12, none, .v (.int .i64 (k : Int))), (11, none, .v (.int .i64 (ws.length : Int))), (10, none, .sl wrT (ws.map wrA) none), (4, none, .vw 1 (lstW (ws.take k)).length (lstW (ws.take k)).length), (3, none, .mr 0), (2, none, .v (.slice none 0 0)), (0, none, .sl wrT (ws.map wrA) none)],
    lsB (lstW (ws.take k)), [], []⟩) (fun k => k ≤ ws.length) (fun k => ws.length - k) 0 (Nat.zero_le _) (H.to 2 0 ⟨Nat.le_trans hN (by decide), hR⟩ ⟨rfl, rfl, rfl, rfl, rfl, rfl, rfl, trivial⟩ rfl rfl rfl rfl rfl) ?_
  clear H
  rintro k a w hk1 H
  refine mW ?_; clear H; intro a w H
  refine mC H (fun hb => ?_) (fun hb => ?_)
  · have hlt : k < ws.length := by simpa using hb
    clear hb
    have hg := wrA_get ws k hlt
    have hp32 := hk _ (List.getElem_mem hlt)
    have hst : lstW (ws.take (k + 1)) = putW (lstW (ws.take k)) (nzW ws[k]) := by rw [List.take_succ_eq_append_getElem hlt, lstW_snoc]
    have hdi := lstW_dis (ws.take k)
    have hol : (lstW (ws.take k)).length ≤ k := Nat.le_trans (lstW_len _) (by rw [List.length_take]; omega)
    obtain ⟨out', ho'⟩ : ∃ o, lstW (ws.take (k + 1)) = o := ⟨_, rfl⟩
    rw [ho'] at hst
    generalize lstW (ws.take k) = out at *
    obtain ⟨p, hpp⟩ : ∃ p, p = ws[k] := ⟨_, rfl⟩
    rw [← hpp] at hg hp32 hst
    obtain ⟨kb, gb, vb⟩ := p
    dsimp only at hg hp32 hst
    have hom : (out.map wrA).length = out.length := List.length_map ..
    refine mS ?_
    clear hX; have hX := And.intro @hlm (@hg)
    (try refine wp_region_lit ?_); refine mN 3 hN H ?_; clear H; intro a w H
    refine mW ?_; clear H; intro a w H
    revert a w
    apply cutW (R := fun a w => ∃ nv, SeeX [] nv (.bs (if gb then [] else vb) none) ∧ Rel Tryz.prog w0 N Tryz.f60.ntmps ⟨[(6, none, .ptr 2 []), (12, none, .v (.int .i64 (k : Int))), (11, none, .v (.int .i64 (ws.length : Int))), (10, none, .sl wrT (ws.map wrA) none), (4, none, .vw 1 out.length out.length), (3, none, .mr 0), (2, none, .v (.slice none 0 0)), (0, none, .sl wrT (ws.map wrA) none)],
      [(.mp (.ba 32) .sc, .mp ((keyW out).map .ba) (ixW out.length)), (.vc 60 wrT, .vc out.length (out.map wrA)), (wrT, .st [.ba kb, .v (.bool gb), nv])], [], []⟩ a w)
    · intro key1 a w H
      refine mC H (fun hb => ?_) (fun hb => ?_)
      · refine mS ?_
        (try refine wp_region_lit ?_); refine mN 2 hN H ?_; clear H; intro a w H
        (try refine wpList_nil ?_)
        refine mS ?_
        refine key1 _ _ ⟨_, ?_, H.to 3 0 ⟨Nat.le_trans hN (by decide), hR⟩ ⟨rfl, rfl, rfl, rfl, rfl, rfl, rfl, rfl, trivial⟩ rfl rfl rfl rfl rfl⟩
        rw [if_pos hb]; exact .nil
      refine mS ?_
      refine key1 _ _ ⟨_, ?_, H.to 3 0 ⟨Nat.le_trans hN (by decide), hR⟩ ⟨rfl, rfl, rfl, rfl, rfl, rfl, rfl, rfl, trivial⟩ rfl rfl rfl rfl rfl⟩
      rw [hb, if_neg (by decide)]; exact .refl _
    rintro a w ⟨nv, hnv, H⟩
    refine mS ?_
    clear hX; have hX := @hlm
    (try refine wp_region_lit ?_); refine mN 3 hN H ?_; clear H; intro a w H
    have hnz : nzW (kb, gb, vb) = (kb, gb, if gb then [] else vb) := rfl
    rw [hnz] at hst
    clear hnz
    generalize (if gb then [] else vb) = nb at *
    have hk1 : out'.length = if kb ∈ keyW out then out.length else out.length + 1 := by
      have e := congrArg List.length (putW_key out (kb, gb, nb))
      rw [← hst] at e
      unfold keyW at e ⊢
      rw [List.length_map] at e
      split at e <;> (rename_i hh; first | rw [if_pos hh] | rw [if_neg hh]) <;> simpa using e
    have hk2 := putW_key out (kb, gb, nb)
    rw [← hst] at hk2
    have hse : SeeX [] (.st [.ba kb, .v (.bool gb), nv]) (wrA (kb, gb, nb)) := .st rfl fun i q1 q2 => by
      match i, q1 with
      | 0, _ => exact .refl _
      | 1, _ => exact .refl _
      | 2, _ => exact hnv
    have hwe : wrA (kb, gb, nb) = .st [.ba kb, .v (.bool gb), .bs nb none] := rfl
    have htk : (out.map wrA).take out.length = out.map wrA := List.take_of_length_le (by rw [hom]; exact Nat.le_refl _)
    refine v_look2 ktW H Tryz.underlying156 Tryz.zeroValue3 (z := .v (.int .i64 0)) (fun g => .inr (.v rfl)) hp32 ?_ ?_
    · intro hnm
      clear H; intro a w H
      replace H := nf H
      rw [if_neg hnm] at hk1 hk2
      rw [putW_new _ _ hnm] at hst
      refine mW ?_; clear H; intro a w H
      refine mC H (fun hb => ?_) (fun hb => ?_)
      · cases hb
      refine mS ?_
      (try refine wp_region_lit ?_); refine mN 5 hN H ?_; clear H; intro a w H
      refine v_mapNew ktW H Tryz.underlying156 hp32 hnm ?_; clear H; intro a w H
      replace H := nf H
      (try refine wpList_nil ?_)
      refine mS ?_
      (try refine wp_region_lit ?_); refine mN 2 hN H ?_; clear H; intro a w H
      replace H := v_seeX (Xs.nil 0 N w0) H 37 _ hse rfl
      simp only [nilT, reduceIte, Nat.reduceEqDiff] at H
      rw [hwe] at H
      clear hX; have hX := And.intro @hom (@htk)
      refine mW ?_; clear H; intro a w H
      rw [show (k : Int) + 1 = ((k + 1 : Nat) : Int) by omega] at H
      have e1 : (keyW out).map AV.ba ++ [.ba kb] = (keyW out').map .ba := by rw [hk2, List.map_append]; rfl
      have e2 : ixW out.length ++ [.v (.int .i64 (out.length : Int))] = ixW out'.length := by rw [hk1]; unfold ixW; rw [List.range_succ, List.map_append]; rfl
      have e3 : out.map wrA ++ [.st [.ba kb, .v (.bool gb), .bs nb none]] = out'.map wrA := by rw [hst, List.map_append]; rfl
      rw [e1, e2, e3, ← hk1] at H
      refine ⟨k + 1, hlt, by omega, ?_⟩
      rw [ho']
      exact H.to 2 0 ⟨Nat.le_trans hN (by decide), hR⟩ ⟨rfl, rfl, rfl, rfl, rfl, rfl, rfl, trivial⟩ rfl rfl rfl rfl rfl
    intro j v hj hvj
    clear H; intro a w H
    obtain ⟨hjl, hve⟩ := ixW_get hvj
    subst hve
    rw [if_pos (List.mem_of_getElem? hj)] at hk1 hk2
    rw [putW_set _ _ _ hdi hj] at hst
    clear hX; have hX := And.intro @hom (@htk)
    replace H := nf H
    refine mW ?_; clear H; intro a w H
    refine mC H (fun hb => ?_) (fun hb => ?_)
    · refine mS ?_
      (try refine wp_region_lit ?_); refine mN 3 hN H ?_; clear H; intro a w H
      replace H := v_seeX (Xs.nil 0 N w0) H 29 _ hse rfl
      simp only [nilT, reduceIte, Nat.reduceEqDiff] at H
      rw [hwe] at H
      clear hX; have hX := @hom
      refine mW ?_; clear H; intro a w H
      rw [show (k : Int) + 1 = ((k + 1 : Nat) : Int) by omega] at H
      have e4 : (out.map wrA).set j (.st [.ba kb, .v (.bool gb), .bs nb none]) = out'.map wrA := by rw [hst, List.map_set]; rfl
      rw [e4, ← hk2, ← hk1] at H
      refine ⟨k + 1, hlt, by omega, ?_⟩
      rw [ho']
      exact H.to 2 0 ⟨Nat.le_trans hN (by decide), hR⟩ ⟨rfl, rfl, rfl, rfl, rfl, rfl, rfl, trivial⟩ rfl rfl rfl rfl rfl
    cases hb
  have hke : k = ws.length := by simp at hb; omega
  clear hb
  subst hke
  rw [List.take_length] at H
  have hdi := lstW_dis ws
  have hll := lstW_len ws
  generalize lstW ws = out at *
  have hs := sortW_v out out.length hdi (by omega)
  have hsl : (srtW out).length = out.length := (srtW_perm out).length_eq
  refine mS ?_
  clear hX
  (try refine wp_region_lit ?_); refine mN 1 hN H ?_; clear H; intro a w H
  refine mCall [1] [] (hs) H ?_; clear H; intro a w H; try refine wpList_nil ?_
  refine mW ?_; clear H; intro a w H
  refine wp_ret ?_; exact mEnd [1] [] [.tmp 2] [_] hN hR H
set_option maxRecDepth 20000 in
set_option maxHeartbeats 4000000 in
theorem wkeys_v (ws : List Wr) (hk : K32W ws) (hl : ws.length ≤ 1000000) : VC Tryz.prog 89 [.sl wrT (ws.map wrA) none] [] (.v (.int .i64 ((lstW ws).length : Int))) := by
  have hs := last_b ws hk hl
  generalize (srtW (lstW ws)).map wrA = es at *
  generalize (lstW ws).length = m at *
  refine mE Tryz.func89 ?_; intro N w0 a w hN hR H
  refine mW ?_; clear H; intro a w H
  refine mCall [] [] (hs) H ?_; clear H; intro a w H; try refine wpList_nil ?_
  refine mW ?_; clear H; intro a w H
  refine wp_ret ?_; exact mEnd [] [] [.tmp 2] [_] hN hR H
end Go.Proofs.YtgffimanhmpohaaGreat
